/-
  Expressions: levels of operators, the check, the text, the sort: plain; the reference's forms are the program's.
  Levels of operators: exprs.level, exprs.single, exprs.takes; the reference's levels and Level.
  exprs.check answers 'chkE'.
  strings.Builder at this dump (whose copyCheck ends in a refusal where a builder would be copied): copyCheck, WriteByte, WriteString.
-/
import Derived.Test.YtmklodgcbldndaaDoorM2
import Derived.Lib.ItoaNum
import Derived.Laws.StructEq
import Derived.Shelf.Strings.Builder1
namespace Go.Proofs.YtmklodgcbldndaaDoor
open Go.RowKit Go.Proofs

set_option maxRecDepth 100000
/-- How tightly an operator of two holds. -/
def level (op : Str) : Int :=
  if op = [111, 114] then 1 else if op = [97, 110, 100] then 2
  else if op = [61, 61] ∨ op = [60] ∨ op = [60, 61] then 3
  else if op = [43] ∨ op = [45] ∨ op = [43, 43] then 4
  else if op = [42] ∨ op = [47] ∨ op = [37] then 5 else 0
theorem level_lt (op : Str) : 0 ≤ level op ∧ level op ≤ 5 := by
  unfold level
  repeat' split
  all_goals decide
/-- An operator of one. -/
def lone (op : Str) : Bool := decide (op = [110, 111, 116]) || (decide (op = [110, 101, 103]) || decide (op = [35]))
/-- No value. -/
def bare (t : Ex) : Bool := decide (t.vs = 0) && (decide (t.vn = 0) && decide (t.vt = []))
/-- What is wrong with a part alone; 9: nothing, but look at its parts. -/
def exOne (t : Ex) : Int :=
  if t.kind = 1 ∧ t.name = [] ∧ t.kids.length = 0 then vchk t.vs t.vn t.vt
  else if t.kind = 2 ∧ bare t = true ∧ t.kids.length = 0 ∧ isName t.name = true then 0
  else if t.kind = 3 ∧ bare t = true ∧ ((lone t.name = true ∧ t.kids.length = 1) ∨ (0 < level t.name ∧ t.kids.length = 2)) then 9
  else 1
section
variable {k : Int} {n : Str} {s v : Int} {x : Str} {ks : List Ex}
theorem exOne_1n (h : n ≠ []) : exOne (.mk 1 n s v x ks) = 1 := by simp [exOne, Ex.kind_mk, Ex.name_mk, h]
theorem exOne_1k (h : ks.length ≠ 0) : exOne (.mk 1 n s v x ks) = 1 := by
  have h' : ks ≠ [] := fun e => h (by rw [e]; rfl)
  simp [exOne, Ex.kind_mk, Ex.name_mk, Ex.kids_mk, h']
theorem exOne_1 (h : ks.length = 0) : exOne (.mk 1 [] s v x ks) = vchk s v x := by unfold exOne; exact if_pos ⟨rfl, rfl, h⟩
theorem exOne_2b (h : bare (.mk 2 n s v x ks) = false) : exOne (.mk 2 n s v x ks) = 1 := by simp [exOne, Ex.kind_mk, h]
theorem exOne_2n (h : isName n = false) : exOne (.mk 2 n s v x ks) = 1 := by simp [exOne, Ex.kind_mk, Ex.name_mk, h]
theorem exOne_2k (h : ks.length ≠ 0) : exOne (.mk 2 n s v x ks) = 1 := by
  have h' : ks ≠ [] := fun e => h (by rw [e]; rfl)
  simp [exOne, Ex.kind_mk, Ex.kids_mk, h']
theorem exOne_2 (h : bare (.mk 2 n s v x ks) = true) (hk : ks.length = 0) (hn : isName n = true) : exOne (.mk 2 n s v x ks) = 0 := by
  have h' : ks = [] := List.eq_nil_of_length_eq_zero hk
  subst h'
  simp [exOne, Ex.kind_mk, Ex.kids_mk, Ex.name_mk, h, hn]
theorem exOne_3 : exOne (.mk 3 n s v x ks) = if bare (.mk 3 n s v x ks) = true ∧ ((lone n = true ∧ ks.length = 1) ∨ (0 < level n ∧ ks.length = 2)) then 9 else 1 := by simp [exOne, Ex.kind_mk, Ex.kids_mk, Ex.name_mk]
theorem exOne_o (h1 : k ≠ 1) (h2 : k ≠ 2) (h3 : k ≠ 3) : exOne (.mk k n s v x ks) = 1 := by simp [exOne, Ex.kind_mk, h1, h2, h3]
end
mutual
/-- Check: the error, and how many parts are left. -/
def chkE (t : Ex) (left : Int) : Int × Int :=
  match t with
  | .mk k n s v x ks => if left - 1 < 0 then (2, left - 1) else if exOne (.mk k n s v x ks) = 9 then chkEs ks (left - 1) else (exOne (.mk k n s v x ks), left - 1)
def chkEs (ks : List Ex) (left : Int) : Int × Int :=
  match ks with
  | [] => (0, left)
  | k :: r => if (chkE k left).1 = 0 then chkEs r (chkE k left).2 else chkE k left
end
def exErr (t : Ex) : Int := (chkE t 60).1
/-- The reference's list. -/
def listE : Nat → List Ex → Int
  | _, [] => 0
  | 0, _ :: _ => 2
  | m + 1, t :: r => if exOne t = 9 then listE m (t.kids ++ r) else if exOne t = 0 then listE m r else exOne t

def AgreeE (m : Nat) (x : Int × Int) (stack rest : List Ex) : Prop :=
  (x.1 = 0 → ∃ m' : Nat, m' ≤ m ∧ x.2 = m' ∧ listE m stack = listE m' rest) ∧ (x.1 ≠ 0 → listE m stack = x.1)
theorem exOne_9 {t : Ex} (h : exOne t ≠ 9) (h0 : exOne t = 0) : t.kids = [] := by
  unfold exOne at h h0
  split at h0
  · rename_i h1; exact List.eq_nil_of_length_eq_zero h1.2.2
  · split at h0
    · rename_i h1; exact List.eq_nil_of_length_eq_zero h1.2.2.1
    · split at h0 <;> omega
mutual
theorem agreeE : ∀ (t : Ex) (rest : List Ex) (m : Nat), AgreeE m (chkE t m) (t :: rest) rest
  | .mk k n s v x ks, rest, m => by
    unfold chkE AgreeE
    cases m with
    | zero => simp [listE]
    | succ m =>
      have e1 : ¬ ((m + 1 : Nat) : Int) - 1 < 0 := by omega
      have e2 : ((m + 1 : Nat) : Int) - 1 = (m : Nat) := by omega
      rw [if_neg e1, e2]
      by_cases h9 : exOne (.mk k n s v x ks) = 9
      · rw [if_pos h9]
        have := agreeEs ks rest m
        unfold AgreeE at this
        refine ⟨fun h => ?_, fun h => ?_⟩
        · obtain ⟨m', h1, h2, h3⟩ := this.1 h
          exact ⟨m', by omega, h2, by simp only [listE, if_pos h9]; exact h3⟩
        · simp only [listE, if_pos h9]
          exact this.2 h
      · rw [if_neg h9]
        refine ⟨fun h => ⟨m, by omega, rfl, ?_⟩, fun h => ?_⟩
        · simp only at h
          simp only [listE, if_neg h9, if_pos h]
        · simp only at h
          simp only [listE, if_neg h9, if_neg h]
theorem agreeEs : ∀ (ks : List Ex) (rest : List Ex) (m : Nat), AgreeE m (chkEs ks m) (ks ++ rest) rest
  | [], rest, m => by
    unfold chkEs AgreeE
    exact ⟨fun _ => ⟨m, Nat.le_refl _, rfl, rfl⟩, fun h => absurd rfl h⟩
  | k :: r, rest, m => by
    unfold chkEs
    have h1 := agreeE k (r ++ rest) m
    by_cases h : (chkE k m).1 = 0
    · rw [if_pos h]
      obtain ⟨m', h2, h3, h4⟩ := h1.1 h
      have h5 := agreeEs r rest m'
      rw [h3]
      unfold AgreeE at h5 ⊢
      rw [List.cons_append, h4]
      refine ⟨fun h => ?_, h5.2⟩
      obtain ⟨m2, h6, h7⟩ := h5.1 h
      exact ⟨m2, by omega, h7⟩
    · rw [if_neg h]
      exact ⟨fun h' => absurd h' h, h1.2⟩
end
theorem exErr_list (t : Ex) : listE 60 [t] = exErr t := by
  have := agreeE t [] 60
  unfold AgreeE at this
  unfold exErr
  by_cases h : (chkE t (60 : Nat)).1 = 0
  · obtain ⟨m', _, _, h2⟩ := this.1 h
    rw [h2]
    have e : (chkE t 60).1 = 0 := h
    rw [e]
    cases m' <;> rfl
  · exact this.2 h

/-- A good expression: each part is as it must be. -/
inductive GoodE : Ex → Prop where
  | mk (t : Ex) (h : exOne t = 0 ∨ exOne t = 9) (hk : ∀ k ∈ t.kids, GoodE k) : GoodE t
mutual
theorem goodE_of : ∀ (t : Ex) (left : Int), (chkE t left).1 = 0 → GoodE t
  | .mk k n s v x ks, left, h => by
    unfold chkE at h
    split at h
    · simp at h
    · split at h
      · rename_i h9
        exact .mk _ (Or.inr h9) (goodEs_of ks _ h)
      · rename_i h9
        refine .mk _ (Or.inl h) ?_
        rw [exOne_9 h9 h]
        simp
theorem goodEs_of : ∀ (ks : List Ex) (left : Int), (chkEs ks left).1 = 0 → ∀ t ∈ ks, GoodE t
  | [], _, _ => by simp
  | k :: r, left, h => by
    unfold chkEs at h
    intro t ht
    split at h
    · rename_i h1
      rcases List.mem_cons.1 ht with e | ht
      · rw [e]; exact goodE_of k _ h1
      · exact goodEs_of r _ h t ht
    · rename_i h1
      exact absurd h h1
end

/-- The text of a value. -/
def esc (l : Str) : Str := l.flatMap fun b => if b = 10 then [92, 110] else if b = 92 ∨ b = 34 then [92, b] else [b]
def vtxt (s n : Int) (t : Str) : Str := if s = 1 then Lib.itoa n else if s = 2 then (if n = 1 then [116, 114, 117, 101] else [102, 97, 108, 115, 101]) else 34 :: (esc t ++ [34])
/-- The signs ahead of what an operator of one is of. -/
def ahead (n : Str) : Str := if n = [110, 101, 103] then [45, 32] else if n = [110, 111, 116] then [110, 111, 116, 32] else n
def paren (b : Bool) (s : Str) : Str := if b then 40 :: (s ++ [41]) else s
/-- The text of an expression. -/
def txtE : Ex → Str
  | .mk k n s v x [] => if k = 1 then vtxt s v x else n
  | .mk k n s v x [a] => if k = 1 then vtxt s v x else if k = 2 then n else ahead n ++ paren (decide (a.kids.length = 2)) (txtE a)
  | .mk k n s v x (a :: b :: r) => if k = 1 then vtxt s v x else if k = 2 then n else
      paren (decide (a.kids.length = 2 ∧ level a.name < level n)) (txtE a) ++ ([32] ++ n ++ [32]) ++ paren (decide (b.kids.length = 2 ∧ level b.name < level n + 1)) (txtE b)
/-- What an operator is of (none: any, if both are the same), and what comes of it. -/
def takesIn (n : Str) : Int := if n = [111, 114] ∨ n = [97, 110, 100] ∨ n = [110, 111, 116] then 2 else if n = [61, 61] ∨ n = [60] ∨ n = [60, 61] then 0 else if n = [43, 43] ∨ n = [35] then 3 else 1
def takesOut (n : Str) : Int := if n = [111, 114] ∨ n = [97, 110, 100] ∨ n = [110, 111, 116] then 2 else if n = [61, 61] ∨ n = [60] ∨ n = [60, 61] then 2 else if n = [43, 43] then 3 else 1
/-- The last one of a name counts. -/
def lookN (ns : List Str) (ss : List Int) (x : Str) : Nat → Option Int
  | 0 => none
  | n + 1 => if ns.getD n [] = x then some (ss.getD n 0) else lookN ns ss x n
mutual
def sortE (ns : List Str) (ss : List Int) : Ex → Int × Int
  | .mk k n s _ _ ks => if k = 1 then (s, 0) else if k = 2 then (match lookN ns ss n ns.length with | some v => (v, 0) | none => (0, 4))
      else sortEs ns ss (takesOut n) ks (if takesIn n = 0 then none else some (takesIn n))
def sortEs (ns : List Str) (ss : List Int) (out : Int) : List Ex → Option Int → Int × Int
  | [], _ => (out, 0)
  | k :: r, w => if (sortE ns ss k).2 ≠ 0 then (0, (sortE ns ss k).2) else match w with
      | none => sortEs ns ss out r (some (sortE ns ss k).1)
      | some v => if (sortE ns ss k).1 = v then sortEs ns ss out r (some v) else (0, 5)
end
theorem sortEs_any (ns : List Str) (ss : List Int) (out : Int) (k : Ex) (r : List Ex) (h : (sortE ns ss k).2 = 0) : sortEs ns ss out (k :: r) (some (sortE ns ss k).1) = sortEs ns ss out (k :: r) none := by
  simp [sortEs, h]
end Go.Proofs.YtmklodgcbldndaaDoor
namespace Go.Proofs.YtmklodgcbldndaaDoor
open Go.RowKit Go.Proofs

set_option maxRecDepth 100000
set_option maxHeartbeats 1000000 in
theorem level_any (l : Str) (w : World) : Calls Tryd.prog 40 #[.string ⟨l.toArray⟩] w fun e w' => e = .returned (.int .i64 (level l)) ∧ w' = w := by
  go_enter Tryd.func40, Tryd.ntmps40
  go_wp2_with fail
  all_goals
    go_ret
    refine ⟨ret_int ?_, rfl⟩
    simp_all [level]
set_option maxHeartbeats 1000000 in
theorem single_any (l : Str) (w : World) : Calls Tryd.prog 43 #[.string ⟨l.toArray⟩] w fun e w' => e = .returned (.bool (lone l)) ∧ w' = w := by
  go_enter Tryd.func43, Tryd.ntmps43
  go_wp2_with fail
  all_goals
    go_ret
    refine ⟨ret_bool ?_, rfl⟩
    rw [Bool.eq_iff_iff]
    simp_all [lone]
set_option maxHeartbeats 1000000 in
theorem takes_any (l : Str) (w : World) : Calls Tryd.prog 41 #[.string ⟨l.toArray⟩] w fun e w' => e = .returned (.tuple #[.int .i64 (takesIn l), .int .i64 (takesOut l)]) ∧ w' = w := by
  obtain ⟨I, hI⟩ : ∃ x, takesIn l = x := ⟨_, rfl⟩
  obtain ⟨O, hO⟩ : ∃ x, takesOut l = x := ⟨_, rfl⟩
  have HI := Lib.hid hI
  have HO := Lib.hid hO
  rw [hI, hO]
  clear hI hO
  go_enter Tryd.func41, Tryd.ntmps41
  go_wp2_with fail
  all_goals
    go_ret2
    have e1 := HI.out
    have e2 := HO.out
    refine ⟨?_, rfl⟩
    have : I = _ ∧ O = _ := ⟨e1.symm, e2.symm⟩
    rw [this.1, this.2]
    simp_all [takesIn, takesOut]
/-- The levels, one behind the other. -/
def levelsL : List (List Str) := [[[111, 114]], [[97, 110, 100]], [[61, 61], [60], [60, 61]], [[43], [45], [43, 43]], [[42], [47], [37]]]
def findLv : List (List Str) → Int → Str → Int
  | [], _, _ => 0
  | x :: r, k, l => if l ∈ x then k + 1 else findLv r (k + 1) l
theorem level_find (l : Str) : level l = findLv levelsL 0 l := by
  simp only [level, findLv, levelsL, List.mem_cons, List.not_mem_nil, or_false]
  repeat' split
  all_goals first | rfl | simp_all
/-- Rows of rows of texts. -/
def StrRows (w : World) (v : Value) (ll : List (List Str)) : Prop := ∃ b, v = .slice (some ⟨b, 0, none⟩) ll.length ll.length ∧ ∀ i l, ll[i]? = some l → ∃ A n c, w.cell? ⟨b, i, none⟩ = some (.slice A n c) ∧ IsStrs w (.slice A n c) l
set_option maxHeartbeats 1000000 in
theorem levels_any (w : World) : Calls Tryd.prog 39 #[] w fun e w' => (∃ v, e = .returned v ∧ StrRows w' v levelsL) ∧ Below w.heap.size w w' := by
  go_enter Tryd.func39, Tryd.ntmps39
  go_wp2_with fail
  go_ret
  refine ⟨⟨_, rfl, _, rfl, fun i l hi => ?_⟩, by go_grown⟩
  match i, hi with
  | 0, hi | 1, hi | 2, hi | 3, hi | 4, hi =>
    simp [levelsL] at hi
    subst hi
    refine ⟨_, _, _, by simp [go_sem]; rfl, ⟨_, _, rfl, Nat.le_refl _, fun _ => ⟨_, 0, rfl, fun j s hj => ?_⟩⟩⟩
    match j, hj with
    | 0, hj | 1, hj | 2, hj => simp at hj; try (subst hj; simp [go_sem])
    | j + 3, hj => simp at hj
  | i + 5, hi => simp [levelsL] at hi
set_option maxHeartbeats 1000000 in
theorem refLevel_any (l : Str) (w : World) : Calls Tryd.prog 20 #[.string ⟨l.toArray⟩] w fun e w' => e = .returned (.int .i64 (level l)) ∧ Below w.heap.size w w' := by
  obtain ⟨ANS, hA⟩ : ∃ x, level l = x := ⟨_, rfl⟩
  have HA := Lib.hid hA; rw [hA]; clear hA
  go_enter Tryd.func20, Tryd.ntmps20
  go_wp2_with fail
  refine (levels_any w).mono ?_; rintro e w1 ⟨⟨v, rfl, hv⟩, hb⟩
  obtain ⟨b, rfl, hr⟩ := hv
  have HR := Lib.hid hr; clear hr
  go_wp2_with fail
  go_loop [4] (fun i => ∃ k : Nat, k ≤ 5 ∧ i = .int .i64 k ∧ Hid (level l = findLv (levelsL.drop k) k l)) (fun i => 5 - (intOf i).toNat)
  case atStart => exact ⟨0, by omega, rfl, level_find l⟩
  case round =>
    obtain ⟨k, hk, rfl, hf⟩ := hrel
    by_cases hlt : k < 5
    · obtain ⟨x, hx⟩ : ∃ x, levelsL[k]? = some x := ⟨_, List.getElem?_eq_getElem (by simpa [levelsL] using hlt)⟩
      obtain ⟨A, n, c, hc, hs⟩ := HR.out k x hx
      have HF : level l = findLv (x :: levelsL.drop (k + 1)) k l := by
        have := hf.out
        rw [List.drop_eq_getElem_cons (by simpa [levelsL] using hlt)] at this
        rw [(List.getElem?_eq_some_iff.1 hx).2] at this
        exact this
      have HF' := Lib.hid HF
      have hxl : x.length ≤ 100 := by
        have : ∀ y ∈ levelsL, y.length ≤ 100 := by decide
        exact this x (List.mem_of_getElem? hx)
      have HS := Lib.hid hs
      clear HF hf hx hs
      by_cases hm : l ∈ x
      all_goals
        have HM := Lib.hid hm
        clear hm
        go_wp2_with fail
        refine (contains_any HS.out (by omega) l).mono ?_; rintro e w2 ⟨rfl, rfl⟩
        have hd : decide (l ∈ x) = decide (l ∈ x) := rfl
        simp only [HM.out, decide_true, decide_false]
        go_wp2_with fail
      · go_ret
        refine ⟨ret_int ?_, hb⟩
        have := HF'.out
        rw [findLv, if_pos HM.out, HA.out] at this
        exact this.symm
      · go_round
        case rel =>
          refine ⟨k + 1, by omega, by go_num, ?_⟩
          have := HF'.out
          rw [findLv, if_neg HM.out] at this
          exact this
        case measure => simp [intOf]; omega
    · have : k = 5 := by omega
      subst this
      go_wp2_with fail
      go_ret
      refine ⟨ret_int ?_, hb⟩
      have := hf.out
      rw [HA.out] at this
      rw [this]; rfl
end Go.Proofs.YtmklodgcbldndaaDoor
namespace Go.Proofs.YtmklodgcbldndaaDoor
open Go.RowKit Go.Proofs

theorem Tabs.same {D : Blocks} {w w' : World} (h : Tabs w) (hs : Same D w w') (h1 : D 0) (h2 : D 1) : Tabs w' :=
  ⟨fun c hc => hs.cell h1 (h.1 c hc), fun i hi => ⟨hs.cell h2 (h.2 i hi).1, hs.cell h2 (h.2 i hi).2⟩⟩
theorem Tabs.lt {w : World} (h : Tabs w) : 0 < w.heap.size ∧ 1 < w.heap.size := ⟨cell_lt (h.1 0 (by decide)), cell_lt (h.2 0 (by decide)).1⟩
/-- The tables, and a block that is written and is none of them. -/
structure TabsP (p : Nat) (w : World) : Prop where
  t : Tabs w
  n1 : 0 ≠ p
  n2 : 1 ≠ p
theorem TabsP.grown {p : Nat} {w w' : World} (h : TabsP p w) (hg : w.grownBy w' (some p)) : TabsP p w' := ⟨h.t.same (same_p hg) h.n1 h.n2, h.n1, h.n2⟩
theorem TabsP.new {p : Nat} {w : World} (h : Tabs w) (hp : w.heap.size ≤ p) : TabsP p w := ⟨h, by have := h.lt.1; omega, by have := h.lt.2; omega⟩
theorem valid_any (s : List UInt8) (w : World) (hs : s.length ≤ 9223372036854775807) (hT : Tabs w) :
    Calls Tryd.prog 36 #[.string ⟨s.toArray⟩] w fun e w' => e = .returned (.bool (Lib.validD s)) ∧ Below w.heap.size w w' :=
  Any.utf8_ValidString Tryd.lays196 ⟨s.toArray⟩ w (by rw [Lib.size_eq]; exact hs) hT

set_option maxHeartbeats 400000 in
theorem vcheck_any (s n : Int) (w : World) (t : List UInt8) (hs : t.length ≤ 9223372036854775807) (hT : Tabs w) :
    Calls Tryd.prog 18 #[.agg #[.int .i64 s, .int .i64 n, .string ⟨t.toArray⟩]] w fun e w' => e = .returned (.int .i64 (vchk s n t)) ∧ Below w.heap.size w w' := by
  by_cases h3 : s = 3 ∧ n = 0
  · obtain ⟨rfl, rfl⟩ := h3
    by_cases hl : 100 < t.length
    · have hl' : (100 : Int) < (t.length : Int) := by omega
      go_enter Tryd.func18, Tryd.ntmps18
      go_wp2
      go_ret
      exact ⟨by simp [vchk, hl], by go_grown⟩
    · have hl' : ¬ (100 : Int) < (t.length : Int) := by omega
      go_enter Tryd.func18, Tryd.ntmps18
      go_wp2_with (go_at_call 36; go_must (refine (valid_any t _ hs (hT.below (by go_grown))).mono ?_; rintro e w1 ⟨rfl, hb⟩))
      all_goals (go_ret; refine ⟨?_, step (by go_grown) hb (by simp)⟩)
      all_goals (first | (simp [vchk, *]; done) | (simp_all [vchk]; done))
  · have hc : ¬ (s = 3 ∧ n = 0) := h3
    go_enter Tryd.func18, Tryd.ntmps18
    go_wp2_with fail
    all_goals (go_ret; refine ⟨?_, by go_grown⟩)
    all_goals (first | (simp [vchk, *]; done) | (simp_all [vchk]; done))
end Go.Proofs.YtmklodgcbldndaaDoor
namespace Go.Proofs.YtmklodgcbldndaaDoor
open Go.RowKit Go.Proofs

set_option maxRecDepth 100000
mutual
def eparts : Ex → Nat
  | .mk _ _ _ _ _ ks => 1 + epartss ks
def epartss : List Ex → Nat
  | [] => 0
  | k :: r => eparts k + epartss r
end
theorem eparts_at {ks : List Ex} {c : Ex} (h : c ∈ ks) : eparts c ≤ epartss ks := by
  induction ks with
  | nil => simp at h
  | cons k r ih =>
    simp only [epartss]
    rcases List.mem_cons.1 h with rfl | h
    · omega
    · have := ih h; omega
theorem chkEs_drop {ks : List Ex} {l : Int} {k : Nat} {c : Ex} (h : ks[k]? = some c) : chkEs (ks.drop k) l = if (chkE c l).1 = 0 then chkEs (ks.drop (k + 1)) (chkE c l).2 else chkE c l := by
  obtain ⟨h1, h2⟩ := List.getElem?_eq_some_iff.1 h
  rw [List.drop_eq_getElem_cons h1, h2]
  rfl
mutual
theorem chkE_le : ∀ (t : Ex) (l : Int), (chkE t l).2 ≤ l ∧ ((chkE t l).1 = 0 → 0 ≤ l → 0 ≤ (chkE t l).2)
  | .mk k n s v x ks, l => by
    unfold chkE
    split
    · exact ⟨by simp only; omega, fun h => by simp at h⟩
    · split
      · have := chkEs_le ks (l - 1)
        exact ⟨by omega, fun h h' => this.2 h (by omega)⟩
      · exact ⟨by simp only; omega, fun _ h => by simp only; omega⟩
theorem chkEs_le : ∀ (ks : List Ex) (l : Int), (chkEs ks l).2 ≤ l ∧ ((chkEs ks l).1 = 0 → 0 ≤ l → 0 ≤ (chkEs ks l).2)
  | [], l => ⟨Int.le_refl _, fun _ h => h⟩
  | k :: r, l => by
    unfold chkEs
    have h1 := chkE_le k l
    split
    · rename_i h0
      have h2 := chkEs_le r (chkE k l).2
      exact ⟨by omega, fun h h' => h2.2 h (h1.2 h0 h')⟩
    · exact h1
end
/-- A value held against none. -/
theorem run_bare (w : World) (s n : Int) (t : Str) :
    (binOp .eql 23 (.agg #[.int .i64 s, .int .i64 n, .string ⟨t.toArray⟩]) (.agg #[.int .i64 0, .int .i64 0, .string ⟨#[]⟩])).run Tryd.prog w = .ok (.bool (decide (s = 0) && (decide (n = 0) && decide (t = [])))) w := by
  go_simp
  by_cases h1 : s = 0 <;> by_cases h2 : n = 0 <;> by_cases h3 : t = [] <;> simp [h1, h2, h3]
def ECheckSays (t : Ex) (v : Value) (p : Nat) (left : Int) (w : World) : Prop :=
  Calls Tryd.prog 24 #[v, .pointer (some ⟨p, 0, none⟩)] w fun e w' => e = .returned (.int .i64 (chkE t left).1) ∧ w.grownBy w' (some p) ∧ Left w' p (chkE t left).2
abbrev EIH (m : Nat) : Prop := ∀ (t : Ex) (v : Value) (p : Nat) (left : Int) (w : World), eparts t ≤ m → ExV (· ≠ p) w v t → ExFit 1048576 t → 0 ≤ left → left ≤ 60 → Left w p left → TabsP p w → ECheckSays t v p left w

set_option maxHeartbeats 2000000 in
theorem echeck_z (k : Int) (n : Str) (s vn : Int) (x : Str) (ks : List Ex) (v : Value) (p : Nat) (left : Int) (w : World) (hv : ExV (· ≠ p) w v (.mk k n s vn x ks)) (hf : ExFit 1048576 (.mk k n s vn x ks)) (hleft : 0 ≤ left) (hle : left ≤ 60) (hl : Left w p left) (hT : TabsP p w) (h0 : left = 0) :
    ECheckSays (.mk k n s vn x ks) v p left w := by
  unfold ECheckSays
  subst h0
  have e : chkE (.mk k n s vn x ks) 0 = (2, -1) := by simp [chkE]
  rw [e]
  clear e
  have HV := Lib.hid hv
  obtain ⟨A, L, cap, rfl, hk⟩ := hv.one'
  simp only [Ex.kind, Ex.name, Ex.vs, Ex.vn, Ex.vt, Ex.kids] at hk ⊢
  have hLL : L = ks.length := by obtain ⟨A', c', e, -, -⟩ := hk; injection e
  have hfp := hf.parts
  simp only [Ex.kind, Ex.name, Ex.vs, Ex.vn, Ex.vt, Ex.kids] at hfp
  obtain ⟨-, hn, -, -, hx, hkl, -⟩ := hfp
  have HK := Lib.hid hk
  have HF := Lib.hid hf
  have hp := hl.lt
  have HLT := Lib.hid hl
  obtain ⟨c0, cf⟩ := hl
  clear hk hf hv
  go_enter Tryd.func24, Tryd.ntmps24
  go_wp2_with fail
  all_goals
    go_ret
    exact ⟨rfl, (grown_set w p _).trans (World.grownBy_alloc _ _ _), (HLT.out.set _).keep ((Below.refl _ _).alloc (Nat.le_refl _) _)⟩
set_option maxHeartbeats 2000000 in
theorem echeck_a1 (k : Int) (n : Str) (s vn : Int) (x : Str) (ks : List Ex) (v : Value) (p : Nat) (left : Int) (w : World) (hv : ExV (· ≠ p) w v (.mk k n s vn x ks)) (hf : ExFit 1048576 (.mk k n s vn x ks)) (hleft : 0 ≤ left) (hle : left ≤ 60) (hl : Left w p left) (hT : TabsP p w) (h1 : 1 ≤ left) (hone : exOne (.mk k n s vn x ks) = 1) (hk : k = 1) (hn0 : n ≠ []) :
    ECheckSays (.mk k n s vn x ks) v p left w := by
  unfold ECheckSays
  have e : chkE (.mk k n s vn x ks) left = (1, left - 1) := by
    unfold chkE
    rw [if_neg (by omega), if_neg (by rw [hone]; decide), hone]
  rw [e]
  clear e hone
  have HV := Lib.hid hv
  obtain ⟨A, L, cap, rfl, hk⟩ := hv.one'
  simp only [Ex.kind, Ex.name, Ex.vs, Ex.vn, Ex.vt, Ex.kids] at hk ⊢
  have hLL : L = ks.length := by obtain ⟨A', c', e, -, -⟩ := hk; injection e
  have hfp := hf.parts
  simp only [Ex.kind, Ex.name, Ex.vs, Ex.vn, Ex.vt, Ex.kids] at hfp
  obtain ⟨-, hn, -, -, hx, hkl, -⟩ := hfp
  have HK := Lib.hid hk
  have HF := Lib.hid hf
  have hp := hl.lt
  have HLT := Lib.hid hl
  obtain ⟨c0, cf⟩ := hl
  clear hk hf hv
  obtain ⟨BR, hb⟩ : ∃ y, bare (.mk k n s vn x ks) = y := ⟨_, rfl⟩
  have hbr : ∀ w : World, (binOp .eql 23 (.agg #[.int .i64 s, .int .i64 vn, .string ⟨x.toArray⟩]) (.agg #[.int .i64 0, .int .i64 0, .string ⟨#[]⟩])).run Tryd.prog w = .ok (.bool BR) w := fun w => (run_bare w s vn x).trans (congrArg (fun y => Result.ok (Value.bool y) w) hb)
  clear hb
  subst hk
  have hE : n.isEmpty = false := by simpa using hn0
  clear hLL
  go_enter Tryd.func24, Tryd.ntmps24
  go_wp2_with fail
  all_goals
    go_ret
    exact ⟨rfl, (grown_set w p _).trans (World.grownBy_alloc _ _ _), (HLT.out.set _).keep ((Below.refl _ _).alloc (Nat.le_refl _) _)⟩
set_option maxHeartbeats 2000000 in
theorem echeck_a2 (k : Int) (n : Str) (s vn : Int) (x : Str) (ks : List Ex) (v : Value) (p : Nat) (left : Int) (w : World) (hv : ExV (· ≠ p) w v (.mk k n s vn x ks)) (hf : ExFit 1048576 (.mk k n s vn x ks)) (hleft : 0 ≤ left) (hle : left ≤ 60) (hl : Left w p left) (hT : TabsP p w) (h1 : 1 ≤ left) (hone : exOne (.mk k n s vn x ks) = 1) (hk : k = 1) (hn0 : n = []) (hlen : ks.length ≠ 0) :
    ECheckSays (.mk k n s vn x ks) v p left w := by
  unfold ECheckSays
  have e : chkE (.mk k n s vn x ks) left = (1, left - 1) := by
    unfold chkE
    rw [if_neg (by omega), if_neg (by rw [hone]; decide), hone]
  rw [e]
  clear e hone
  have HV := Lib.hid hv
  obtain ⟨A, L, cap, rfl, hk⟩ := hv.one'
  simp only [Ex.kind, Ex.name, Ex.vs, Ex.vn, Ex.vt, Ex.kids] at hk ⊢
  have hLL : L = ks.length := by obtain ⟨A', c', e, -, -⟩ := hk; injection e
  have hfp := hf.parts
  simp only [Ex.kind, Ex.name, Ex.vs, Ex.vn, Ex.vt, Ex.kids] at hfp
  obtain ⟨-, hn, -, -, hx, hkl, -⟩ := hfp
  have HK := Lib.hid hk
  have HF := Lib.hid hf
  have hp := hl.lt
  have HLT := Lib.hid hl
  obtain ⟨c0, cf⟩ := hl
  clear hk hf hv
  obtain ⟨BR, hb⟩ : ∃ y, bare (.mk k n s vn x ks) = y := ⟨_, rfl⟩
  have hbr : ∀ w : World, (binOp .eql 23 (.agg #[.int .i64 s, .int .i64 vn, .string ⟨x.toArray⟩]) (.agg #[.int .i64 0, .int .i64 0, .string ⟨#[]⟩])).run Tryd.prog w = .ok (.bool BR) w := fun w => (run_bare w s vn x).trans (congrArg (fun y => Result.ok (Value.bool y) w) hb)
  clear hb
  subst hk hn0
  have hL0 : ((L : Int) == 0) = false := by rw [beq_eq_false_iff_ne]; omega
  clear hLL
  go_enter Tryd.func24, Tryd.ntmps24
  go_wp2_with fail
  all_goals
    go_ret
    exact ⟨rfl, (grown_set w p _).trans (World.grownBy_alloc _ _ _), (HLT.out.set _).keep ((Below.refl _ _).alloc (Nat.le_refl _) _)⟩
set_option maxHeartbeats 2000000 in
theorem echeck_a (k : Int) (n : Str) (s vn : Int) (x : Str) (ks : List Ex) (v : Value) (p : Nat) (left : Int) (w : World) (hv : ExV (· ≠ p) w v (.mk k n s vn x ks)) (hf : ExFit 1048576 (.mk k n s vn x ks)) (hleft : 0 ≤ left) (hle : left ≤ 60) (hl : Left w p left) (hT : TabsP p w) (h1 : 1 ≤ left) (hone : exOne (.mk k n s vn x ks) = (vchk s vn x)) (hk : k = 1) (hn0 : n = []) (hlen : ks.length = 0) :
    ECheckSays (.mk k n s vn x ks) v p left w := by
  unfold ECheckSays
  have e : chkE (.mk k n s vn x ks) left = (vchk s vn x, left - 1) := by
    unfold chkE
    have : vchk s vn x ≠ 9 := by unfold vchk; repeat' split
                                 all_goals decide
    rw [if_neg (by omega), hone, if_neg this]
  rw [e]
  clear e hone
  obtain ⟨E, hE⟩ : ∃ y, vchk s vn x = y := ⟨_, rfl⟩
  have HE := Lib.hid hE
  rw [hE]
  clear hE
  have HV := Lib.hid hv
  obtain ⟨A, L, cap, rfl, hk⟩ := hv.one'
  simp only [Ex.kind, Ex.name, Ex.vs, Ex.vn, Ex.vt, Ex.kids] at hk ⊢
  have hLL : L = ks.length := by obtain ⟨A', c', e, -, -⟩ := hk; injection e
  have hfp := hf.parts
  simp only [Ex.kind, Ex.name, Ex.vs, Ex.vn, Ex.vt, Ex.kids] at hfp
  obtain ⟨-, hn, -, -, hx, hkl, -⟩ := hfp
  have HK := Lib.hid hk
  have HF := Lib.hid hf
  have hp := hl.lt
  have HLT := Lib.hid hl
  obtain ⟨c0, cf⟩ := hl
  clear hk hf hv
  obtain ⟨BR, hb⟩ : ∃ y, bare (.mk k n s vn x ks) = y := ⟨_, rfl⟩
  have hbr : ∀ w : World, (binOp .eql 23 (.agg #[.int .i64 s, .int .i64 vn, .string ⟨x.toArray⟩]) (.agg #[.int .i64 0, .int .i64 0, .string ⟨#[]⟩])).run Tryd.prog w = .ok (.bool BR) w := fun w => (run_bare w s vn x).trans (congrArg (fun y => Result.ok (Value.bool y) w) hb)
  clear hb
  subst hk hn0
  clear hn
  have hL0 : L = 0 := by rw [hLL]; exact hlen
  subst hL0
  clear hLL hlen
  go_enter Tryd.func24, Tryd.ntmps24
  go_wp2_with fail
  obtain ⟨W, hW⟩ : ∃ W, ((w.setCell ⟨p, 0, none⟩ (.int .i64 (left - 1))).alloc (.cells #[.int .i64 1, .string ⟨#[]⟩, .int .i64 s, .int .i64 vn, .string ⟨x.toArray⟩, .slice A 0 cap] 26)) = W := ⟨_, rfl⟩
  have hg : w.grownBy W (some p) := by subst hW; exact (grown_set w p _).trans (World.grownBy_alloc _ _ _)
  have hl1 : Left W p (left - 1) := by subst hW; exact (HLT.out.set _).keep ((Below.refl _ _).alloc (Nat.le_refl _) _)
  have hT1 := hT.grown hg
  try rw [hW]
  clear hW
  refine (vcheck_any s vn W x (by omega) hT1.t).mono ?_
  rw [HE.out]
  rintro e w1 ⟨rfl, hb1⟩
  go_wp2_with fail
  go_ret
  exact ⟨rfl, hg.trans (grown_below hb1 _), hl1.keep hb1⟩
set_option maxHeartbeats 2000000 in
theorem echeck_b3 (k : Int) (n : Str) (s vn : Int) (x : Str) (ks : List Ex) (v : Value) (p : Nat) (left : Int) (w : World) (hv : ExV (· ≠ p) w v (.mk k n s vn x ks)) (hf : ExFit 1048576 (.mk k n s vn x ks)) (hleft : 0 ≤ left) (hle : left ≤ 60) (hl : Left w p left) (hT : TabsP p w) (h1 : 1 ≤ left) (hone : exOne (.mk k n s vn x ks) = 1) (hk : k = 2) (hb : bare (.mk k n s vn x ks) = false)  :
    ECheckSays (.mk k n s vn x ks) v p left w := by
  unfold ECheckSays
  have e : chkE (.mk k n s vn x ks) left = (1, left - 1) := by
    unfold chkE
    rw [if_neg (by omega), if_neg (by rw [hone]; decide), hone]
  rw [e]
  clear e hone
  have HV := Lib.hid hv
  obtain ⟨A, L, cap, rfl, hk⟩ := hv.one'
  simp only [Ex.kind, Ex.name, Ex.vs, Ex.vn, Ex.vt, Ex.kids] at hk ⊢
  have hLL : L = ks.length := by obtain ⟨A', c', e, -, -⟩ := hk; injection e
  have hfp := hf.parts
  simp only [Ex.kind, Ex.name, Ex.vs, Ex.vn, Ex.vt, Ex.kids] at hfp
  obtain ⟨-, hn, -, -, hx, hkl, -⟩ := hfp
  have HK := Lib.hid hk
  have HF := Lib.hid hf
  have hp := hl.lt
  have HLT := Lib.hid hl
  obtain ⟨c0, cf⟩ := hl
  clear hk hf hv
  subst hk
  have hbr : ∀ w : World, (binOp .eql 23 (.agg #[.int .i64 s, .int .i64 vn, .string ⟨x.toArray⟩]) (.agg #[.int .i64 0, .int .i64 0, .string ⟨#[]⟩])).run Tryd.prog w = .ok (.bool false) w := fun w => (run_bare w s vn x).trans (congrArg (fun y => Result.ok (Value.bool y) w) hb)
  clear hb hLL
  go_enter Tryd.func24, Tryd.ntmps24
  go_wp2_with fail
  all_goals
    go_ret
    exact ⟨rfl, (grown_set w p _).trans (World.grownBy_alloc _ _ _), (HLT.out.set _).keep ((Below.refl _ _).alloc (Nat.le_refl _) _)⟩
set_option maxHeartbeats 2000000 in
theorem echeck_b2 (k : Int) (n : Str) (s vn : Int) (x : Str) (ks : List Ex) (v : Value) (p : Nat) (left : Int) (w : World) (hv : ExV (· ≠ p) w v (.mk k n s vn x ks)) (hf : ExFit 1048576 (.mk k n s vn x ks)) (hleft : 0 ≤ left) (hle : left ≤ 60) (hl : Left w p left) (hT : TabsP p w) (h1 : 1 ≤ left) (hone : exOne (.mk k n s vn x ks) = 1) (hk : k = 2) (hb : bare (.mk k n s vn x ks) = true) (hlen : ks.length ≠ 0) :
    ECheckSays (.mk k n s vn x ks) v p left w := by
  unfold ECheckSays
  have e : chkE (.mk k n s vn x ks) left = (1, left - 1) := by
    unfold chkE
    rw [if_neg (by omega), if_neg (by rw [hone]; decide), hone]
  rw [e]
  clear e hone
  have HV := Lib.hid hv
  obtain ⟨A, L, cap, rfl, hk⟩ := hv.one'
  simp only [Ex.kind, Ex.name, Ex.vs, Ex.vn, Ex.vt, Ex.kids] at hk ⊢
  have hLL : L = ks.length := by obtain ⟨A', c', e, -, -⟩ := hk; injection e
  have hfp := hf.parts
  simp only [Ex.kind, Ex.name, Ex.vs, Ex.vn, Ex.vt, Ex.kids] at hfp
  obtain ⟨-, hn, -, -, hx, hkl, -⟩ := hfp
  have HK := Lib.hid hk
  have HF := Lib.hid hf
  have hp := hl.lt
  have HLT := Lib.hid hl
  obtain ⟨c0, cf⟩ := hl
  clear hk hf hv
  subst hk
  have hbr : ∀ w : World, (binOp .eql 23 (.agg #[.int .i64 s, .int .i64 vn, .string ⟨x.toArray⟩]) (.agg #[.int .i64 0, .int .i64 0, .string ⟨#[]⟩])).run Tryd.prog w = .ok (.bool true) w := fun w => (run_bare w s vn x).trans (congrArg (fun y => Result.ok (Value.bool y) w) hb)
  clear hb
  have hL0 : ((L : Int) == 0) = false := by rw [beq_eq_false_iff_ne]; omega
  clear hLL
  go_enter Tryd.func24, Tryd.ntmps24
  go_wp2_with fail
  all_goals
    go_ret
    exact ⟨rfl, (grown_set w p _).trans (World.grownBy_alloc _ _ _), (HLT.out.set _).keep ((Below.refl _ _).alloc (Nat.le_refl _) _)⟩
set_option maxHeartbeats 2000000 in
theorem echeck_b1 (E : Int) (k : Int) (n : Str) (s vn : Int) (x : Str) (ks : List Ex) (v : Value) (p : Nat) (left : Int) (w : World) (hv : ExV (· ≠ p) w v (.mk k n s vn x ks)) (hf : ExFit 1048576 (.mk k n s vn x ks)) (hleft : 0 ≤ left) (hle : left ≤ 60) (hl : Left w p left) (hT : TabsP p w) (h1 : 1 ≤ left) (hone : exOne (.mk k n s vn x ks) = E) (hk : k = 2) (hb : bare (.mk k n s vn x ks) = true) (hlen : ks.length = 0) (hE : E = if isName n = true then 0 else 1) :
    ECheckSays (.mk k n s vn x ks) v p left w := by
  unfold ECheckSays
  have e : chkE (.mk k n s vn x ks) left = (E, left - 1) := by
    unfold chkE
    have : E ≠ 9 := by rw [hE]; split <;> decide
    rw [if_neg (by omega), hone, if_neg this]
  rw [e]
  clear e hone
  have HV := Lib.hid hv
  obtain ⟨A, L, cap, rfl, hk⟩ := hv.one'
  simp only [Ex.kind, Ex.name, Ex.vs, Ex.vn, Ex.vt, Ex.kids] at hk ⊢
  have hLL : L = ks.length := by obtain ⟨A', c', e, -, -⟩ := hk; injection e
  have hfp := hf.parts
  simp only [Ex.kind, Ex.name, Ex.vs, Ex.vn, Ex.vt, Ex.kids] at hfp
  obtain ⟨-, hn, -, -, hx, hkl, -⟩ := hfp
  have HK := Lib.hid hk
  have HF := Lib.hid hf
  have hp := hl.lt
  have HLT := Lib.hid hl
  obtain ⟨c0, cf⟩ := hl
  clear hk hf hv
  subst hk
  have hbr : ∀ w : World, (binOp .eql 23 (.agg #[.int .i64 s, .int .i64 vn, .string ⟨x.toArray⟩]) (.agg #[.int .i64 0, .int .i64 0, .string ⟨#[]⟩])).run Tryd.prog w = .ok (.bool true) w := fun w => (run_bare w s vn x).trans (congrArg (fun y => Result.ok (Value.bool y) w) hb)
  clear hb
  have hL0 : L = 0 := by rw [hLL]; exact hlen
  subst hL0
  clear hLL hlen
  obtain ⟨B, hB⟩ : ∃ y, isName n = y := ⟨_, rfl⟩
  have HB := Lib.hid hB
  rw [hB] at hE
  clear hB
  go_enter Tryd.func24, Tryd.ntmps24
  go_wp2_with fail
  obtain ⟨W, hW⟩ : ∃ W, ((w.setCell ⟨p, 0, none⟩ (.int .i64 (left - 1))).alloc (.cells #[.int .i64 2, .string ⟨n.toArray⟩, .int .i64 s, .int .i64 vn, .string ⟨x.toArray⟩, .slice A 0 cap] 26)) = W := ⟨_, rfl⟩
  have hg : w.grownBy W (some p) := by subst hW; exact (grown_set w p _).trans (World.grownBy_alloc _ _ _)
  have hl1 : Left W p (left - 1) := by subst hW; exact (HLT.out.set _).keep ((Below.refl _ _).alloc (Nat.le_refl _) _)
  have XB : ExBox W w.heap.size (.mk 2 n s vn x ks) (.slice A 0 cap) := by subst hW; exact ⟨by simp [go_sem, Ex.kind], by simp [go_sem, Ex.name], by simp [go_sem, Ex.vs], by simp [go_sem, Ex.vn], by simp [go_sem, Ex.vt], by simp [go_sem], fun j => by simp [go_sem], by simp⟩
  try rw [hW]
  clear hW
  refine (isName_any n W (by omega)).mono ?_
  rw [HB.out]
  rintro e w1 ⟨rfl, hb1⟩
  obtain ⟨x0, x1, x2, x3, x4, x5, x6, x7⟩ := XB.keep hb1 XB.lt
  simp only [Ex.kind, Ex.name, Ex.vs, Ex.vn, Ex.vt] at x0 x1 x2 x3 x4
  clear HB
  cases B
  all_goals
    simp only [if_true, Bool.false_eq_true, if_false] at hE
    subst hE
    go_wp2_with fail
    go_ret
    exact ⟨rfl, hg.trans (grown_below hb1 _), hl1.keep hb1⟩
set_option maxHeartbeats 2000000 in
theorem echeck_o (k : Int) (n : Str) (s vn : Int) (x : Str) (ks : List Ex) (v : Value) (p : Nat) (left : Int) (w : World) (hv : ExV (· ≠ p) w v (.mk k n s vn x ks)) (hf : ExFit 1048576 (.mk k n s vn x ks)) (hleft : 0 ≤ left) (hle : left ≤ 60) (hl : Left w p left) (hT : TabsP p w) (h1 : 1 ≤ left) (hone : exOne (.mk k n s vn x ks) = 1) (k1 : k ≠ 1) (k2 : k ≠ 2) (k3 : k ≠ 3) :
    ECheckSays (.mk k n s vn x ks) v p left w := by
  unfold ECheckSays
  have e : chkE (.mk k n s vn x ks) left = (1, left - 1) := by
    unfold chkE
    rw [if_neg (by omega), if_neg (by rw [hone]; decide), hone]
  rw [e]
  clear e hone
  have HV := Lib.hid hv
  obtain ⟨A, L, cap, rfl, hk⟩ := hv.one'
  simp only [Ex.kind, Ex.name, Ex.vs, Ex.vn, Ex.vt, Ex.kids] at hk ⊢
  have hLL : L = ks.length := by obtain ⟨A', c', e, -, -⟩ := hk; injection e
  have hfp := hf.parts
  simp only [Ex.kind, Ex.name, Ex.vs, Ex.vn, Ex.vt, Ex.kids] at hfp
  obtain ⟨-, hn, -, -, hx, hkl, -⟩ := hfp
  have HK := Lib.hid hk
  have HF := Lib.hid hf
  have hp := hl.lt
  have HLT := Lib.hid hl
  obtain ⟨c0, cf⟩ := hl
  clear hk hf hv
  obtain ⟨BR, hb⟩ : ∃ y, bare (.mk k n s vn x ks) = y := ⟨_, rfl⟩
  have hbr : ∀ w : World, (binOp .eql 23 (.agg #[.int .i64 s, .int .i64 vn, .string ⟨x.toArray⟩]) (.agg #[.int .i64 0, .int .i64 0, .string ⟨#[]⟩])).run Tryd.prog w = .ok (.bool BR) w := fun w => (run_bare w s vn x).trans (congrArg (fun y => Result.ok (Value.bool y) w) hb)
  clear hb
  have e1 : (k == 1) = false := by rw [beq_eq_false_iff_ne]; exact k1
  have e2 : (k == 2) = false := by rw [beq_eq_false_iff_ne]; exact k2
  have e3 : (k == 3) = false := by rw [beq_eq_false_iff_ne]; exact k3
  clear hLL
  go_enter Tryd.func24, Tryd.ntmps24
  go_wp2_with fail
  all_goals
    go_ret
    exact ⟨rfl, (grown_set w p _).trans (World.grownBy_alloc _ _ _), (HLT.out.set _).keep ((Below.refl _ _).alloc (Nat.le_refl _) _)⟩
set_option maxHeartbeats 2000000 in
theorem echeck_c1 (k : Int) (n : Str) (s vn : Int) (x : Str) (ks : List Ex) (v : Value) (p : Nat) (left : Int) (w : World) (hv : ExV (· ≠ p) w v (.mk k n s vn x ks)) (hf : ExFit 1048576 (.mk k n s vn x ks)) (hleft : 0 ≤ left) (hle : left ≤ 60) (hl : Left w p left) (hT : TabsP p w) (h1 : 1 ≤ left) (hone : exOne (.mk k n s vn x ks) = 1) (hk : k = 3) (hb : bare (.mk k n s vn x ks) = false)  :
    ECheckSays (.mk k n s vn x ks) v p left w := by
  unfold ECheckSays
  have e : chkE (.mk k n s vn x ks) left = (1, left - 1) := by
    unfold chkE
    rw [if_neg (by omega), if_neg (by rw [hone]; decide), hone]
  rw [e]
  clear e hone
  have HV := Lib.hid hv
  obtain ⟨A, L, cap, rfl, hk⟩ := hv.one'
  simp only [Ex.kind, Ex.name, Ex.vs, Ex.vn, Ex.vt, Ex.kids] at hk ⊢
  have hLL : L = ks.length := by obtain ⟨A', c', e, -, -⟩ := hk; injection e
  have hfp := hf.parts
  simp only [Ex.kind, Ex.name, Ex.vs, Ex.vn, Ex.vt, Ex.kids] at hfp
  obtain ⟨-, hn, -, -, hx, hkl, -⟩ := hfp
  have HK := Lib.hid hk
  have HF := Lib.hid hf
  have hp := hl.lt
  have HLT := Lib.hid hl
  obtain ⟨c0, cf⟩ := hl
  clear hk hf hv
  subst hk
  have hbr : ∀ w : World, (binOp .eql 23 (.agg #[.int .i64 s, .int .i64 vn, .string ⟨x.toArray⟩]) (.agg #[.int .i64 0, .int .i64 0, .string ⟨#[]⟩])).run Tryd.prog w = .ok (.bool false) w := fun w => (run_bare w s vn x).trans (congrArg (fun y => Result.ok (Value.bool y) w) hb)
  clear hb hLL
  go_enter Tryd.func24, Tryd.ntmps24
  go_wp2_with fail
  all_goals
    go_ret
    exact ⟨rfl, (grown_set w p _).trans (World.grownBy_alloc _ _ _), (HLT.out.set _).keep ((Below.refl _ _).alloc (Nat.le_refl _) _)⟩
set_option maxHeartbeats 2000000 in
theorem echeck_c2 (k : Int) (n : Str) (s vn : Int) (x : Str) (ks : List Ex) (v : Value) (p : Nat) (left : Int) (w : World) (hv : ExV (· ≠ p) w v (.mk k n s vn x ks)) (hf : ExFit 1048576 (.mk k n s vn x ks)) (hleft : 0 ≤ left) (hle : left ≤ 60) (hl : Left w p left) (hT : TabsP p w) (h1 : 1 ≤ left) (hone : exOne (.mk k n s vn x ks) = 1) (hk : k = 3) (hb : bare (.mk k n s vn x ks) = true) (hS : lone n = true) (hlv : level n = 0) (hlen : ks.length ≠ 1) :
    ECheckSays (.mk k n s vn x ks) v p left w := by
  unfold ECheckSays
  have e : chkE (.mk k n s vn x ks) left = (1, left - 1) := by
    unfold chkE
    rw [if_neg (by omega), if_neg (by rw [hone]; decide), hone]
  rw [e]
  clear e hone
  have HV := Lib.hid hv
  obtain ⟨A, L, cap, rfl, hk⟩ := hv.one'
  simp only [Ex.kind, Ex.name, Ex.vs, Ex.vn, Ex.vt, Ex.kids] at hk ⊢
  have hLL : L = ks.length := by obtain ⟨A', c', e, -, -⟩ := hk; injection e
  have hfp := hf.parts
  simp only [Ex.kind, Ex.name, Ex.vs, Ex.vn, Ex.vt, Ex.kids] at hfp
  obtain ⟨-, hn, -, -, hx, hkl, -⟩ := hfp
  have HK := Lib.hid hk
  have HF := Lib.hid hf
  have hp := hl.lt
  have HLT := Lib.hid hl
  obtain ⟨c0, cf⟩ := hl
  clear hk hf hv
  subst hk
  have hbr : ∀ w : World, (binOp .eql 23 (.agg #[.int .i64 s, .int .i64 vn, .string ⟨x.toArray⟩]) (.agg #[.int .i64 0, .int .i64 0, .string ⟨#[]⟩])).run Tryd.prog w = .ok (.bool true) w := fun w => (run_bare w s vn x).trans (congrArg (fun y => Result.ok (Value.bool y) w) hb)
  clear hb
  have hL1 : ((L : Int) == 1) = false := by rw [beq_eq_false_iff_ne]; omega
  clear hLL
  have HS := Lib.hid hS
  clear hS
  have HLV := Lib.hid hlv
  clear hlv
  go_enter Tryd.func24, Tryd.ntmps24
  go_wp2_with fail
  refine (single_any n _).mono ?_
  rw [HS.out]
  rintro e w1 ⟨rfl, rfl⟩
  go_wp2_with fail
  refine (level_any n _).mono ?_
  rw [HLV.out]
  rintro e w1 ⟨rfl, rfl⟩
  go_wp2_with fail
  all_goals
    go_ret
    exact ⟨rfl, (grown_set w p _).trans (World.grownBy_alloc _ _ _), (HLT.out.set _).keep ((Below.refl _ _).alloc (Nat.le_refl _) _)⟩
set_option maxHeartbeats 2000000 in
theorem echeck_c3 (k : Int) (n : Str) (s vn : Int) (x : Str) (ks : List Ex) (v : Value) (p : Nat) (left : Int) (w : World) (hv : ExV (· ≠ p) w v (.mk k n s vn x ks)) (hf : ExFit 1048576 (.mk k n s vn x ks)) (hleft : 0 ≤ left) (hle : left ≤ 60) (hl : Left w p left) (hT : TabsP p w) (h1 : 1 ≤ left) (hone : exOne (.mk k n s vn x ks) = 1) (hk : k = 3) (hb : bare (.mk k n s vn x ks) = true) (hS : lone n = false) (hlv : level n = 0) :
    ECheckSays (.mk k n s vn x ks) v p left w := by
  unfold ECheckSays
  have e : chkE (.mk k n s vn x ks) left = (1, left - 1) := by
    unfold chkE
    rw [if_neg (by omega), if_neg (by rw [hone]; decide), hone]
  rw [e]
  clear e hone
  have HV := Lib.hid hv
  obtain ⟨A, L, cap, rfl, hk⟩ := hv.one'
  simp only [Ex.kind, Ex.name, Ex.vs, Ex.vn, Ex.vt, Ex.kids] at hk ⊢
  have hLL : L = ks.length := by obtain ⟨A', c', e, -, -⟩ := hk; injection e
  have hfp := hf.parts
  simp only [Ex.kind, Ex.name, Ex.vs, Ex.vn, Ex.vt, Ex.kids] at hfp
  obtain ⟨-, hn, -, -, hx, hkl, -⟩ := hfp
  have HK := Lib.hid hk
  have HF := Lib.hid hf
  have hp := hl.lt
  have HLT := Lib.hid hl
  obtain ⟨c0, cf⟩ := hl
  clear hk hf hv
  subst hk
  have hbr : ∀ w : World, (binOp .eql 23 (.agg #[.int .i64 s, .int .i64 vn, .string ⟨x.toArray⟩]) (.agg #[.int .i64 0, .int .i64 0, .string ⟨#[]⟩])).run Tryd.prog w = .ok (.bool true) w := fun w => (run_bare w s vn x).trans (congrArg (fun y => Result.ok (Value.bool y) w) hb)
  clear hb hLL
  have HS := Lib.hid hS
  clear hS
  have HLV := Lib.hid hlv
  clear hlv
  go_enter Tryd.func24, Tryd.ntmps24
  go_wp2_with fail
  refine (single_any n _).mono ?_
  rw [HS.out]
  rintro e w1 ⟨rfl, rfl⟩
  go_wp2_with fail
  refine (level_any n _).mono ?_
  rw [HLV.out]
  rintro e w1 ⟨rfl, rfl⟩
  go_wp2_with fail
  all_goals
    go_ret
    exact ⟨rfl, (grown_set w p _).trans (World.grownBy_alloc _ _ _), (HLT.out.set _).keep ((Below.refl _ _).alloc (Nat.le_refl _) _)⟩
set_option maxHeartbeats 2000000 in
theorem echeck_c4 (k : Int) (n : Str) (s vn : Int) (x : Str) (ks : List Ex) (v : Value) (p : Nat) (left : Int) (w : World) (hv : ExV (· ≠ p) w v (.mk k n s vn x ks)) (hf : ExFit 1048576 (.mk k n s vn x ks)) (hleft : 0 ≤ left) (hle : left ≤ 60) (hl : Left w p left) (hT : TabsP p w) (h1 : 1 ≤ left) (hone : exOne (.mk k n s vn x ks) = 1) (hk : k = 3) (hb : bare (.mk k n s vn x ks) = true) (hS : lone n = false) (hlv : 0 < level n) (hlen : ks.length ≠ 2) :
    ECheckSays (.mk k n s vn x ks) v p left w := by
  unfold ECheckSays
  have e : chkE (.mk k n s vn x ks) left = (1, left - 1) := by
    unfold chkE
    rw [if_neg (by omega), if_neg (by rw [hone]; decide), hone]
  rw [e]
  clear e hone
  have HV := Lib.hid hv
  obtain ⟨A, L, cap, rfl, hk⟩ := hv.one'
  simp only [Ex.kind, Ex.name, Ex.vs, Ex.vn, Ex.vt, Ex.kids] at hk ⊢
  have hLL : L = ks.length := by obtain ⟨A', c', e, -, -⟩ := hk; injection e
  have hfp := hf.parts
  simp only [Ex.kind, Ex.name, Ex.vs, Ex.vn, Ex.vt, Ex.kids] at hfp
  obtain ⟨-, hn, -, -, hx, hkl, -⟩ := hfp
  have HK := Lib.hid hk
  have HF := Lib.hid hf
  have hp := hl.lt
  have HLT := Lib.hid hl
  obtain ⟨c0, cf⟩ := hl
  clear hk hf hv
  subst hk
  have hbr : ∀ w : World, (binOp .eql 23 (.agg #[.int .i64 s, .int .i64 vn, .string ⟨x.toArray⟩]) (.agg #[.int .i64 0, .int .i64 0, .string ⟨#[]⟩])).run Tryd.prog w = .ok (.bool true) w := fun w => (run_bare w s vn x).trans (congrArg (fun y => Result.ok (Value.bool y) w) hb)
  clear hb
  have hL2 : ((L : Int) == 2) = false := by rw [beq_eq_false_iff_ne]; omega
  clear hLL
  obtain ⟨V, hV⟩ : ∃ y, level n = y := ⟨_, rfl⟩
  rw [hV] at hlv
  have HLV := Lib.hid hV
  clear hV
  have HS := Lib.hid hS
  clear hS
  go_enter Tryd.func24, Tryd.ntmps24
  go_wp2_with fail
  refine (single_any n _).mono ?_
  rw [HS.out]
  rintro e w1 ⟨rfl, rfl⟩
  go_wp2_with fail
  refine (level_any n _).mono ?_
  rw [HLV.out]
  rintro e w1 ⟨rfl, rfl⟩
  go_wp2_with fail
  all_goals
    go_ret
    exact ⟨rfl, (grown_set w p _).trans (World.grownBy_alloc _ _ _), (HLT.out.set _).keep ((Below.refl _ _).alloc (Nat.le_refl _) _)⟩
set_option maxHeartbeats 2000000 in
theorem echeck_c (m : Nat) (ih : EIH m) (k : Int) (n : Str) (s vn : Int) (x : Str) (ks : List Ex) (v : Value) (p : Nat) (left : Int) (w : World) (hm : eparts (.mk k n s vn x ks) ≤ m + 1) (hv : ExV (· ≠ p) w v (.mk k n s vn x ks)) (hf : ExFit 1048576 (.mk k n s vn x ks)) (hleft : 0 ≤ left) (hle : left ≤ 60) (hl : Left w p left) (hT : TabsP p w) (h1 : 1 ≤ left) (hone : exOne (.mk k n s vn x ks) = 9) (hk : k = 3) (hb : bare (.mk k n s vn x ks) = true) (hS : lone n = true) (hlen : ks.length = 1) :
    ECheckSays (.mk k n s vn x ks) v p left w := by
  unfold ECheckSays
  have e : chkE (.mk k n s vn x ks) left = chkEs ks (left - 1) := by
    unfold chkE
    rw [if_neg (by omega), if_pos hone]
  rw [e]
  clear e hone
  have HV := Lib.hid hv
  obtain ⟨A, L, cap, rfl, hk⟩ := hv.one'
  simp only [Ex.kind, Ex.name, Ex.vs, Ex.vn, Ex.vt, Ex.kids] at hk ⊢
  have hLL : L = ks.length := by obtain ⟨A', c', e, -, -⟩ := hk; injection e
  have hfp := hf.parts
  simp only [Ex.kind, Ex.name, Ex.vs, Ex.vn, Ex.vt, Ex.kids] at hfp
  obtain ⟨-, hn, -, -, hx, hkl, -⟩ := hfp
  have HK := Lib.hid hk
  have HF := Lib.hid hf
  have hp := hl.lt
  have HLT := Lib.hid hl
  obtain ⟨c0, cf⟩ := hl
  clear hk hf hv
  subst hk
  have hbr : ∀ w : World, (binOp .eql 23 (.agg #[.int .i64 s, .int .i64 vn, .string ⟨x.toArray⟩]) (.agg #[.int .i64 0, .int .i64 0, .string ⟨#[]⟩])).run Tryd.prog w = .ok (.bool true) w := fun w => (run_bare w s vn x).trans (congrArg (fun y => Result.ok (Value.bool y) w) hb)
  clear hb
  have HS := Lib.hid hS
  clear hS
  have HLE := Lib.hid hLL
  have hLb : L ≤ 1048576 := by omega
  have hL1 : ((L : Int) == 1) = true := by rw [beq_iff_eq]; omega
  clear hLL hlen
  go_enter Tryd.func24, Tryd.ntmps24
  go_wp2_with fail
  refine (single_any n _).mono ?_
  rw [HS.out]
  rintro e w1 ⟨rfl, rfl⟩
  go_wp2_with fail

  obtain ⟨W, hW⟩ : ∃ W, ((w.setCell ⟨p, 0, none⟩ (.int .i64 (left - 1))).alloc (.cells #[.int .i64 3, .string ⟨n.toArray⟩, .int .i64 s, .int .i64 vn, .string ⟨x.toArray⟩, .slice A L cap] 26)) = W := ⟨_, rfl⟩
  have hg : w.grownBy W (some p) := by subst hW; exact (grown_set w p _).trans (World.grownBy_alloc _ _ _)
  have hl1 : Left W p (left - 1) := by subst hW; exact (HLT.out.set _).keep ((Below.refl _ _).alloc (Nat.le_refl _) _)
  have hT1 := hT.grown hg
  try rw [hW]
  clear hW
  go_loopw [91] (fun i wr => ∃ (j : Nat) (lk : Int), j ≤ L ∧ i = .int .i64 j ∧ 0 ≤ lk ∧ lk ≤ left - 1 ∧ Left wr p lk ∧ w.grownBy wr (some p) ∧ TabsP p wr ∧ Hid (chkEs ks (left - 1) = chkEs (ks.drop j) lk)) (fun i _ => L - (intOf i).toNat)
  case atStart => exact ⟨0, left - 1, by omega, rfl, by omega, by omega, hl1, hg, hT1, rfl⟩
  case round =>
    clear hg hl1 hT1
    obtain ⟨j, lk, hj, rfl, hlk0, hlk1, hl1, hg, hT1, hs⟩ := hrel
    by_cases hlt : j < L
    · obtain ⟨c, hc'⟩ : ∃ y, ks[j]? = some y := ⟨_, List.getElem?_eq_getElem (by have := HLE.out; omega)⟩
      have HC' := Lib.hid hc'
      obtain ⟨-, -, b, off, A1, n1, p1, rfl, hbp, y0, y1, y2, y3, y4, y5, hk'⟩ := exkid_at (HK.out.keep (D' := (· ≠ p)) (same_p hg) (fun b h _ => h)) hc'
      have HK' := Lib.hid hk'
      clear hk' hc'
      have hcp : eparts c ≤ m := by have h1 := eparts_at (mem_of_at HC'.out); have h2 : 1 + epartss ks ≤ m + 1 := hm; omega
      have hcf : ExFit 1048576 c := HF.out.parts.2.2.2.2.2.2 c (mem_of_at HC'.out)
      obtain ⟨wa, hwa⟩ : ∃ y, wr.alloc (.cells #[.int .i64 c.kind, .string ⟨c.name.toArray⟩, .int .i64 c.vs, .int .i64 c.vn, .string ⟨c.vt.toArray⟩, .slice A1 n1 p1] 26) = y := ⟨_, rfl⟩
      have hba : Below wr.heap.size wr wa := by subst hwa; exact (Below.refl _ _).alloc (Nat.le_refl _) _
      have hla := hl1.keep hba
      have hga := hg.trans (grown_below hba _)
      have hTa := hT1.grown (grown_below hba _)
      have hkb : ExBox wa wr.heap.size c (.slice A1 n1 p1) := by subst hwa; exact new_exval wr c _ _
      obtain ⟨k0, k1, k2, k3, k4, k5, k6, k7⟩ := id hkb
      obtain ⟨R, hR⟩ : ∃ x, chkE c lk = x := ⟨_, rfl⟩
      have HR := Lib.hid hR
      have hstep := hs.out
      rw [chkEs_drop HC'.out, hR] at hstep
      have hcall := ih c (.agg #[.int .i64 c.kind, .string ⟨c.name.toArray⟩, .int .i64 c.vs, .int .i64 c.vn, .string ⟨c.vt.toArray⟩, .slice A1 n1 p1]) p lk wa hcp ((exV_of HK'.out).keep (Same.below hba) (fun b h _ => h)) hcf hlk0 (by omega) hla hTa
      unfold ECheckSays at hcall
      rw [hR] at hcall
      have HCALL := Lib.hid hcall
      have hle2 := chkE_le c lk
      rw [hR] at hle2
      have HLE2 := Lib.hid hle2
      clear hR hcall hs hle2
      by_cases he : R.1 = 0
      · have hp2 : 0 ≤ R.2 ∧ R.2 ≤ lk := ⟨HLE2.out.2 he hlk0, HLE2.out.1⟩
        rw [if_pos he] at hstep
        have HST := Lib.hid hstep
        have hE : (R.1 != 0) = false := by rw [bne_eq_false_iff_eq]; exact he
        clear hstep he
        go_wp2_with fail
        try rw [hwa]
        clear hwa
        refine HCALL.out.mono ?_
        rintro e w2 ⟨rfl, hg2, hl2⟩
        go_wp2_with fail
        go_roundw
        case rel => exact ⟨j + 1, R.2, by omega, by go_num, hp2.1, by omega, hl2, hga.trans hg2, hTa.grown hg2, HST⟩
        case measure => simp [intOf]; omega
      · rw [if_neg he] at hstep
        have HST := Lib.hid hstep
        have hE : (R.1 != 0) = true := by rw [bne_iff_ne]; exact he
        clear hstep he
        go_wp2_with fail
        try rw [hwa]
        clear hwa
        refine HCALL.out.mono ?_
        rintro e w2 ⟨rfl, hg2, hl2⟩
        go_wp2_with fail
        go_ret
        rw [HST.out]
        exact ⟨rfl, hga.trans hg2, hl2⟩
    · have hend := hs.out
      rw [List.drop_of_length_le (by have := HLE.out; omega)] at hend
      have HE := Lib.hid hend
      clear hend hs
      go_wp2_with fail
      go_ret
      rw [HE.out]
      exact ⟨rfl, hg, hl1⟩
set_option maxHeartbeats 2000000 in
theorem echeck_d (m : Nat) (ih : EIH m) (k : Int) (n : Str) (s vn : Int) (x : Str) (ks : List Ex) (v : Value) (p : Nat) (left : Int) (w : World) (hm : eparts (.mk k n s vn x ks) ≤ m + 1) (hv : ExV (· ≠ p) w v (.mk k n s vn x ks)) (hf : ExFit 1048576 (.mk k n s vn x ks)) (hleft : 0 ≤ left) (hle : left ≤ 60) (hl : Left w p left) (hT : TabsP p w) (h1 : 1 ≤ left) (hone : exOne (.mk k n s vn x ks) = 9) (hk : k = 3) (hb : bare (.mk k n s vn x ks) = true) (hS : lone n = false) (hlv : 0 < level n) (hlen : ks.length = 2) :
    ECheckSays (.mk k n s vn x ks) v p left w := by
  unfold ECheckSays
  have e : chkE (.mk k n s vn x ks) left = chkEs ks (left - 1) := by
    unfold chkE
    rw [if_neg (by omega), if_pos hone]
  rw [e]
  clear e hone
  have HV := Lib.hid hv
  obtain ⟨A, L, cap, rfl, hk⟩ := hv.one'
  simp only [Ex.kind, Ex.name, Ex.vs, Ex.vn, Ex.vt, Ex.kids] at hk ⊢
  have hLL : L = ks.length := by obtain ⟨A', c', e, -, -⟩ := hk; injection e
  have hfp := hf.parts
  simp only [Ex.kind, Ex.name, Ex.vs, Ex.vn, Ex.vt, Ex.kids] at hfp
  obtain ⟨-, hn, -, -, hx, hkl, -⟩ := hfp
  have HK := Lib.hid hk
  have HF := Lib.hid hf
  have hp := hl.lt
  have HLT := Lib.hid hl
  obtain ⟨c0, cf⟩ := hl
  clear hk hf hv
  subst hk
  have hbr : ∀ w : World, (binOp .eql 23 (.agg #[.int .i64 s, .int .i64 vn, .string ⟨x.toArray⟩]) (.agg #[.int .i64 0, .int .i64 0, .string ⟨#[]⟩])).run Tryd.prog w = .ok (.bool true) w := fun w => (run_bare w s vn x).trans (congrArg (fun y => Result.ok (Value.bool y) w) hb)
  clear hb
  have HLE := Lib.hid hLL
  have hLb : L ≤ 1048576 := by omega
  have hL2 : ((L : Int) == 2) = true := by rw [beq_iff_eq]; omega
  clear hLL hlen
  obtain ⟨V, hV⟩ : ∃ y, level n = y := ⟨_, rfl⟩
  rw [hV] at hlv
  have HLV := Lib.hid hV
  clear hV
  have HS := Lib.hid hS
  clear hS
  go_enter Tryd.func24, Tryd.ntmps24
  go_wp2_with fail
  refine (single_any n _).mono ?_
  rw [HS.out]
  rintro e w1 ⟨rfl, rfl⟩
  go_wp2_with fail
  refine (level_any n _).mono ?_
  rw [HLV.out]
  rintro e w1 ⟨rfl, rfl⟩
  go_wp2_with fail

  obtain ⟨W, hW⟩ : ∃ W, ((w.setCell ⟨p, 0, none⟩ (.int .i64 (left - 1))).alloc (.cells #[.int .i64 3, .string ⟨n.toArray⟩, .int .i64 s, .int .i64 vn, .string ⟨x.toArray⟩, .slice A L cap] 26)) = W := ⟨_, rfl⟩
  have hg : w.grownBy W (some p) := by subst hW; exact (grown_set w p _).trans (World.grownBy_alloc _ _ _)
  have hl1 : Left W p (left - 1) := by subst hW; exact (HLT.out.set _).keep ((Below.refl _ _).alloc (Nat.le_refl _) _)
  have hT1 := hT.grown hg
  try rw [hW]
  clear hW
  go_loopw [91] (fun i wr => ∃ (j : Nat) (lk : Int), j ≤ L ∧ i = .int .i64 j ∧ 0 ≤ lk ∧ lk ≤ left - 1 ∧ Left wr p lk ∧ w.grownBy wr (some p) ∧ TabsP p wr ∧ Hid (chkEs ks (left - 1) = chkEs (ks.drop j) lk)) (fun i _ => L - (intOf i).toNat)
  case atStart => exact ⟨0, left - 1, by omega, rfl, by omega, by omega, hl1, hg, hT1, rfl⟩
  case round =>
    clear hg hl1 hT1
    obtain ⟨j, lk, hj, rfl, hlk0, hlk1, hl1, hg, hT1, hs⟩ := hrel
    by_cases hlt : j < L
    · obtain ⟨c, hc'⟩ : ∃ y, ks[j]? = some y := ⟨_, List.getElem?_eq_getElem (by have := HLE.out; omega)⟩
      have HC' := Lib.hid hc'
      obtain ⟨-, -, b, off, A1, n1, p1, rfl, hbp, y0, y1, y2, y3, y4, y5, hk'⟩ := exkid_at (HK.out.keep (D' := (· ≠ p)) (same_p hg) (fun b h _ => h)) hc'
      have HK' := Lib.hid hk'
      clear hk' hc'
      have hcp : eparts c ≤ m := by have h1 := eparts_at (mem_of_at HC'.out); have h2 : 1 + epartss ks ≤ m + 1 := hm; omega
      have hcf : ExFit 1048576 c := HF.out.parts.2.2.2.2.2.2 c (mem_of_at HC'.out)
      obtain ⟨wa, hwa⟩ : ∃ y, wr.alloc (.cells #[.int .i64 c.kind, .string ⟨c.name.toArray⟩, .int .i64 c.vs, .int .i64 c.vn, .string ⟨c.vt.toArray⟩, .slice A1 n1 p1] 26) = y := ⟨_, rfl⟩
      have hba : Below wr.heap.size wr wa := by subst hwa; exact (Below.refl _ _).alloc (Nat.le_refl _) _
      have hla := hl1.keep hba
      have hga := hg.trans (grown_below hba _)
      have hTa := hT1.grown (grown_below hba _)
      have hkb : ExBox wa wr.heap.size c (.slice A1 n1 p1) := by subst hwa; exact new_exval wr c _ _
      obtain ⟨k0, k1, k2, k3, k4, k5, k6, k7⟩ := id hkb
      obtain ⟨R, hR⟩ : ∃ x, chkE c lk = x := ⟨_, rfl⟩
      have HR := Lib.hid hR
      have hstep := hs.out
      rw [chkEs_drop HC'.out, hR] at hstep
      have hcall := ih c (.agg #[.int .i64 c.kind, .string ⟨c.name.toArray⟩, .int .i64 c.vs, .int .i64 c.vn, .string ⟨c.vt.toArray⟩, .slice A1 n1 p1]) p lk wa hcp ((exV_of HK'.out).keep (Same.below hba) (fun b h _ => h)) hcf hlk0 (by omega) hla hTa
      unfold ECheckSays at hcall
      rw [hR] at hcall
      have HCALL := Lib.hid hcall
      have hle2 := chkE_le c lk
      rw [hR] at hle2
      have HLE2 := Lib.hid hle2
      clear hR hcall hs hle2
      by_cases he : R.1 = 0
      · have hp2 : 0 ≤ R.2 ∧ R.2 ≤ lk := ⟨HLE2.out.2 he hlk0, HLE2.out.1⟩
        rw [if_pos he] at hstep
        have HST := Lib.hid hstep
        have hE : (R.1 != 0) = false := by rw [bne_eq_false_iff_eq]; exact he
        clear hstep he
        go_wp2_with fail
        try rw [hwa]
        clear hwa
        refine HCALL.out.mono ?_
        rintro e w2 ⟨rfl, hg2, hl2⟩
        go_wp2_with fail
        go_roundw
        case rel => exact ⟨j + 1, R.2, by omega, by go_num, hp2.1, by omega, hl2, hga.trans hg2, hTa.grown hg2, HST⟩
        case measure => simp [intOf]; omega
      · rw [if_neg he] at hstep
        have HST := Lib.hid hstep
        have hE : (R.1 != 0) = true := by rw [bne_iff_ne]; exact he
        clear hstep he
        go_wp2_with fail
        try rw [hwa]
        clear hwa
        refine HCALL.out.mono ?_
        rintro e w2 ⟨rfl, hg2, hl2⟩
        go_wp2_with fail
        go_ret
        rw [HST.out]
        exact ⟨rfl, hga.trans hg2, hl2⟩
    · have hend := hs.out
      rw [List.drop_of_length_le (by have := HLE.out; omega)] at hend
      have HE := Lib.hid hend
      clear hend hs
      go_wp2_with fail
      go_ret
      rw [HE.out]
      exact ⟨rfl, hg, hl1⟩

theorem echeck_any : ∀ (m : Nat), EIH m := by
  intro m
  induction m with
  | zero => intro t v p left w h; cases t; simp only [eparts] at h; omega
  | succ m ih =>
  intro t v p left w hm hv hf hl0 hle hl hT
  obtain ⟨k, n, s, vn, x, ks⟩ := t
  by_cases hz : left = 0
  · exact echeck_z k n s vn x ks v p left w hv hf hl0 hle hl hT hz
  have hpos : 1 ≤ left := by omega
  by_cases k1 : k = 1
  · by_cases hn : n = []
    · by_cases hlen : ks.length = 0
      · exact echeck_a k n s vn x ks v p left w hv hf hl0 hle hl hT hpos (by unfold exOne; exact if_pos ⟨k1, hn, hlen⟩) k1 hn hlen
      · exact echeck_a2 k n s vn x ks v p left w hv hf hl0 hle hl hT hpos (by unfold exOne; rw [if_neg (fun h => hlen h.2.2), if_neg (fun h => by have : k = 2 := h.1; omega), if_neg (fun h => by have : k = 3 := h.1; omega)]) k1 hn hlen
    · exact echeck_a1 k n s vn x ks v p left w hv hf hl0 hle hl hT hpos (by unfold exOne; rw [if_neg (fun h => hn h.2.1), if_neg (fun h => by have : k = 2 := h.1; omega), if_neg (fun h => by have : k = 3 := h.1; omega)]) k1 hn
  by_cases k2 : k = 2
  · cases hb : bare (.mk k n s vn x ks) with
    | false => exact echeck_b3 k n s vn x ks v p left w hv hf hl0 hle hl hT hpos (by unfold exOne; rw [if_neg (fun h => k1 h.1), if_neg (fun h => by have := h.2.1; rw [hb] at this; cases this), if_neg (fun h => by have : k = 3 := h.1; omega)]) k2 hb
    | true =>
      by_cases hlen : ks.length = 0
      · refine echeck_b1 _ k n s vn x ks v p left w hv hf hl0 hle hl hT hpos ?_ k2 hb hlen rfl
        unfold exOne
        rw [if_neg (fun h => k1 h.1)]
        by_cases hN : isName n = true
        · rw [if_pos ⟨k2, hb, hlen, hN⟩, if_pos hN]
        · rw [if_neg (fun h => hN h.2.2.2), if_neg (fun h => by have : k = 3 := h.1; omega), if_neg hN]
      · exact echeck_b2 k n s vn x ks v p left w hv hf hl0 hle hl hT hpos (by unfold exOne; rw [if_neg (fun h => k1 h.1), if_neg (fun h => hlen h.2.2.1), if_neg (fun h => by have : k = 3 := h.1; omega)]) k2 hb hlen
  by_cases k3 : k = 3
  · have e0 : exOne (.mk k n s vn x ks) = if k = 3 ∧ bare (.mk k n s vn x ks) = true ∧ ((lone n = true ∧ ks.length = 1) ∨ (0 < level n ∧ ks.length = 2)) then 9 else 1 := by
      unfold exOne
      rw [if_neg (fun h => k1 h.1), if_neg (fun h => k2 h.1)]
      rfl
    cases hb : bare (.mk k n s vn x ks) with
    | false => exact echeck_c1 k n s vn x ks v p left w hv hf hl0 hle hl hT hpos (by rw [e0, if_neg (fun h => by have := h.2.1; rw [hb] at this; cases this)]) k3 hb
    | true =>
      have hlv0 := (level_lt n).1
      cases hS : lone n with
      | true =>
        have hlv : level n = 0 := by
          unfold lone at hS
          simp only [Bool.or_eq_true, decide_eq_true_eq] at hS
          rcases hS with rfl | rfl | rfl <;> decide
        by_cases hlen : ks.length = 1
        · exact echeck_c m ih k n s vn x ks v p left w hm hv hf hl0 hle hl hT hpos (by rw [e0, if_pos ⟨k3, hb, Or.inl ⟨hS, hlen⟩⟩]) k3 hb hS hlen
        · exact echeck_c2 k n s vn x ks v p left w hv hf hl0 hle hl hT hpos (by rw [e0, if_neg (fun h => by rcases h.2.2 with h | h <;> omega)]) k3 hb hS hlv hlen
      | false =>
        by_cases hlv : level n = 0
        · exact echeck_c3 k n s vn x ks v p left w hv hf hl0 hle hl hT hpos (by rw [e0, if_neg (fun h => (h.2.2).elim (fun h => absurd (hS.symm.trans h.1) (by decide)) (fun h => by omega))]) k3 hb hS hlv
        · have hlv' : 0 < level n := by omega
          by_cases hlen : ks.length = 2
          · exact echeck_d m ih k n s vn x ks v p left w hm hv hf hl0 hle hl hT hpos (by rw [e0, if_pos ⟨k3, hb, Or.inr ⟨hlv', hlen⟩⟩]) k3 hb hS hlv' hlen
          · exact echeck_c4 k n s vn x ks v p left w hv hf hl0 hle hl hT hpos (by rw [e0, if_neg (fun h => (h.2.2).elim (fun h => absurd (hS.symm.trans h.1) (by decide)) (fun h => by omega))]) k3 hb hS hlv' hlen
  · exact echeck_o k n s vn x ks v p left w hv hf hl0 hle hl hT hpos (by unfold exOne; rw [if_neg (fun h => k1 h.1), if_neg (fun h => k2 h.1), if_neg (fun h => k3 h.1)]) k1 k2 k3

set_option maxHeartbeats 1000000 in
theorem eCheck_any (t : Ex) (v : Value) (w : World) {D : Blocks} (hv : ExV D w v t) (hf : ExFit 1048576 t) (hT : Tabs w) :
    Calls Tryd.prog 10 #[v] w fun e w' => e = .returned (.int .i64 (exErr t)) ∧ Below w.heap.size w w' := by
  have HZ := Lib.hid hv
  obtain ⟨ANS, hA⟩ : ∃ x, exErr t = x := ⟨_, rfl⟩
  have HA := Lib.hid hA; rw [hA]; clear hA
  obtain ⟨A, L, cap, rfl, hk⟩ := hv.one'
  clear hk hv
  go_enter Tryd.func10, Tryd.ntmps10
  go_wp2_with fail
  have hbW : Below w.heap.size w ((w.alloc (.cells #[.int .i64 t.kind, .string ⟨t.name.toArray⟩, .int .i64 t.vs, .int .i64 t.vn, .string ⟨t.vt.toArray⟩, .slice A L cap] 26)).alloc (.cells #[.int .i64 60] 3)) := by go_grown
  have hcall := echeck_any (eparts t) t (.agg #[.int .i64 t.kind, .string ⟨t.name.toArray⟩, .int .i64 t.vs, .int .i64 t.vn, .string ⟨t.vt.toArray⟩, .slice A L cap]) (w.heap.size + 1) 60 ((w.alloc (.cells #[.int .i64 t.kind, .string ⟨t.name.toArray⟩, .int .i64 t.vs, .int .i64 t.vn, .string ⟨t.vt.toArray⟩, .slice A L cap] 26)).alloc (.cells #[.int .i64 60] 3)) (Nat.le_refl _)
    (HZ.out.here.keep (Same.below hbW) (fun b h _ => by have h' : b < w.heap.size := h; omega)) hf (by omega) (by omega) ⟨by simp [go_sem], by simp [go_sem]⟩ ⟨hT.below hbW, by have := hT.lt.1; omega, by have := hT.lt.2; omega⟩
  unfold ECheckSays at hcall
  refine hcall.mono ?_
  clear hcall
  rintro e w1 ⟨rfl, hg, -⟩
  have hb1 := hbW.grown hg (by simp; omega) (fun k hk => by injection hk; omega)
  go_wp2_with fail
  go_ret
  exact ⟨by rw [← HA.out]; rfl, hb1⟩
end Go.Proofs.YtmklodgcbldndaaDoor
namespace Go.Proofs.YtmklodgcbldndaaDoor
open Go.RowKit Go.Proofs

set_option maxRecDepth 100000
/-- A builder that the call has made. -/
abbrev IsBld (B b : Nat) (l : List UInt8) (w : World) : Prop := Lib.IsBuilder 78 5 B b (Lib.byteCells l) w
set_option maxHeartbeats 2000000 in
theorem copyCheck_any (B b : Nat) (bs : List Value) (w : World) (h : Lib.IsBuilder 78 5 B b bs w) :
    Calls Tryd.prog 69 #[.pointer (some ⟨b, 0, none⟩)] w fun e w' => e = .returned (.tuple #[]) ∧ Lib.BuilderAt 78 5 B b (.pointer (some ⟨b, 0, none⟩)) bs w' ∧ Below B w w' := by
  have hsz : (Tryd.prog.info? 78).map (·.size) = some 2 := by kernel_rfl
  obtain ⟨j, hj, hjs⟩ := Option.map_eq_some_iff.1 hsz
  have hlies : liesAt Tryd.prog Tryd.prog.depth 78 (2 / Tryd.prog.cellsOf 78) 0 78 1 = true := by kernel_rfl
  rcases h with h | h
  · have h0 := h.cell0
    have hsh := h.shape
    have hfz := h.frozen0
    go_enter Tryd.func69, Tryd.ntmps69
    go_wp2
    rw [Lib.run_to_unsafe w ⟨b, 0, none⟩ Tryd.underlying76 Tryd.underlying139 hj (by rw [hjs]; decide) hsh (Nat.zero_lt_succ 1)]
    simp only [Result.andThen]
    rw [Oper.upon_value]
    go_wp2
    rw [run_callFunc_extern Tryd.func98 (by kernel_rfl) (by kernel_rfl) (by kernel_rfl) (e := Extern.AbiNoEscape.same) (by kernel_rfl)]
    rw [Lib.run_noEscape]
    simp only [Result.andThen]
    rw [Oper.upon_value]
    go_wp2
    rw [Lib.run_from_unsafe w ⟨b, 0, none⟩ Tryd.underlying139 Tryd.underlying76 hj hsh hlies]
    simp only [Result.andThen]
    rw [Oper.upon_value]
    go_wp2
    go_end0
    exact ⟨rfl, h.used _, (Below.refl B w).setCell (p := ⟨b, 0, none⟩) h.1 _⟩
  · have h0 := h.cell0
    go_enter Tryd.func69, Tryd.ntmps69
    go_wp2
    rw [Lib.run_neq_ptr_same w _ Tryd.underlying76 hj]
    go_wp2
    go_end0
    exact ⟨rfl, h, Below.refl _ _⟩
set_option maxHeartbeats 2000000 in
theorem writeByte_any (B b : Nat) (l : List UInt8) (c : UInt8) (w : World) (h : IsBld B b l w) (hlen : l.length + 1 ≤ 140737488355328) (hBw : B ≤ w.heap.size) :
    Calls Tryd.prog 48 #[.pointer (some ⟨b, 0, none⟩), .int .u8 c.toNat] w fun e w' => e = .returned .nilIface ∧ IsBld B b (l ++ [c]) w' ∧ Below B w w' := by
  obtain ⟨i0, hi, hz0, hz1, hz2⟩ := info_parts (show (Tryd.prog.info? 5).map (fun i => (i.zero, i.size, i.bytes)) = some (some (.int .u8 0), 1, 1) by kernel_rfl)
  go_enter Tryd.func48, Tryd.ntmps48
  go_wp2_with fail
  refine (copyCheck_any B b _ _ h).mono ?_
  rintro e w1 ⟨rfl, h1, hb1⟩
  obtain ⟨hB, v, hbk, hown, hne⟩ := h1
  rw [Lib.byteCells_length] at hown
  have c0 : w1.cell? ⟨b, 0, none⟩ = some (.pointer (some ⟨b, 0, none⟩)) := by rw [Lib.cell_of_heap hbk]; rfl
  have c1 : w1.cell? ⟨b, 1, none⟩ = some v := by rw [Lib.cell_of_heap hbk]; rfl
  go_wp2_with (at_builtin; refine wpList_append_own _ rfl _ _ 59 rfl B 5 i0 (.int .u8 0) 1 1 Tryd.underlying59 hi hz0 hz1 hz2 rfl (by decide) _ _ _ rfl (hown.alloc _) ⟨w1.heap.size, 0, none⟩ 1 1 [.int .u8 c.toNat] rfl rfl ?c1 ?c2 ?c3 ?c4 ?c5 ?_)
  case c1 =>
    intro j u hj
    match j, hj with
    | 0, hj => simp at hj; subst hj; simp [Addr.add]
  case c2 => intro u hu; simp at hu; subst hu; rfl
  case c3 => unfold maxLen; omega
  case c4 => omega
  case c5 => have := hb1.size; simp; omega
  intro v' w2 hown' hgrow _
  have hlt : b < w1.heap.size := (Array.getElem?_eq_some_iff.1 hbk).1
  have hb2 : w2.heap[b]? = some (.cells #[.pointer (some ⟨b, 0, none⟩), v] 78 (0, 0)) := by
    rw [hgrow.block b (by simp; omega) (fun e => hne e.symm), Lib.alloc_old w1 _ b hlt]
    exact hbk
  have d0 : w2.cell? ⟨b, 0, none⟩ = some (.pointer (some ⟨b, 0, none⟩)) := by rw [Lib.cell_of_heap hb2]; rfl
  have d1 : w2.cell? ⟨b, 1, none⟩ = some v := by rw [Lib.cell_of_heap hb2]; rfl
  have f1 : w2.frozen? ⟨b, 1, none⟩ = false := Lib.frozen_of_heap hb2 1
  obtain ⟨g, cap, rfl⟩ : ∃ g cap, v' = .slice (some ⟨g, 0, none⟩) (l.length + 1) cap := by
    rcases hown'.2 with ⟨_, h0⟩ | ⟨g, cap, cur, hv, _⟩
    · omega
    · exact ⟨g, cap, hv⟩
  go_wp2_with fail
  go_ret
  refine ⟨rfl, ?_, ?_⟩
  · have e : Lib.byteCells (l ++ [c]) = Lib.byteCells l ++ [.int .u8 c.toNat] := by simp [Lib.byteCells]
    rw [IsBld, e]
    exact Or.inr (Lib.BuilderAt.put (T := 78) (e := 5) hB hb2 (bs' := Lib.byteCells l ++ [.int .u8 c.toNat]) (by simpa [Lib.byteCells_length] using hown') (by decide))
  · exact ((hb1.alloc (by have := hb1.size; omega) _).grown hgrow (by have := hb1.size; simp; omega) (fun k hk => (hown.lt k hk).1)).setCell (p := ⟨b, 1, none⟩) hB _
set_option maxHeartbeats 2000000 in
theorem writeString_any (B b : Nat) (l s : List UInt8) (w : World) (h : IsBld B b l w) (hlen : l.length + s.length ≤ 140737488355328) (hBw : B ≤ w.heap.size) :
    Calls Tryd.prog 47 #[.pointer (some ⟨b, 0, none⟩), .string ⟨s.toArray⟩] w fun e w' => e = .returned (.tuple #[.int .i64 s.length, .nilIface]) ∧ IsBld B b (l ++ s) w' ∧ Below B w w' := by
  obtain ⟨i0, hi, hz0, hz1, hz2⟩ := info_parts (show (Tryd.prog.info? 5).map (fun i => (i.zero, i.size, i.bytes)) = some (some (.int .u8 0), 1, 1) by kernel_rfl)
  go_enter Tryd.func47, Tryd.ntmps47
  go_wp2_with fail
  refine (copyCheck_any B b _ _ h).mono ?_
  rintro e w1 ⟨rfl, h1, hb1⟩
  obtain ⟨hB, v, hbk, hown, hne⟩ := h1
  rw [Lib.byteCells_length] at hown
  have c0 : w1.cell? ⟨b, 0, none⟩ = some (.pointer (some ⟨b, 0, none⟩)) := by rw [Lib.cell_of_heap hbk]; rfl
  have c1 : w1.cell? ⟨b, 1, none⟩ = some v := by rw [Lib.cell_of_heap hbk]; rfl
  have hss : (⟨s.toArray⟩ : ByteArray).size = s.length := by simp [ByteArray.size]
  go_wp2_with (at_builtin; refine Lib.wpList_append_own_string _ rfl _ _ 59 9 rfl B 5 i0 Tryd.underlying59 Tryd.underlying9 hi hz0 hz1 hz2 _ _ _ rfl hown ⟨s.toArray⟩ rfl ?c3 ?c4 ?c5 ?_)
  case c3 => unfold maxLen; rw [hss]; omega
  case c4 => rw [hss]; omega
  case c5 => have := hb1.size; omega
  intro v' w2 hown' hgrow _
  have hlt : b < w1.heap.size := (Array.getElem?_eq_some_iff.1 hbk).1
  have hb2 : w2.heap[b]? = some (.cells #[.pointer (some ⟨b, 0, none⟩), v] 78 (0, 0)) := by
    rw [hgrow.block b hlt (fun e => hne e.symm)]
    exact hbk
  have d0 : w2.cell? ⟨b, 0, none⟩ = some (.pointer (some ⟨b, 0, none⟩)) := by rw [Lib.cell_of_heap hb2]; rfl
  have d1 : w2.cell? ⟨b, 1, none⟩ = some v := by rw [Lib.cell_of_heap hb2]; rfl
  have f1 : w2.frozen? ⟨b, 1, none⟩ = false := Lib.frozen_of_heap hb2 1
  obtain ⟨ao, n', cap, rfl⟩ : ∃ ao n' cap, v' = .slice ao n' cap := by
    rcases hown'.2 with ⟨hv, _⟩ | ⟨g, cap, cur, hv, _⟩
    · exact ⟨_, _, _, hv⟩
    · exact ⟨_, _, _, hv⟩
  clear hss
  go_wp2_with fail
  go_ret2
  have e : Lib.byteCells (l ++ s) = Lib.byteCells l ++ Lib.strCells ⟨s.toArray⟩ := by simp [Lib.byteCells, Lib.strCells]
  refine ⟨rfl, ?_, ?_⟩
  · rw [IsBld, e]
    exact Or.inr (Lib.BuilderAt.put (T := 78) (e := 5) hB hb2 (bs' := Lib.byteCells l ++ Lib.strCells ⟨s.toArray⟩) (by simpa [Lib.byteCells_length, Lib.strCells_length, ByteArray.size] using hown') (by decide))
  · exact (hb1.grown hgrow (by have := hb1.size; omega) (fun k hk => (hown.lt k hk).1)).setCell (p := ⟨b, 1, none⟩) hB _
end Go.Proofs.YtmklodgcbldndaaDoor
