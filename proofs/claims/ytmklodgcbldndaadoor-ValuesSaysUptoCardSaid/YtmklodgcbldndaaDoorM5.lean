/-
  Expressions: levels of operators, the check, the text, the sort: plain; the reference's forms are the program's.
  The reference's 'letters' (utf-8 letter by letter), 'Length'.
  Plain facts on UTF-8 texts, no program in sight: letters and their bytes, counting, the longest beginning of whole letters.
  The plain law of reading values, no program in sight: what stands between quotes, and numbers.
  The plain law of reading values: numbers, and both readers agree.
  strings.Builder at this dump (whose copyCheck ends in a refusal where a builder would be copied): copyCheck, WriteByte, WriteString.
-/
import Derived.Test.YtmklodgcbldndaaDoorM4
import Derived.Lib.ItoaNum
import Derived.Test.YtmklodgcbldndaaDoorM2
import Derived.Lib.MapLaws
import Derived.Lib.TrimUEq
import Derived.Lib.RuneCount
import Derived.Lib.ParseIntBCases
import Derived.Lib.ParseIntBTie
import Derived.Lib.Atoi
import Derived.Shelf.Strings.Builder1
namespace Go.Proofs.YtmklodgcbldndaaDoor
open Go.RowKit Go.Proofs

set_option maxRecDepth 100000
/-- How tightly an operator of two holds. -/
def level (op : Str) : Int :=
  if op = [111, 114] then 1 else if op = [97, 110, 100] then 2
  else if op = [61, 61] ∨ op = [60] ∨ op = [60, 61] then 3
  else if op = [43] ∨ op = [45] ∨ op = [43, 43] then 4
  else if op = [42] ∨ op = [47] ∨ op = [37] then 5 else 0
theorem level_lt (op : Str) : 0 ≤ level op ∧ level op ≤ 5 := by
  unfold level
  repeat' split
  all_goals decide
/-- An operator of one. -/
def lone (op : Str) : Bool := decide (op = [110, 111, 116]) || (decide (op = [110, 101, 103]) || decide (op = [35]))
/-- No value. -/
def bare (t : Ex) : Bool := decide (t.vs = 0) && (decide (t.vn = 0) && decide (t.vt = []))
/-- What is wrong with a part alone; 9: nothing, but look at its parts. -/
def exOne (t : Ex) : Int :=
  if t.kind = 1 ∧ t.name = [] ∧ t.kids.length = 0 then vchk t.vs t.vn t.vt
  else if t.kind = 2 ∧ bare t = true ∧ t.kids.length = 0 ∧ isName t.name = true then 0
  else if t.kind = 3 ∧ bare t = true ∧ ((lone t.name = true ∧ t.kids.length = 1) ∨ (0 < level t.name ∧ t.kids.length = 2)) then 9
  else 1
section
variable {k : Int} {n : Str} {s v : Int} {x : Str} {ks : List Ex}
theorem exOne_1n (h : n ≠ []) : exOne (.mk 1 n s v x ks) = 1 := by simp [exOne, Ex.kind_mk, Ex.name_mk, h]
theorem exOne_1k (h : ks.length ≠ 0) : exOne (.mk 1 n s v x ks) = 1 := by
  have h' : ks ≠ [] := fun e => h (by rw [e]; rfl)
  simp [exOne, Ex.kind_mk, Ex.name_mk, Ex.kids_mk, h']
theorem exOne_1 (h : ks.length = 0) : exOne (.mk 1 [] s v x ks) = vchk s v x := by unfold exOne; exact if_pos ⟨rfl, rfl, h⟩
theorem exOne_2b (h : bare (.mk 2 n s v x ks) = false) : exOne (.mk 2 n s v x ks) = 1 := by simp [exOne, Ex.kind_mk, h]
theorem exOne_2n (h : isName n = false) : exOne (.mk 2 n s v x ks) = 1 := by simp [exOne, Ex.kind_mk, Ex.name_mk, h]
theorem exOne_2k (h : ks.length ≠ 0) : exOne (.mk 2 n s v x ks) = 1 := by
  have h' : ks ≠ [] := fun e => h (by rw [e]; rfl)
  simp [exOne, Ex.kind_mk, Ex.kids_mk, h']
theorem exOne_2 (h : bare (.mk 2 n s v x ks) = true) (hk : ks.length = 0) (hn : isName n = true) : exOne (.mk 2 n s v x ks) = 0 := by
  have h' : ks = [] := List.eq_nil_of_length_eq_zero hk
  subst h'
  simp [exOne, Ex.kind_mk, Ex.kids_mk, Ex.name_mk, h, hn]
theorem exOne_3 : exOne (.mk 3 n s v x ks) = if bare (.mk 3 n s v x ks) = true ∧ ((lone n = true ∧ ks.length = 1) ∨ (0 < level n ∧ ks.length = 2)) then 9 else 1 := by simp [exOne, Ex.kind_mk, Ex.kids_mk, Ex.name_mk]
theorem exOne_o (h1 : k ≠ 1) (h2 : k ≠ 2) (h3 : k ≠ 3) : exOne (.mk k n s v x ks) = 1 := by simp [exOne, Ex.kind_mk, h1, h2, h3]
end
mutual
/-- Check: the error, and how many parts are left. -/
def chkE (t : Ex) (left : Int) : Int × Int :=
  match t with
  | .mk k n s v x ks => if left - 1 < 0 then (2, left - 1) else if exOne (.mk k n s v x ks) = 9 then chkEs ks (left - 1) else (exOne (.mk k n s v x ks), left - 1)
def chkEs (ks : List Ex) (left : Int) : Int × Int :=
  match ks with
  | [] => (0, left)
  | k :: r => if (chkE k left).1 = 0 then chkEs r (chkE k left).2 else chkE k left
end
def exErr (t : Ex) : Int := (chkE t 60).1
/-- The reference's list. -/
def listE : Nat → List Ex → Int
  | _, [] => 0
  | 0, _ :: _ => 2
  | m + 1, t :: r => if exOne t = 9 then listE m (t.kids ++ r) else if exOne t = 0 then listE m r else exOne t

def AgreeE (m : Nat) (x : Int × Int) (stack rest : List Ex) : Prop :=
  (x.1 = 0 → ∃ m' : Nat, m' ≤ m ∧ x.2 = m' ∧ listE m stack = listE m' rest) ∧ (x.1 ≠ 0 → listE m stack = x.1)
theorem exOne_9 {t : Ex} (h : exOne t ≠ 9) (h0 : exOne t = 0) : t.kids = [] := by
  unfold exOne at h h0
  split at h0
  · rename_i h1; exact List.eq_nil_of_length_eq_zero h1.2.2
  · split at h0
    · rename_i h1; exact List.eq_nil_of_length_eq_zero h1.2.2.1
    · split at h0 <;> omega
mutual
theorem agreeE : ∀ (t : Ex) (rest : List Ex) (m : Nat), AgreeE m (chkE t m) (t :: rest) rest
  | .mk k n s v x ks, rest, m => by
    unfold chkE AgreeE
    cases m with
    | zero => simp [listE]
    | succ m =>
      have e1 : ¬ ((m + 1 : Nat) : Int) - 1 < 0 := by omega
      have e2 : ((m + 1 : Nat) : Int) - 1 = (m : Nat) := by omega
      rw [if_neg e1, e2]
      by_cases h9 : exOne (.mk k n s v x ks) = 9
      · rw [if_pos h9]
        have := agreeEs ks rest m
        unfold AgreeE at this
        refine ⟨fun h => ?_, fun h => ?_⟩
        · obtain ⟨m', h1, h2, h3⟩ := this.1 h
          exact ⟨m', by omega, h2, by simp only [listE, if_pos h9]; exact h3⟩
        · simp only [listE, if_pos h9]
          exact this.2 h
      · rw [if_neg h9]
        refine ⟨fun h => ⟨m, by omega, rfl, ?_⟩, fun h => ?_⟩
        · simp only at h
          simp only [listE, if_neg h9, if_pos h]
        · simp only at h
          simp only [listE, if_neg h9, if_neg h]
theorem agreeEs : ∀ (ks : List Ex) (rest : List Ex) (m : Nat), AgreeE m (chkEs ks m) (ks ++ rest) rest
  | [], rest, m => by
    unfold chkEs AgreeE
    exact ⟨fun _ => ⟨m, Nat.le_refl _, rfl, rfl⟩, fun h => absurd rfl h⟩
  | k :: r, rest, m => by
    unfold chkEs
    have h1 := agreeE k (r ++ rest) m
    by_cases h : (chkE k m).1 = 0
    · rw [if_pos h]
      obtain ⟨m', h2, h3, h4⟩ := h1.1 h
      have h5 := agreeEs r rest m'
      rw [h3]
      unfold AgreeE at h5 ⊢
      rw [List.cons_append, h4]
      refine ⟨fun h => ?_, h5.2⟩
      obtain ⟨m2, h6, h7⟩ := h5.1 h
      exact ⟨m2, by omega, h7⟩
    · rw [if_neg h]
      exact ⟨fun h' => absurd h' h, h1.2⟩
end
theorem exErr_list (t : Ex) : listE 60 [t] = exErr t := by
  have := agreeE t [] 60
  unfold AgreeE at this
  unfold exErr
  by_cases h : (chkE t (60 : Nat)).1 = 0
  · obtain ⟨m', _, _, h2⟩ := this.1 h
    rw [h2]
    have e : (chkE t 60).1 = 0 := h
    rw [e]
    cases m' <;> rfl
  · exact this.2 h

/-- A good expression: each part is as it must be. -/
inductive GoodE : Ex → Prop where
  | mk (t : Ex) (h : exOne t = 0 ∨ exOne t = 9) (hk : ∀ k ∈ t.kids, GoodE k) : GoodE t
mutual
theorem goodE_of : ∀ (t : Ex) (left : Int), (chkE t left).1 = 0 → GoodE t
  | .mk k n s v x ks, left, h => by
    unfold chkE at h
    split at h
    · simp at h
    · split at h
      · rename_i h9
        exact .mk _ (Or.inr h9) (goodEs_of ks _ h)
      · rename_i h9
        refine .mk _ (Or.inl h) ?_
        rw [exOne_9 h9 h]
        simp
theorem goodEs_of : ∀ (ks : List Ex) (left : Int), (chkEs ks left).1 = 0 → ∀ t ∈ ks, GoodE t
  | [], _, _ => by simp
  | k :: r, left, h => by
    unfold chkEs at h
    intro t ht
    split at h
    · rename_i h1
      rcases List.mem_cons.1 ht with e | ht
      · rw [e]; exact goodE_of k _ h1
      · exact goodEs_of r _ h t ht
    · rename_i h1
      exact absurd h h1
end

/-- The text of a value. -/
def esc (l : Str) : Str := l.flatMap fun b => if b = 10 then [92, 110] else if b = 92 ∨ b = 34 then [92, b] else [b]
def vtxt (s n : Int) (t : Str) : Str := if s = 1 then Lib.itoa n else if s = 2 then (if n = 1 then [116, 114, 117, 101] else [102, 97, 108, 115, 101]) else 34 :: (esc t ++ [34])
/-- The signs ahead of what an operator of one is of. -/
def ahead (n : Str) : Str := if n = [110, 101, 103] then [45, 32] else if n = [110, 111, 116] then [110, 111, 116, 32] else n
def paren (b : Bool) (s : Str) : Str := if b then 40 :: (s ++ [41]) else s
/-- The text of an expression. -/
def txtE : Ex → Str
  | .mk k n s v x [] => if k = 1 then vtxt s v x else n
  | .mk k n s v x [a] => if k = 1 then vtxt s v x else if k = 2 then n else ahead n ++ paren (decide (a.kids.length = 2)) (txtE a)
  | .mk k n s v x (a :: b :: r) => if k = 1 then vtxt s v x else if k = 2 then n else
      paren (decide (a.kids.length = 2 ∧ level a.name < level n)) (txtE a) ++ ([32] ++ n ++ [32]) ++ paren (decide (b.kids.length = 2 ∧ level b.name < level n + 1)) (txtE b)
/-- What an operator is of (none: any, if both are the same), and what comes of it. -/
def takesIn (n : Str) : Int := if n = [111, 114] ∨ n = [97, 110, 100] ∨ n = [110, 111, 116] then 2 else if n = [61, 61] ∨ n = [60] ∨ n = [60, 61] then 0 else if n = [43, 43] ∨ n = [35] then 3 else 1
def takesOut (n : Str) : Int := if n = [111, 114] ∨ n = [97, 110, 100] ∨ n = [110, 111, 116] then 2 else if n = [61, 61] ∨ n = [60] ∨ n = [60, 61] then 2 else if n = [43, 43] then 3 else 1
/-- The last one of a name counts. -/
def lookN (ns : List Str) (ss : List Int) (x : Str) : Nat → Option Int
  | 0 => none
  | n + 1 => if ns.getD n [] = x then some (ss.getD n 0) else lookN ns ss x n
mutual
def sortE (ns : List Str) (ss : List Int) : Ex → Int × Int
  | .mk k n s _ _ ks => if k = 1 then (s, 0) else if k = 2 then (match lookN ns ss n ns.length with | some v => (v, 0) | none => (0, 4))
      else sortEs ns ss (takesOut n) ks (if takesIn n = 0 then none else some (takesIn n))
def sortEs (ns : List Str) (ss : List Int) (out : Int) : List Ex → Option Int → Int × Int
  | [], _ => (out, 0)
  | k :: r, w => if (sortE ns ss k).2 ≠ 0 then (0, (sortE ns ss k).2) else match w with
      | none => sortEs ns ss out r (some (sortE ns ss k).1)
      | some v => if (sortE ns ss k).1 = v then sortEs ns ss out r (some v) else (0, 5)
end
theorem sortEs_any (ns : List Str) (ss : List Int) (out : Int) (k : Ex) (r : List Ex) (h : (sortE ns ss k).2 = 0) : sortEs ns ss out (k :: r) (some (sortE ns ss k).1) = sortEs ns ss out (k :: r) none := by
  simp [sortEs, h]
end Go.Proofs.YtmklodgcbldndaaDoor
namespace Go.Proofs.YtmklodgcbldndaaDoor
open Go.RowKit Go.Proofs

/-- The letters of a text, none where it is no UTF-8 (fuel: its length). -/
def lettersGo : Nat → List UInt8 → Option (List Int)
  | 0, _ => some []
  | n + 1, l => if l = [] then some [] else if (Lib.decodeL l).1 = 65533 ∧ (Lib.decodeL l).2 < 2 then none
      else (lettersGo n (l.drop (Lib.decodeL l).2)).map (((Lib.decodeL l).1 : Int) :: ·)
def letters (l : List UInt8) : Option (List Int) := lettersGo l.length l

theorem lettersGo_more : ∀ (n m : Nat) (l : List UInt8), l.length ≤ n → n ≤ m → lettersGo m l = lettersGo n l := by
  intro n
  induction n with
  | zero =>
    intro m l h _
    have : l = [] := List.eq_nil_of_length_eq_zero (by omega)
    subst this
    cases m <;> simp [lettersGo]
  | succ n ih =>
    intro m l h hm
    obtain ⟨k, rfl⟩ : ∃ k, m = k + 1 := ⟨m - 1, by omega⟩
    simp only [lettersGo]
    by_cases he : l = []
    · simp [he]
    · have := Lib.decodeL_width l
      have hl : 0 < l.length := List.length_pos_iff.2 he
      rw [ih k (l.drop (Lib.decodeL l).2) (by rw [List.length_drop]; omega) (by omega)]
theorem letters_nil : letters [] = some [] := rfl
theorem letters_bad {l : List UInt8} (h0 : l ≠ []) (h : (Lib.decodeL l).1 = 65533 ∧ (Lib.decodeL l).2 < 2) : letters l = none := by
  unfold letters
  obtain ⟨k, hk⟩ : ∃ k, l.length = k + 1 := ⟨l.length - 1, by have := List.length_pos_iff.2 h0; omega⟩
  rw [hk, lettersGo, if_neg h0, if_pos h]
theorem letters_cons {l : List UInt8} (h0 : l ≠ []) (h : ¬ ((Lib.decodeL l).1 = 65533 ∧ (Lib.decodeL l).2 < 2)) :
    letters l = (letters (l.drop (Lib.decodeL l).2)).map (((Lib.decodeL l).1 : Int) :: ·) := by
  unfold letters
  have := Lib.decodeL_width l
  obtain ⟨k, hk⟩ : ∃ k, l.length = k + 1 := ⟨l.length - 1, by have := List.length_pos_iff.2 h0; omega⟩
  rw [hk, lettersGo, if_neg h0, if_neg h, lettersGo_more (l.drop (Lib.decodeL l).2).length k _ (Nat.le_refl _) (by rw [List.length_drop]; omega)]

theorem decode_any (s : List UInt8) (h0 : s ≠ []) (w : World) (hT : Tabs w) :
    Calls Tryd.prog 44 #[.string ⟨s.toArray⟩] w fun e w' => e = .returned (.tuple #[.int .i32 (Lib.decodeL s).1, .int .i64 (Lib.decodeL s).2]) ∧ Below w.heap.size w w' := by
  refine (Tryd.utf8_DecodeRuneInString ⟨s.toArray⟩ w hT).mono ?_
  rintro e w' ⟨rfl, hb⟩
  refine ⟨?_, hb⟩
  have : Lib.decodeGo ⟨s.toArray⟩ = Lib.decodeL s := by
    unfold Lib.decodeGo Lib.decodeL
    rw [if_neg (by rw [Lib.size_eq]; simpa using h0)]
  rw [this]

/-- The row of numbers that a list of letters lies in. -/
abbrev runeCells (rs : List Int) : List Value := rs.map (Value.int .i32)

/-- What 'letters' hands back: a row of its own, or nil and false. -/
def LettersEnd (w : World) (a : Option (List Int)) (e : Ending) (w' : World) : Prop :=
  Below w.heap.size w w' ∧ match a with
    | some rs => ∃ v, e = .returned (.tuple #[v, .bool true]) ∧ w'.ownsRow w.heap.size 21 1 v rs.length (runeCells rs)
    | none => e = .returned (.tuple #[.slice none 0 0, .bool false])

set_option maxHeartbeats 1000000 in
theorem letters_any (s : List UInt8) (w : World) (hs : s.length ≤ 1099511627776) (hT : Tabs w) :
    Calls Tryd.prog 25 #[.string ⟨s.toArray⟩] w (LettersEnd w (letters s)) := by
  obtain ⟨ANS, hA⟩ : ∃ x, letters s = x := ⟨_, rfl⟩
  have HA := Lib.hid hA; rw [hA]; clear hA
  go_enter Tryd.func25, Tryd.ntmps25
  go_wp2
  go_loopw [0, 4, 5, 6] (fun s0 v _ _ wr => ∃ (t : List UInt8) (done : List Int), s0 = .string ⟨t.toArray⟩ ∧ Hid (letters s = (letters t).map (done ++ ·)) ∧ done.length + t.length ≤ s.length ∧ wr.ownsRow w.heap.size 21 1 v done.length (runeCells done) ∧ Below w.heap.size w wr)
    (fun s0 _ _ _ _ => match s0 with | .string b => b.size | _ => 0)
  case atStart => exact ⟨s, [], rfl, by simp [Hid], by simp, World.ownsRow_nil _ _ _ _, Below.refl _ _⟩
  case round =>
    obtain ⟨t, done, rfl, hl, hlen, hown, hb⟩ := hrel
    by_cases h0 : t = []
    · subst h0
      go_wp2
      go_ret2
      refine ⟨hb, ?_⟩
      have h1 := hl.out
      rw [letters_nil, HA.out] at h1
      subst h1
      exact ⟨_, rfl, by simpa using hown⟩
    · have hp : 0 < t.length := List.length_pos_iff.2 h0
      have hp' : (0 : Int) < (t.length : Int) := by omega
      have hw1 := Lib.decodeL_width t
      have hw2 := Lib.decodeL_le t h0
      obtain ⟨r, hr⟩ : ∃ r, (Lib.decodeL t).1 = r := ⟨_, rfl⟩
      obtain ⟨k, hk⟩ : ∃ k, (Lib.decodeL t).2 = k := ⟨_, rfl⟩
      have hd := decode_any t h0 wr (hT.below hb)
      rw [hr, hk] at hd
      rw [hk] at hw1 hw2
      have Hr := Lib.hid hr
      have Hk := Lib.hid hk
      have Hd := Lib.hid hd
      clear hr hk hd
      by_cases hbad : r = 65533 ∧ k < 2
      · obtain ⟨b1, b2⟩ := hbad
        have t1 : ((r : Int) == 65533) = true := by rw [beq_iff_eq]; omega
        have t2 : decide ((k : Int) < 2) = true := by rw [decide_eq_true_iff]; omega
        have HB : Hid (letters t = none) := letters_bad h0 ⟨by rw [Hr.out]; exact b1, by rw [Hk.out]; exact b2⟩
        clear b1 b2
        go_wp2_with (go_at_call 44; go_must (refine (Hd.out).mono ?_; rintro e w1 ⟨rfl, hb1⟩))
        go_ret2
        have h1 := hl.out
        rw [HB.out, HA.out] at h1
        subst h1
        exact ⟨step hb hb1 hb.size, rfl⟩
      · have HN : Hid (letters t = (letters (t.drop k)).map ((r : Int) :: ·)) := by
          have := letters_cons h0 (by rw [Hr.out, Hk.out]; exact hbad)
          rw [Hr.out, Hk.out] at this; exact this
        have hbz : (done.length + 1) * 4 ≤ 140737488355328 := by omega
        have hbn : done.length + 1 ≤ 4611686018427387904 := by omega
        have hq : ((r : Int) == 65533) = false ∨ (((r : Int) == 65533) = true ∧ decide ((k : Int) < 2) = false) := by
          by_cases h5 : r = 65533
          · refine .inr ⟨by rw [beq_iff_eq]; omega, ?_⟩
            rw [decide_eq_false_iff_not]; intro h; exact hbad ⟨h5, by omega⟩
          · refine .inl ?_
            rw [beq_eq_false_iff_ne]; omega
        have hwr : w.heap.size ≤ wr.heap.size := hb.size
        clear hbad
        rcases hq with t1 | ⟨t1, t2⟩
        all_goals
          go_wp2_with (first
            | (go_at_call 44; go_must (refine (Hd.out).mono ?_; rintro e w1 ⟨rfl, hb1⟩))
            | (at_builtin; go_must (refine wpList_app1 rt_runes w1 (.int .i32 r) rfl (.tmp 21) (.tmp 23) rfl w.heap.size u4 done.length (runeCells done) rfl (own_keep hown hb1 (Nat.le_refl _)) rfl rfl hbz hbn (Nat.le_trans hwr hb1.size) ?_; intro v2 w2 hown2 _ _ hb2)))
          go_roundw
          case rel =>
            refine ⟨t.drop k, done ++ [(r : Int)], rfl, ?_, by rw [List.length_append, List.length_drop, List.length_singleton]; omega, by simpa using hown2, (step hb hb1 hb.size).trans hb2⟩
            show letters s = _
            rw [hl.out, HN.out]
            cases letters (t.drop k) <;> simp
          case measure => simp [Lib.size_eq]; omega
end Go.Proofs.YtmklodgcbldndaaDoor
namespace Go.Proofs.YtmklodgcbldndaaDoor
open Go.RowKit Go.Proofs

/-- The bytes of a letter. -/
def enc (r : Int) : List UInt8 := (Utf8.encode r).data.toList

theorem u8 {n : Nat} {b : UInt8} (h : n = b.toNat) : UInt8.ofNat n = b := by subst h; simp

set_option maxRecDepth 1000000 in
/-- What is decoded is encoded as it was. -/
theorem dec_enc (l : List UInt8) (h0 : l ≠ []) (hb : ¬ ((Lib.decodeL l).1 = 65533 ∧ (Lib.decodeL l).2 < 2)) :
    l = enc (Lib.decodeL l).1 ++ l.drop (Lib.decodeL l).2 ∧ (enc (Lib.decodeL l).1).length = (Lib.decodeL l).2 ∧ Utf8.valid (Lib.decodeL l).1 = true := by
  have hd := Lib.decodeL_N l
  rw [hd] at hb ⊢
  match l, h0 with
  | b0 :: r, _ =>
    simp only [List.getD_cons_zero, List.getD_cons_succ, List.length_cons] at hb ⊢
    have l0 : b0.toNat < 256 := b0.toNat_lt
    unfold Lib.decodeN at hb ⊢
    split at hb
    · rename_i h
      rw [if_pos h]
      have hv : Utf8.valid ((b0.toNat : Nat) : Int) = true := by simp [Utf8.valid]; omega
      refine ⟨?_, ?_, hv⟩ <;> simp [enc, Utf8.encode, hv, h]
    · rename_i h
      rw [if_neg h]
      split at hb
      · rename_i h2
        rw [if_pos h2]
        obtain ⟨a1, a2, a3⟩ := h2
        match r, a2 with
        | b1 :: r1, _ =>
          simp only [List.getD_cons_zero] at hb a3 ⊢
          split at hb
          · rename_i h3
            rw [if_pos h3]
            have l1 : b1.toNat < 256 := b1.toNat_lt
            obtain ⟨c, hc⟩ : ∃ c, b0.toNat % 32 * 64 + b1.toNat % 64 = c := ⟨_, rfl⟩
            rw [hc] at h3 ⊢
            have hv : Utf8.valid ((c : Nat) : Int) = true := by simp [Utf8.valid]; omega
            have e : enc ((c : Nat) : Int) = [b0, b1] := by
              simp only [enc, Utf8.encode, hv, if_true, Int.toNat_natCast]
              rw [if_neg (by omega), if_pos (by omega)]
              show [_, _] = _
              rw [u8 (show 192 + c / 64 = b0.toNat by omega), u8 (show 128 + c % 64 = b1.toNat by omega)]
            simp only [e]; exact ⟨by simp, rfl, hv⟩
          · simp at hb
      · rename_i h2
        rw [if_neg h2]
        split at hb
        · rename_i h3
          rw [if_pos h3]
          obtain ⟨a1, ⟨a2, a3⟩, a4, a5⟩ := h3
          match r, a4 with
          | b1 :: b2 :: r1, _ =>
            simp only [List.getD_cons_zero, List.getD_cons_succ] at hb a3 a5 ⊢
            split at hb
            · rename_i h4
              rw [if_pos h4]
              have l1 : b1.toNat < 256 := b1.toNat_lt
              have l2 : b2.toNat < 256 := b2.toNat_lt
              obtain ⟨c, hc⟩ : ∃ c, b0.toNat % 16 * 4096 + b1.toNat % 64 * 64 + b2.toNat % 64 = c := ⟨_, rfl⟩
              rw [hc] at h4 ⊢
              have hv : Utf8.valid ((c : Nat) : Int) = true := by simp [Utf8.valid]; omega
              have e : enc ((c : Nat) : Int) = [b0, b1, b2] := by
                simp only [enc, Utf8.encode, hv, if_true, Int.toNat_natCast]
                rw [if_neg (by omega), if_neg (by omega), if_pos (by omega)]
                show [_, _, _] = _
                rw [u8 (show 224 + c / 4096 = b0.toNat by omega), u8 (show 128 + c / 64 % 64 = b1.toNat by omega), u8 (show 128 + c % 64 = b2.toNat by omega)]
              simp only [e]; exact ⟨by simp, rfl, hv⟩
            · simp at hb
        · rename_i h3
          rw [if_neg h3]
          split at hb
          · rename_i h4
            rw [if_pos h4]
            obtain ⟨a1, ⟨a2, a3⟩, ⟨a4, a5⟩, a6, a7⟩ := h4
            match r, a6 with
            | b1 :: b2 :: b3 :: r1, _ =>
              simp only [List.getD_cons_zero, List.getD_cons_succ] at hb a3 a5 a7 ⊢
              split at hb
              · rename_i h5
                rw [if_pos h5]
                have l1 : b1.toNat < 256 := b1.toNat_lt
                have l2 : b2.toNat < 256 := b2.toNat_lt
                have l3 : b3.toNat < 256 := b3.toNat_lt
                obtain ⟨c, hc⟩ : ∃ c, b0.toNat % 8 * 262144 + b1.toNat % 64 * 4096 + b2.toNat % 64 * 64 + b3.toNat % 64 = c := ⟨_, rfl⟩
                rw [hc] at h5 ⊢
                have hv : Utf8.valid ((c : Nat) : Int) = true := by simp [Utf8.valid]; omega
                have e : enc ((c : Nat) : Int) = [b0, b1, b2, b3] := by
                  simp only [enc, Utf8.encode, hv, if_true, Int.toNat_natCast]
                  rw [if_neg (by omega), if_neg (by omega), if_neg (by omega)]
                  show [_, _, _, _] = _
                  rw [u8 (show 240 + c / 262144 = b0.toNat by omega), u8 (show 128 + c / 4096 % 64 = b1.toNat by omega), u8 (show 128 + c / 64 % 64 = b2.toNat by omega), u8 (show 128 + c % 64 = b3.toNat by omega)]
                simp only [e]; exact ⟨by simp, rfl, hv⟩
              · simp at hb
          · simp at hb

/-- Of a text that is letters: each is one, and their bytes are the text. -/
theorem letters_spec : ∀ (n : Nat) (l : List UInt8) (rs : List Int), l.length ≤ n → letters l = some rs → l = rs.flatMap enc ∧ ∀ r ∈ rs, Utf8.valid r = true := by
  intro n
  induction n with
  | zero =>
    intro l rs h e
    have : l = [] := List.eq_nil_of_length_eq_zero (by omega)
    subst this
    rw [letters_nil] at e; cases e; simp
  | succ n ih =>
    intro l rs h e
    by_cases h0 : l = []
    · subst h0; rw [letters_nil] at e; cases e; simp
    · by_cases hb : (Lib.decodeL l).1 = 65533 ∧ (Lib.decodeL l).2 < 2
      · rw [letters_bad h0 hb] at e; cases e
      · rw [letters_cons h0 hb] at e
        obtain ⟨h1, h2, h3⟩ := dec_enc l h0 hb
        have hw := Lib.decodeL_width l
        have hp : 0 < l.length := List.length_pos_iff.2 h0
        cases hr : letters (l.drop (Lib.decodeL l).2) with
        | none => rw [hr] at e; cases e
        | some r1 =>
          rw [hr] at e; cases e
          obtain ⟨k1, k2⟩ := ih _ r1 (by rw [List.length_drop]; omega) hr
          refine ⟨?_, ?_⟩
          · rw [List.flatMap_cons, ← k1]; exact h1
          · intro r hm
            rcases List.mem_cons.1 hm with rfl | hm
            · exact h3
            · exact k2 r hm
end Go.Proofs.YtmklodgcbldndaaDoor
namespace Go.Proofs.YtmklodgcbldndaaDoor
open Go.RowKit Go.Proofs

set_option maxRecDepth 100000
/-! ### Letters -/
/-- What is encoded is decoded as it was. -/
theorem dec_of_enc (r : Int) (hv : Utf8.valid r = true) (x : Str) : Lib.decodeL (enc r ++ x) = (r.toNat, (enc r).length) := by
  rw [Lib.decodeL_N]
  have hr : (0 ≤ r ∧ r < 55296) ∨ (57344 ≤ r ∧ r ≤ 1114111) := by
    simp [Utf8.valid] at hv
    omega
  obtain ⟨n, rfl⟩ : ∃ n : Nat, r = (n : Int) := ⟨r.toNat, by omega⟩
  have m8 : ∀ k : Nat, k < 256 → (UInt8.ofNat k).toNat = k := fun k hk => by simp; omega
  rcases Nat.lt_or_ge n 128 with h1 | h1
  · have e : enc (n : Int) = [UInt8.ofNat n] := by simp only [enc, Utf8.encode, hv, if_true, Int.toNat_natCast]; rw [if_pos h1]
    rw [e]
    simp only [List.cons_append, List.nil_append, List.getD_cons_zero, List.length_cons, Int.toNat_natCast, List.length_nil, Nat.zero_add]
    rw [m8 n (by omega), Lib.decodeN, if_pos h1]
  · rcases Nat.lt_or_ge n 2048 with h2 | h2
    · have e : enc (n : Int) = [UInt8.ofNat (192 + n / 64), UInt8.ofNat (128 + n % 64)] := by
        simp only [enc, Utf8.encode, hv, if_true, Int.toNat_natCast]
        rw [if_neg (by omega), if_pos (by omega)]
      rw [e]
      simp only [List.cons_append, List.nil_append, List.getD_cons_zero, List.getD_cons_succ, List.length_cons, Int.toNat_natCast, List.length_nil, Nat.zero_add]
      rw [m8 _ (by omega), m8 _ (by omega), Lib.decodeN, if_neg (by omega), if_pos (by omega), if_pos (by omega)]
      refine Prod.ext ?_ rfl
      show _ = n
      omega
    · rcases Nat.lt_or_ge n 65536 with h3 | h3
      · have e : enc (n : Int) = [UInt8.ofNat (224 + n / 4096), UInt8.ofNat (128 + n / 64 % 64), UInt8.ofNat (128 + n % 64)] := by
          simp only [enc, Utf8.encode, hv, if_true, Int.toNat_natCast]
          rw [if_neg (by omega), if_neg (by omega), if_pos (by omega)]
        rw [e]
        simp only [List.cons_append, List.nil_append, List.getD_cons_zero, List.getD_cons_succ, List.length_cons, Int.toNat_natCast, List.length_nil, Nat.zero_add]
        rw [m8 _ (by omega), m8 _ (by omega), m8 _ (by omega), Lib.decodeN, if_neg (by omega), if_neg (by omega), if_pos (by omega), if_pos (by omega)]
        refine Prod.ext ?_ rfl
        show _ = n
        omega
      · have e : enc (n : Int) = [UInt8.ofNat (240 + n / 262144), UInt8.ofNat (128 + n / 4096 % 64), UInt8.ofNat (128 + n / 64 % 64), UInt8.ofNat (128 + n % 64)] := by
          simp only [enc, Utf8.encode, hv, if_true, Int.toNat_natCast]
          rw [if_neg (by omega), if_neg (by omega), if_neg (by omega)]
        rw [e]
        simp only [List.cons_append, List.nil_append, List.getD_cons_zero, List.getD_cons_succ, List.length_cons, Int.toNat_natCast, List.length_nil, Nat.zero_add]
        rw [m8 _ (by omega), m8 _ (by omega), m8 _ (by omega), m8 _ (by omega), Lib.decodeN, if_neg (by omega), if_neg (by omega), if_neg (by omega), if_pos (by omega), if_pos (by omega)]
        refine Prod.ext ?_ rfl
        show _ = n
        omega
theorem enc_pos (r : Int) (hv : Utf8.valid r = true) : 1 ≤ (enc r).length := by
  have h := dec_of_enc r hv []
  have hw := Lib.decodeL_width (enc r ++ [])
  rw [h] at hw
  exact hw
theorem enc_ne (r : Int) (hv : Utf8.valid r = true) (x : Str) : enc r ++ x ≠ [] := by
  have := enc_pos r hv
  intro e
  rw [List.append_eq_nil_iff] at e
  rw [e.1] at this
  simp at this
theorem enc_good (r : Int) (hv : Utf8.valid r = true) (k : Nat) (hk : k = (enc r).length) : ¬ (r.toNat = 65533 ∧ k < 2) := by
  rintro ⟨h1, h2⟩
  have hr : 0 ≤ r := by
    simp [Utf8.valid] at hv
    omega
  have : r = 65533 := by omega
  subst this
  have e : (enc 65533).length = 3 := by decide +kernel
  omega
theorem letters_enc : ∀ (rs : List Int), (∀ r ∈ rs, Utf8.valid r = true) → letters (rs.flatMap enc) = some rs := by
  intro rs
  induction rs with
  | nil => intro _; rfl
  | cons r rs ih =>
    intro h
    have hv := h r (by simp)
    have hr : 0 ≤ r := by
      simp [Utf8.valid] at hv
      omega
    rw [List.flatMap_cons]
    have hd := dec_of_enc r hv (rs.flatMap enc)
    rw [letters_cons (enc_ne r hv _) (by rw [hd]; exact enc_good r hv _ rfl), hd]
    show Option.map _ (letters (List.drop (enc r).length (enc r ++ _))) = _
    rw [List.drop_left, ih (fun x hx => h x (List.mem_cons_of_mem _ hx))]
    show some (((r.toNat : Nat) : Int) :: rs) = _
    rw [Int.toNat_of_nonneg hr]
/-- A text is UTF-8 if it is made of letters. -/
theorem validGo_isSome : ∀ (n : Nat) (l : List UInt8), l.length ≤ n → Lib.validGoD n l = (lettersGo n l).isSome := by
  intro n
  induction n with
  | zero => intro l _; rfl
  | succ n ih =>
    intro l hl
    simp only [Lib.validGoD, lettersGo]
    by_cases he : l = []
    · simp [he]
    · have hw := Lib.decodeL_width l
      have hp : 0 < l.length := List.length_pos_iff.2 he
      rw [if_neg he, if_neg he]
      by_cases hc : (Lib.decodeL l).1 = 65533 ∧ (Lib.decodeL l).2 = 1
      · rw [if_pos hc, if_pos ⟨hc.1, by omega⟩]
        rfl
      · rw [if_neg hc, if_neg (fun e => hc ⟨e.1, by omega⟩), ih _ (by rw [List.length_drop]; omega), Option.isSome_map]
theorem valid_iff (l : Str) : Lib.validD l = true ↔ ∃ rs : List Int, (∀ r ∈ rs, Utf8.valid r = true) ∧ l = rs.flatMap enc := by
  have h : Lib.validD l = (letters l).isSome := validGo_isSome _ _ (Nat.le_refl _)
  rw [h]
  constructor
  · intro h
    obtain ⟨rs, hrs⟩ := Option.isSome_iff_exists.1 h
    obtain ⟨h1, h2⟩ := letters_spec _ _ _ (Nat.le_refl _) hrs
    exact ⟨rs, h2, h1⟩
  · rintro ⟨rs, h1, rfl⟩
    rw [letters_enc rs h1]
    rfl
theorem valid_app {a b : Str} (ha : Lib.validD a = true) (hb : Lib.validD b = true) : Lib.validD (a ++ b) = true := by
  obtain ⟨ra, h1, rfl⟩ := (valid_iff a).1 ha
  obtain ⟨rb, h2, rfl⟩ := (valid_iff b).1 hb
  refine (valid_iff _).2 ⟨ra ++ rb, fun r hr => ?_, by rw [List.flatMap_append]⟩
  rcases List.mem_append.1 hr with h | h
  · exact h1 r h
  · exact h2 r h
theorem valid_enc {r : Int} (hv : Utf8.valid r = true) : Lib.validD (enc r) = true := (valid_iff _).2 ⟨[r], by simpa using hv, by simp⟩
theorem enc_one {r : Nat} (h : r < 128) : enc (r : Int) = [UInt8.ofNat r] := by
  have hv : Utf8.valid ((r : Nat) : Int) = true := by simp [Utf8.valid]; omega
  simp only [enc, Utf8.encode, hv, if_true, Int.toNat_natCast]; rw [if_pos h]
/-- Bytes of a letter that is no ASCII are none either. -/
theorem enc_high {r : Int} (hv : Utf8.valid r = true) (h : 128 ≤ r) : ∀ b ∈ enc r, 128 ≤ b.toNat := by
  obtain ⟨n, rfl⟩ : ∃ n : Nat, r = (n : Int) := ⟨r.toNat, by omega⟩
  have hr : n < 55296 ∨ (57344 ≤ n ∧ n ≤ 1114111) := by
    simp [Utf8.valid] at hv
    omega
  have m8 : ∀ k : Nat, k < 256 → (UInt8.ofNat k).toNat = k := fun k hk => by simp; omega
  intro b hb
  simp only [enc, Utf8.encode, hv, if_true, Int.toNat_natCast] at hb
  rw [if_neg (by omega)] at hb
  split at hb
  · have hb : b ∈ [UInt8.ofNat (192 + n / 64), UInt8.ofNat (128 + n % 64)] := hb
    simp only [List.mem_cons, List.mem_nil_iff, or_false] at hb
    rcases hb with rfl | rfl <;> (rw [m8 _ (by omega)]; omega)
  · split at hb
    · have hb : b ∈ [UInt8.ofNat (224 + n / 4096), UInt8.ofNat (128 + n / 64 % 64), UInt8.ofNat (128 + n % 64)] := hb
      simp only [List.mem_cons, List.mem_nil_iff, or_false] at hb
      rcases hb with rfl | rfl | rfl <;> (rw [m8 _ (by omega)]; omega)
    · have hb : b ∈ [UInt8.ofNat (240 + n / 262144), UInt8.ofNat (128 + n / 4096 % 64), UInt8.ofNat (128 + n / 64 % 64), UInt8.ofNat (128 + n % 64)] := hb
      simp only [List.mem_cons, List.mem_nil_iff, or_false] at hb
      rcases hb with rfl | rfl | rfl | rfl <;> (rw [m8 _ (by omega)]; omega)
theorem esc_app (a b : Str) : esc (a ++ b) = esc a ++ esc b := by simp [esc]
theorem esc_plain : ∀ {l : Str}, (∀ b ∈ l, b ≠ 10 ∧ b ≠ 34 ∧ b ≠ 92) → esc l = l := by
  intro l
  induction l with
  | nil => intro _; rfl
  | cons b l ih =>
    intro h
    obtain ⟨h1, h2, h3⟩ := h b (by simp)
    have e : esc (b :: l) = (if b = 10 then [92, 110] else if b = 92 ∨ b = 34 then [92, b] else [b]) ++ esc l := rfl
    rw [e, if_neg h1, if_neg (by simp [h2, h3]), ih (fun x hx => h x (List.mem_cons_of_mem _ hx))]
    rfl
theorem esc_single {b : UInt8} (h1 : b ≠ 10) (h2 : b ≠ 34) (h3 : b ≠ 92) : esc [b] = [b] := esc_plain fun x hx => by
  simp only [List.mem_singleton] at hx
  subst hx
  exact ⟨h1, h2, h3⟩
theorem esc_enc {r : Int} (hv : Utf8.valid r = true) (h : r ≠ 10 ∧ r ≠ 34 ∧ r ≠ 92) : esc (enc r) = enc r := by
  have hr : 0 ≤ r := by
    simp [Utf8.valid] at hv
    omega
  apply esc_plain
  intro b hb
  by_cases h1 : r < 128
  · obtain ⟨n, rfl⟩ : ∃ n : Nat, r = (n : Int) := ⟨r.toNat, by omega⟩
    rw [enc_one (by omega)] at hb
    simp at hb
    subst hb
    have m8 : (UInt8.ofNat n).toNat = n := by simp; omega
    have k : ∀ m : UInt8, UInt8.ofNat n = m → n = m.toNat := fun m e => by rw [← e, m8]
    have k1 : (10 : UInt8).toNat = 10 := rfl
    have k2 : (34 : UInt8).toNat = 34 := rfl
    have k3 : (92 : UInt8).toNat = 92 := rfl
    refine ⟨fun e => ?_, fun e => ?_, fun e => ?_⟩ <;> (have := k _ e; omega)
  · have := enc_high hv (by omega) b hb
    refine ⟨?_, ?_, ?_⟩ <;> (rintro rfl; revert this; decide)

/-! ### What stands between quotes -/
/-- The program's reader, behind the first quote: letter by letter. -/
def pq : Nat → Str → Str → Option Str
  | 0, _, _ => none
  | f + 1, l, out =>
    if l = [] then none
    else if ((Lib.decodeL l).1 = 65533 ∧ (Lib.decodeL l).2 = 1) ∨ (Lib.decodeL l).1 = 10 then none
    else if (Lib.decodeL l).1 = 34 then (if 1 < l.length then none else some out)
    else if (Lib.decodeL l).1 = 92 then
      (if l.length = 1 then none else if l.getD 1 0 = 92 ∨ l.getD 1 0 = 34 then pq f (l.drop 2) (out ++ [l.getD 1 0]) else if l.getD 1 0 = 110 then pq f (l.drop 2) (out ++ [10]) else none)
    else pq f (l.drop (Lib.decodeL l).2) (out ++ enc (Lib.decodeL l).1)
/-- The reference's, byte by byte: how many bytes, and which text. -/
def qt : Nat → Str → Str → Option (Nat × Str)
  | 0, _, _ => none
  | f + 1, l, out =>
    if l = [] then none
    else if l.getD 0 0 = 34 then (if Lib.validD out = true then some (1, out) else none)
    else if l.getD 0 0 = 10 then none
    else if l.getD 0 0 = 92 then
      (if l.length = 1 then none else if l.getD 1 0 = 110 then (qt f (l.drop 2) (out ++ [10])).map fun x => (x.1 + 2, x.2)
       else if l.getD 1 0 = 34 ∨ l.getD 1 0 = 92 then (qt f (l.drop 2) (out ++ [l.getD 1 0])).map fun x => (x.1 + 2, x.2) else none)
    else (qt f (l.drop 1) (out ++ [l.getD 0 0])).map fun x => (x.1 + 1, x.2)
theorem dec_ascii {b : UInt8} {l : Str} (h : b.toNat < 128) : Lib.decodeL (b :: l) = (b.toNat, 1) := by
  rw [Lib.decodeL_N]
  simp only [List.getD_cons_zero, Lib.decodeN, if_pos h]
theorem first_ascii {l : Str} (h0 : l ≠ []) (h : (Lib.decodeL l).1 < 128) (hb : ¬ ((Lib.decodeL l).1 = 65533 ∧ (Lib.decodeL l).2 < 2)) : ∃ r, l = UInt8.ofNat (Lib.decodeL l).1 :: r ∧ (Lib.decodeL l).2 = 1 := by
  obtain ⟨h1, h2, h3⟩ := dec_enc l h0 hb
  rw [enc_one h] at h1 h2
  exact ⟨_, h1, h2.symm⟩
theorem esc_cons (b : UInt8) (l : Str) : esc (b :: l) = esc [b] ++ esc l := esc_app [b] l
theorem pq_some : ∀ (f : Nat) (l out t : Str), Lib.validD out = true → pq f l out = some t → ∃ u, t = out ++ u ∧ l = esc u ++ [34] ∧ Lib.validD t = true := by
  intro f
  induction f with
  | zero => intro l out t _ h; simp [pq] at h
  | succ f ih =>
    intro l out t ho h
    rw [pq] at h
    split at h
    · cases h
    rename_i h0
    have hw := Lib.decodeL_width l
    split at h
    · cases h
    rename_i hn
    have hg : ¬ ((Lib.decodeL l).1 = 65533 ∧ (Lib.decodeL l).2 < 2) := fun e => hn (.inl ⟨e.1, by omega⟩)
    have h10 : (Lib.decodeL l).1 ≠ 10 := fun e => hn (.inr e)
    split at h
    · rename_i h34
      split at h
      · cases h
      rename_i hl
      injection h with h
      subst h
      obtain ⟨r, hr, -⟩ := first_ascii h0 (by omega) hg
      rw [h34] at hr
      refine ⟨[], by simp, ?_, ho⟩
      rw [hr]
      have : r = [] := by
        rw [hr] at hl
        simp at hl
        exact hl
      rw [this]
      rfl
    rename_i h34
    split at h
    · rename_i h92
      obtain ⟨r, hr, -⟩ := first_ascii h0 (by omega) hg
      rw [h92] at hr
      split at h
      · cases h
      rename_i hl
      match r, hr with
      | [], hr => rw [hr] at hl; simp at hl
      | c :: r, hr =>
        rw [hr] at h
        simp only [List.getD_cons_succ, List.getD_cons_zero, List.drop_succ_cons, List.drop_zero] at h
        split at h
        · rename_i hc
          have hv : Lib.validD [c] = true := by rcases hc with rfl | rfl <;> decide +kernel
          obtain ⟨u, h1, h2, h3⟩ := ih r _ t (valid_app ho hv) h
          refine ⟨c :: u, by rw [h1]; simp, ?_, h3⟩
          rw [hr, h2, esc_cons]
          have : esc [c] = [92, c] := by rcases hc with rfl | rfl <;> rfl
          rw [this]
          rfl
        · split at h
          · rename_i hc
            obtain ⟨u, h1, h2, h3⟩ := ih r _ t (valid_app ho (by decide +kernel)) h
            refine ⟨10 :: u, by rw [h1]; simp, ?_, h3⟩
            rw [hr, h2, hc, esc_cons]
            rfl
          · cases h
    · rename_i h92
      obtain ⟨h1, h2, h3⟩ := dec_enc l h0 hg
      obtain ⟨u, k1, k2, k3⟩ := ih _ _ t (valid_app ho (valid_enc h3)) h
      refine ⟨enc (Lib.decodeL l).1 ++ u, by rw [k1]; simp, ?_, k3⟩
      rw [esc_app, esc_enc h3 ⟨by omega, by omega, by omega⟩]
      rw [List.append_assoc, ← k2]
      exact h1
theorem pq_of : ∀ (rs : List Int) (f : Nat) (out : Str), (∀ r ∈ rs, Utf8.valid r = true) → (esc (rs.flatMap enc)).length + 1 ≤ f → pq f (esc (rs.flatMap enc) ++ [34]) out = some (out ++ rs.flatMap enc) := by
  intro rs
  induction rs with
  | nil =>
    intro f out _ hf
    obtain ⟨f, rfl⟩ : ∃ k, f = k + 1 := ⟨f - 1, by omega⟩
    have hd : Lib.decodeL [34] = (34, 1) := dec_ascii (by decide)
    show pq (f + 1) [34] out = some (out ++ [])
    rw [pq, hd]
    simp
  | cons r rs ih =>
    intro f out h hf
    have hv := h r (by simp)
    have hr : 0 ≤ r := by
      simp [Utf8.valid] at hv
      omega
    have hp := enc_pos r hv
    rw [List.flatMap_cons, esc_app] at hf ⊢
    obtain ⟨f, rfl⟩ : ∃ k, f = k + 1 := ⟨f - 1, by omega⟩
    by_cases hs : r = 10 ∨ r = 34 ∨ r = 92
    · have hd : ∀ (x : Str), Lib.decodeL (92 :: x) = (92, 1) := fun x => dec_ascii (by decide)
      rcases hs with rfl | rfl | rfl
      · have e1 : enc 10 = [10] := by decide +kernel
        rw [e1] at hf ⊢
        have e2 : esc [10] = [92, 110] := rfl
        rw [e2] at hf ⊢
        rw [show [92, 110] ++ esc (rs.flatMap enc) ++ [34] = 92 :: 110 :: (esc (rs.flatMap enc) ++ [34]) by simp, pq, hd, if_neg (by simp), if_neg (by simp), if_neg (by simp), if_pos (by rfl), if_neg (by simp), if_neg (by show ¬ ((110 : UInt8) = 92 ∨ (110 : UInt8) = 34); decide), if_pos (by rfl)]
        show pq f (esc (rs.flatMap enc) ++ [34]) (out ++ [10]) = _
        rw [ih f _ (fun x hx => h x (List.mem_cons_of_mem _ hx)) (by simp at hf; omega)]
        simp
      · have e1 : enc 34 = [34] := by decide +kernel
        rw [e1] at hf ⊢
        have e2 : esc [34] = [92, 34] := rfl
        rw [e2] at hf ⊢
        rw [show [92, 34] ++ esc (rs.flatMap enc) ++ [34] = 92 :: 34 :: (esc (rs.flatMap enc) ++ [34]) by simp, pq, hd, if_neg (by simp), if_neg (by simp), if_neg (by simp), if_pos (by rfl), if_neg (by simp), if_pos (.inr (by rfl))]
        show pq f (esc (rs.flatMap enc) ++ [34]) (out ++ [34]) = _
        rw [ih f _ (fun x hx => h x (List.mem_cons_of_mem _ hx)) (by simp at hf; omega)]
        simp
      · have e1 : enc 92 = [92] := by decide +kernel
        rw [e1] at hf ⊢
        have e2 : esc [92] = [92, 92] := rfl
        rw [e2] at hf ⊢
        rw [show [92, 92] ++ esc (rs.flatMap enc) ++ [34] = 92 :: 92 :: (esc (rs.flatMap enc) ++ [34]) by simp, pq, hd, if_neg (by simp), if_neg (by simp), if_neg (by simp), if_pos (by rfl), if_neg (by simp), if_pos (.inl (by rfl))]
        show pq f (esc (rs.flatMap enc) ++ [34]) (out ++ [92]) = _
        rw [ih f _ (fun x hx => h x (List.mem_cons_of_mem _ hx)) (by simp at hf; omega)]
        simp
    · have hn : r ≠ 10 ∧ r ≠ 34 ∧ r ≠ 92 := ⟨fun e => hs (.inl e), fun e => hs (.inr (.inl e)), fun e => hs (.inr (.inr e))⟩
      rw [esc_enc hv hn] at hf ⊢
      have hd := dec_of_enc r hv (esc (rs.flatMap enc) ++ [34])
      rw [List.append_assoc, pq, hd, if_neg (enc_ne r hv _), if_neg, if_neg (by show ¬ r.toNat = 34; omega), if_neg (by show ¬ r.toNat = 92; omega)]
      · show pq f (List.drop (enc r).length (enc r ++ _)) (out ++ enc ((r.toNat : Nat) : Int)) = _
        rw [List.drop_left, Int.toNat_of_nonneg hr, ih f _ (fun x hx => h x (List.mem_cons_of_mem _ hx)) (by rw [List.length_append] at hf; omega)]
        simp
      · show ¬ ((r.toNat = 65533 ∧ (enc r).length = 1) ∨ r.toNat = 10)
        have := enc_good r hv _ rfl
        omega
/-- The program's reader of quoted texts. -/
theorem pq_iff (l t : Str) : pq l.length l [] = some t ↔ l = esc t ++ [34] ∧ Lib.validD t = true := by
  constructor
  · intro h
    obtain ⟨u, h1, h2, h3⟩ := pq_some _ _ _ _ (by decide +kernel) h
    rw [List.nil_append] at h1
    subst h1
    exact ⟨h2, h3⟩
  · rintro ⟨h1, h2⟩
    obtain ⟨rs, h3, rfl⟩ := (valid_iff t).1 h2
    subst h1
    rw [pq_of rs _ [] h3 (by simp)]
    rfl
theorem qt_some : ∀ (f : Nat) (l out t : Str) (n : Nat), qt f l out = some (n, t) → ∃ u, t = out ++ u ∧ n ≤ l.length ∧ l.take n = esc u ++ [34] ∧ Lib.validD t = true := by
  intro f
  induction f with
  | zero => intro l out t n h; simp [qt] at h
  | succ f ih =>
    intro l out t n h
    rw [qt] at h
    match l with
    | [] => simp at h
    | b :: r =>
      rw [if_neg (by simp)] at h
      simp only [List.getD_cons_zero, List.drop_succ_cons, List.drop_zero, List.getD_cons_succ] at h
      split at h
      · rename_i hb
        split at h
        · rename_i hv
          injection h with h
          injection h with h1 h2
          subst h1 h2
          exact ⟨[], by simp, by simp, by rw [hb]; rfl, hv⟩
        · cases h
      rename_i h34
      split at h
      · cases h
      rename_i h10
      split at h
      · rename_i h92
        split at h
        · cases h
        rename_i hl
        match r with
        | [] => simp at hl
        | c :: r =>
          simp only [List.getD_cons_zero, List.drop_succ_cons, List.drop_zero] at h
          split at h
          · rename_i hc
            obtain ⟨⟨m, t'⟩, h1, h2⟩ := Option.map_eq_some_iff.1 h
            injection h2 with h2 h3
            subst h3
            obtain ⟨u, k1, k2, k3, k4⟩ := ih r _ _ m h1
            refine ⟨10 :: u, by rw [k1]; simp, by simp only [List.length_cons]; omega, ?_, k4⟩
            subst h2
            show List.take (m + 2) (b :: c :: r) = _
            rw [List.take_succ_cons, List.take_succ_cons, k3, esc_cons, h92, hc]
            rfl
          · split at h
            · rename_i hc
              obtain ⟨⟨m, t'⟩, h1, h2⟩ := Option.map_eq_some_iff.1 h
              injection h2 with h2 h3
              subst h3
              obtain ⟨u, k1, k2, k3, k4⟩ := ih r _ _ m h1
              refine ⟨c :: u, by rw [k1]; simp, by simp only [List.length_cons]; omega, ?_, k4⟩
              subst h2
              show List.take (m + 2) (b :: c :: r) = _
              rw [List.take_succ_cons, List.take_succ_cons, k3, esc_cons, h92]
              have : esc [c] = [92, c] := by rcases hc with rfl | rfl <;> rfl
              rw [this]
              rfl
            · cases h
      · rename_i h92
        obtain ⟨⟨m, t'⟩, h1, h2⟩ := Option.map_eq_some_iff.1 h
        injection h2 with h2 h3
        subst h3
        obtain ⟨u, k1, k2, k3, k4⟩ := ih r _ _ m h1
        refine ⟨b :: u, by rw [k1]; simp, by simp only [List.length_cons]; omega, ?_, k4⟩
        subst h2
        show List.take (m + 1) (b :: r) = _
        rw [List.take_succ_cons, k3, esc_cons, esc_single h10 h34 h92]
        rfl
theorem qt_of : ∀ (u : Str) (f : Nat) (out x : Str), (esc u).length + 1 ≤ f → Lib.validD (out ++ u) = true → qt f (esc u ++ 34 :: x) out = some ((esc u).length + 1, out ++ u) := by
  intro u
  induction u with
  | nil =>
    intro f out x hf hv
    obtain ⟨f, rfl⟩ : ∃ k, f = k + 1 := ⟨f - 1, by omega⟩
    rw [List.append_nil] at hv ⊢
    show qt (f + 1) (34 :: x) out = _
    rw [qt, if_neg (by simp), if_pos (by rfl), if_pos hv]
    rfl
  | cons b u ih =>
    intro f out x hf hv
    have hc : out ++ b :: u = out ++ [b] ++ u := by simp
    rw [esc_cons] at hf ⊢
    rw [hc] at hv ⊢
    have hpos : 1 ≤ (esc [b]).length := by
      by_cases h1 : b = 10
      · subst h1; decide
      · by_cases h2 : b = 34
        · subst h2; decide
        · by_cases h3 : b = 92
          · subst h3; decide
          · rw [esc_single h1 h2 h3]; simp
    rw [List.length_append] at hf
    obtain ⟨f, rfl⟩ : ∃ k, f = k + 1 := ⟨f - 1, by omega⟩
    have IH := ih f (out ++ [b]) x (by omega) hv
    by_cases h1 : b = 10
    · subst h1
      have e2 : esc [10] = [92, 110] := rfl
      rw [e2, show [92, 110] ++ esc u ++ 34 :: x = 92 :: 110 :: (esc u ++ 34 :: x) by simp, qt, if_neg (by simp), if_neg (by simp), if_neg (by simp), if_pos (by rfl), if_neg (by simp), if_pos (by rfl)]
      show Option.map _ (qt f (esc u ++ 34 :: x) (out ++ [10])) = _
      rw [IH]
      simp
    · by_cases h23 : b = 34 ∨ b = 92
      · have e2 : esc [b] = [92, b] := by rcases h23 with rfl | rfl <;> rfl
        rw [e2, show [92, b] ++ esc u ++ 34 :: x = 92 :: b :: (esc u ++ 34 :: x) by simp, qt, if_neg (by simp), if_neg (by simp), if_neg (by simp), if_pos (by rfl), if_neg (by simp), if_neg (by rcases h23 with rfl | rfl <;> simp), if_pos (show (92 :: b :: (esc u ++ 34 :: x)).getD 1 0 = 34 ∨ (92 :: b :: (esc u ++ 34 :: x)).getD 1 0 = 92 from h23)]
        show Option.map _ (qt f (esc u ++ 34 :: x) (out ++ [b])) = _
        rw [IH]
        simp
      · have h2 : b ≠ 34 := fun e => h23 (.inl e)
        have h3 : b ≠ 92 := fun e => h23 (.inr e)
        rw [esc_single h1 h2 h3, show [b] ++ esc u ++ 34 :: x = b :: (esc u ++ 34 :: x) by simp, qt, if_neg (by simp), if_neg (by simpa using h2), if_neg (by simpa using h1), if_neg (by simpa using h3)]
        show Option.map _ (qt f (esc u ++ 34 :: x) (out ++ [b])) = _
        rw [IH]
        simp
/-- The reference's reader of quoted texts, where it takes all. -/
theorem qt_iff (l t : Str) : qt l.length l [] = some (l.length, t) ↔ l = esc t ++ [34] ∧ Lib.validD t = true := by
  constructor
  · intro h
    obtain ⟨u, h1, h2, h3, h4⟩ := qt_some _ _ _ _ _ h
    rw [List.nil_append] at h1
    subst h1
    rw [List.take_length] at h3
    exact ⟨h3, h4⟩
  · rintro ⟨h1, h2⟩
    subst h1
    rw [qt_of t _ [] [] (by simp) (by simpa using h2)]
    simp
end Go.Proofs.YtmklodgcbldndaaDoor
namespace Go.Proofs.YtmklodgcbldndaaDoor
open Go.RowKit Go.Proofs

set_option maxRecDepth 100000
theorem digit_of (d : Nat) (h : d < 10) : Lib.digitVal (UInt8.ofNat (48 + d)) = some d := by
  have m8 : (UInt8.ofNat (48 + d)).toNat = 48 + d := by simp; omega
  unfold Lib.digitVal
  rw [m8, if_pos (by omega)]
  congr 1
  omega
theorem decFrom_snoc : ∀ (l : Str) (acc n : Nat) (b : UInt8) (d : Nat), Lib.decFrom acc l = some n → Lib.digitVal b = some d → Lib.decFrom acc (l ++ [b]) = some (n * 10 + d) := by
  intro l
  induction l with
  | nil =>
    intro acc n b d h hd
    simp [Lib.decFrom] at h
    subst h
    simp [Lib.decFrom, hd]
  | cons c r ih =>
    intro acc n b d h hd
    rw [Lib.decFrom] at h
    rw [List.cons_append, Lib.decFrom]
    split at h
    · rename_i e he
      exact ih _ _ _ _ h hd
    · cases h
theorem decDigits_step (u : Nat) (h : ¬ u < 10) : Lib.decDigits u = Lib.decDigits (u / 10) ++ [UInt8.ofNat (48 + u % 10)] := by
  rw [Lib.decDigits, dif_neg h]
theorem dec_digits (u : Nat) : Lib.decFrom 0 (Lib.decDigits u) = some u := by
  induction u using Nat.strongRecOn with
  | _ u ih =>
    by_cases h : u < 10
    · rw [Lib.decDigits_one h, Lib.decFrom, digit_of u h]
      show some (0 * 10 + u) = some u
      congr 1
      omega
    · rw [decDigits_step u h, decFrom_snoc _ _ _ _ _ (ih (u / 10) (by omega)) (digit_of _ (by omega))]
      congr 1
      omega
theorem decDigits_ne (u : Nat) : Lib.decDigits u ≠ [] := by
  by_cases h : u < 10
  · rw [Lib.decDigits_one h]; simp
  · rw [decDigits_step u h]; simp
theorem decDigits_dig (u : Nat) : ∀ b ∈ Lib.decDigits u, 48 ≤ b.toNat ∧ b.toNat ≤ 57 := by
  induction u using Nat.strongRecOn with
  | _ u ih =>
    have m8 : ∀ d : Nat, d < 10 → (UInt8.ofNat (48 + d)).toNat = 48 + d := fun d hd => by simp; omega
    intro b hb
    by_cases h : u < 10
    · rw [Lib.decDigits_one h] at hb
      obtain rfl := List.mem_singleton.1 hb
      rw [m8 u h]
      omega
    · rw [decDigits_step u h] at hb
      rcases List.mem_append.1 hb with hb | hb
      · exact ih (u / 10) (by omega) b hb
      · obtain rfl := List.mem_singleton.1 hb
        rw [m8 _ (by omega)]
        omega
theorem u10_snoc : ∀ (l : Str) (acc n d : Nat), Lib.parseUint10 acc l = .ok n → d < 10 → n * 10 + d < 18446744073709551616 → Lib.parseUint10 acc (l ++ [UInt8.ofNat (48 + d)]) = .ok (n * 10 + d) := by
  intro l
  induction l with
  | nil =>
    intro acc n d h hd hn
    have m8 : (UInt8.ofNat (48 + d)).toNat = 48 + d := by simp; omega
    simp only [Lib.parseUint10] at h
    injection h with h
    subst h
    rw [List.nil_append, Lib.parseUint10, m8, if_pos (by omega), if_neg (by omega), if_neg (by omega), Lib.parseUint10]
    congr 1
    omega
  | cons c r ih =>
    intro acc n d h hd hn
    rw [Lib.parseUint10] at h
    rw [List.cons_append, Lib.parseUint10]
    split at h
    · rename_i hc
      rw [if_pos hc]
      split at h
      · cases h
      · rename_i h1
        rw [if_neg h1]
        split at h
        · cases h
        · rename_i h2
          rw [if_neg h2]
          exact ih _ _ _ h hd hn
    · cases h
theorem u10_digits (u : Nat) : u < 18446744073709551616 → Lib.parseUint10 0 (Lib.decDigits u) = .ok u := by
  induction u using Nat.strongRecOn with
  | _ u ih =>
    intro hu
    by_cases h : u < 10
    · have := u10_snoc [] 0 0 u rfl h (by omega)
      rw [Lib.decDigits_one h]
      simpa using this
    · rw [decDigits_step u h, u10_snoc _ _ _ _ (ih (u / 10) (by omega) (by omega)) (by omega) (by omega)]
      congr 1
      omega
theorem decDigits_first (u : Nat) : ∃ c r, Lib.decDigits u = c :: r ∧ 48 ≤ c.toNat ∧ c.toNat ≤ 57 := by
  match h : Lib.decDigits u with
  | [] => exact absurd h (decDigits_ne u)
  | c :: r =>
    have := decDigits_dig u c (by rw [h]; simp)
    exact ⟨c, r, rfl, this.1, this.2⟩
/-- What is written as a number is read as that number. -/
theorem parse_itoa (n : Int) (h1 : -9223372036854775808 ≤ n) (h2 : n ≤ 9223372036854775807) : Lib.parseIntB 64 (Lib.itoa n) = .ok n := by
  rw [Lib.parseIntB_64]
  unfold Lib.itoa
  split
  · rename_i hn
    rw [Lib.atoiAll_minus, Lib.parseMag, if_neg (decDigits_ne _), u10_digits _ (by omega)]
    simp only [Lib.signed]
    rw [if_neg (by omega)]
    congr 1
    omega
  · rename_i hn
    obtain ⟨c, r, hc, hc1, hc2⟩ := decDigits_first n.toNat
    rw [hc, Lib.atoiAll_plain c r (by omega) (by omega), ← hc, Lib.parseMag, if_neg (decDigits_ne _), u10_digits _ (by omega)]
    simp only [Lib.signless]
    rw [if_neg (by omega)]
    congr 1
    omega
theorem atoi_itoa (n : Int) : Lib.atoi (Lib.itoa n) = some n := by
  have hd : ∀ u, Lib.decNat (Lib.decDigits u) = some u := fun u => by
    unfold Lib.decNat
    rw [if_neg (by simpa using decDigits_ne u), dec_digits]
  unfold Lib.itoa
  split
  · rename_i hn
    rw [Lib.atoi, if_pos (by decide), hd]
    show some (-((n.natAbs : Nat) : Int)) = _
    congr 1
    omega
  · rename_i hn
    obtain ⟨c, r, hc, hc1, hc2⟩ := decDigits_first n.toNat
    have h45 : (c == 45) = false := by
      rw [beq_eq_false_iff_ne]
      rintro rfl
      simp at hc1
    have h43 : (c == 43) = false := by
      rw [beq_eq_false_iff_ne]
      rintro rfl
      simp at hc1
    rw [hc, Lib.atoi, h45, h43, ← hc, hd]
    show some ((n.toNat : Nat) : Int) = _
    congr 1
    omega
theorem itoa_len20 (n : Int) (h1 : -9223372036854775808 ≤ n) (h2 : n ≤ 9223372036854775807) : (Lib.itoa n).length ≤ 20 := by
  have hl : ∀ u : Nat, u < 10 ^ 19 → (Lib.decDigits u).length ≤ 19 := by
    intro u hu
    by_cases h0 : u = 0
    · subst h0
      rw [Lib.decDigits_one (by decide)]
      decide
    · rw [← digs_dec u h0, List.length_reverse]
      exact digs_len hu
  unfold Lib.itoa
  split
  · have := hl n.natAbs (by omega)
    rw [List.length_cons]
    omega
  · have := hl n.toNat (by omega)
    omega
/-- A number as it is written. -/
def IsNum (s : Str) (n : Int) : Prop := Lib.itoa n = s ∧ -9223372036854775808 ≤ n ∧ n ≤ 9223372036854775807
instance (s : Str) (n : Int) : Decidable (IsNum s n) := by unfold IsNum; infer_instance
def numR (s : Str) : Option Int := if 20 < s.length then none else (Lib.atoi s).bind fun n => if IsNum s n then some n else none
theorem numR_iff (s : Str) (n : Int) : numR s = some n ↔ IsNum s n := by
  constructor
  · intro h
    unfold numR at h
    split at h
    · cases h
    · obtain ⟨m, h1, h2⟩ := Option.bind_eq_some_iff.1 h
      split at h2
      · injection h2 with h2
        subst h2
        assumption
      · cases h2
  · rintro ⟨h, h1, h2⟩
    have hl := itoa_len20 n h1 h2
    unfold numR
    subst h
    rw [if_neg (by omega), atoi_itoa, Option.bind_some, if_pos ⟨rfl, h1, h2⟩]
def numP (s : Str) : Option Int := match Lib.parseIntB 64 s with
  | .ok n => if Lib.itoa n = s then some n else none
  | _ => none
theorem numP_iff (s : Str) (n : Int) : numP s = some n ↔ IsNum s n := by
  constructor
  · intro h
    unfold numP at h
    split at h
    · rename_i m hm
      split at h
      · injection h with h
        subst h
        have hb := Lib.parseIntB_bounds hm
        exact ⟨by assumption, by have := hb.1; omega, by have := hb.2; omega⟩
      · cases h
    · cases h
  · rintro ⟨h, h1, h2⟩
    subst h
    unfold numP
    rw [parse_itoa n h1 h2]
    simp
theorem num_agree (s : Str) : numP s = numR s := by
  apply Option.ext
  intro n
  rw [numP_iff, numR_iff]
/-- "true", "false". -/
abbrev trueS : Str := [116, 114, 117, 101]
abbrev falseS : Str := [102, 97, 108, 115, 101]
/-- How many bytes of a text are a written Text at its beginning, and which. -/
def quotedR (s : Str) : Option (Nat × Str) := if s.head? = some 34 then (qt (s.length - 1) (s.drop 1) []).map fun x => (x.1 + 1, x.2) else none
abbrev VR := Int × Int × Str × Int
/-- What is read of what stands between quotes, or else as a number. -/
def rdQ (o : Option Str) (n : Option Int) : VR := match o with
  | some t => if 100 < t.length then (0, 0, [], 2) else (3, 0, t, 0)
  | none => match n with
    | some n => (1, n, [], 0)
    | none => (0, 0, [], 3)
/-- A text that is all quoted. -/
def allQ (s : Str) : Option Str := (quotedR s).bind fun x => if x.1 = s.length then some x.2 else none
/-- What the reference reads: sort, number, text, error. -/
def rdR (s : Str) : VR :=
  if s = trueS then (2, 1, [], 0) else if s = falseS then (2, 0, [], 0) else rdQ (allQ s) (numR s)
/-- What the program reads of a quoted text. -/
def qVal (o : Option Str) : VR := match o with
  | some t => if 100 < t.length then (0, 0, [], 2) else (3, 0, t, 0)
  | none => (0, 0, [], 3)
def nVal (o : Option Int) : VR := match o with
  | some n => (1, n, [], 0)
  | none => (0, 0, [], 3)
def rdP (s : Str) : VR :=
  if s = trueS then (2, 1, [], 0) else if s = falseS then (2, 0, [], 0) else
  if s.head? = some 34 then qVal (pq (s.length - 1) (s.drop 1) []) else nVal (numP s)
theorem num_first {s : Str} {n : Int} (h : IsNum s n) : s.head? ≠ some 34 := by
  obtain ⟨h, -, -⟩ := h
  subst h
  unfold Lib.itoa
  split
  · simp
  · obtain ⟨c, r, hc, hc1, hc2⟩ := decDigits_first n.toNat
    rw [hc]
    intro e
    simp at e
    subst e
    revert hc1
    decide
theorem rd_agree (s : Str) : rdP s = rdR s := by
  unfold rdP rdR
  split
  · rfl
  split
  · rfl
  unfold allQ quotedR
  by_cases hh : s.head? = some 34
  · rw [if_pos hh, if_pos hh]
    obtain ⟨r, rfl⟩ : ∃ r, s = 34 :: r := by
      cases s with
      | nil => simp at hh
      | cons b r => simp at hh; exact ⟨r, by rw [hh]⟩
    simp only [List.length_cons, Nat.add_sub_cancel, List.drop_succ_cons, List.drop_zero]
    have hnum : numR (34 :: r) = none := by
      match h : numR (34 :: r) with
      | none => rfl
      | some n => exact absurd rfl (num_first ((numR_iff _ _).1 h))
    rw [hnum]
    have key : pq r.length r [] = (((qt r.length r []).map fun x => (x.1 + 1, x.2)).bind fun x => if x.1 = r.length + 1 then some x.2 else none) := by
      apply Option.ext
      intro t
      rw [pq_iff, ← qt_iff]
      match h : qt r.length r [] with
      | none => simp
      | some (n, u) =>
        simp only [Option.map_some, Option.bind_some, Option.some.injEq, Prod.mk.injEq]
        constructor
        · rintro ⟨rfl, rfl⟩
          rw [if_pos rfl]
        · intro h2
          split at h2
          · rename_i e
            injection h2 with h2
            exact ⟨by omega, h2⟩
          · cases h2
    rw [← key]
    cases pq r.length r [] <;> rfl
  · rw [if_neg hh, if_neg hh, num_agree]
    cases numR s <;> rfl
end Go.Proofs.YtmklodgcbldndaaDoor
namespace Go.Proofs.YtmklodgcbldndaaDoor
open Go.RowKit Go.Proofs

set_option maxRecDepth 100000
/-- A builder that the call has made. -/
abbrev IsBld (B b : Nat) (l : List UInt8) (w : World) : Prop := Lib.IsBuilder 78 5 B b (Lib.byteCells l) w
set_option maxHeartbeats 2000000 in
theorem copyCheck_any (B b : Nat) (bs : List Value) (w : World) (h : Lib.IsBuilder 78 5 B b bs w) :
    Calls Tryd.prog 69 #[.pointer (some ⟨b, 0, none⟩)] w fun e w' => e = .returned (.tuple #[]) ∧ Lib.BuilderAt 78 5 B b (.pointer (some ⟨b, 0, none⟩)) bs w' ∧ Below B w w' := by
  have hsz : (Tryd.prog.info? 78).map (·.size) = some 2 := by kernel_rfl
  obtain ⟨j, hj, hjs⟩ := Option.map_eq_some_iff.1 hsz
  have hlies : liesAt Tryd.prog Tryd.prog.depth 78 (2 / Tryd.prog.cellsOf 78) 0 78 1 = true := by kernel_rfl
  rcases h with h | h
  · have h0 := h.cell0
    have hsh := h.shape
    have hfz := h.frozen0
    go_enter Tryd.func69, Tryd.ntmps69
    go_wp2
    rw [Lib.run_to_unsafe w ⟨b, 0, none⟩ Tryd.underlying76 Tryd.underlying139 hj (by rw [hjs]; decide) hsh (Nat.zero_lt_succ 1)]
    simp only [Result.andThen]
    rw [Oper.upon_value]
    go_wp2
    rw [run_callFunc_extern Tryd.func98 (by kernel_rfl) (by kernel_rfl) (by kernel_rfl) (e := Extern.AbiNoEscape.same) (by kernel_rfl)]
    rw [Lib.run_noEscape]
    simp only [Result.andThen]
    rw [Oper.upon_value]
    go_wp2
    rw [Lib.run_from_unsafe w ⟨b, 0, none⟩ Tryd.underlying139 Tryd.underlying76 hj hsh hlies]
    simp only [Result.andThen]
    rw [Oper.upon_value]
    go_wp2
    go_end0
    exact ⟨rfl, h.used _, (Below.refl B w).setCell (p := ⟨b, 0, none⟩) h.1 _⟩
  · have h0 := h.cell0
    go_enter Tryd.func69, Tryd.ntmps69
    go_wp2
    rw [Lib.run_neq_ptr_same w _ Tryd.underlying76 hj]
    go_wp2
    go_end0
    exact ⟨rfl, h, Below.refl _ _⟩
set_option maxHeartbeats 2000000 in
theorem writeByte_any (B b : Nat) (l : List UInt8) (c : UInt8) (w : World) (h : IsBld B b l w) (hlen : l.length + 1 ≤ 140737488355328) (hBw : B ≤ w.heap.size) :
    Calls Tryd.prog 48 #[.pointer (some ⟨b, 0, none⟩), .int .u8 c.toNat] w fun e w' => e = .returned .nilIface ∧ IsBld B b (l ++ [c]) w' ∧ Below B w w' := by
  obtain ⟨i0, hi, hz0, hz1, hz2⟩ := info_parts (show (Tryd.prog.info? 5).map (fun i => (i.zero, i.size, i.bytes)) = some (some (.int .u8 0), 1, 1) by kernel_rfl)
  go_enter Tryd.func48, Tryd.ntmps48
  go_wp2_with fail
  refine (copyCheck_any B b _ _ h).mono ?_
  rintro e w1 ⟨rfl, h1, hb1⟩
  obtain ⟨hB, v, hbk, hown, hne⟩ := h1
  rw [Lib.byteCells_length] at hown
  have c0 : w1.cell? ⟨b, 0, none⟩ = some (.pointer (some ⟨b, 0, none⟩)) := by rw [Lib.cell_of_heap hbk]; rfl
  have c1 : w1.cell? ⟨b, 1, none⟩ = some v := by rw [Lib.cell_of_heap hbk]; rfl
  go_wp2_with (at_builtin; refine wpList_append_own _ rfl _ _ 59 rfl B 5 i0 (.int .u8 0) 1 1 Tryd.underlying59 hi hz0 hz1 hz2 rfl (by decide) _ _ _ rfl (hown.alloc _) ⟨w1.heap.size, 0, none⟩ 1 1 [.int .u8 c.toNat] rfl rfl ?c1 ?c2 ?c3 ?c4 ?c5 ?_)
  case c1 =>
    intro j u hj
    match j, hj with
    | 0, hj => simp at hj; subst hj; simp [Addr.add]
  case c2 => intro u hu; simp at hu; subst hu; rfl
  case c3 => unfold maxLen; omega
  case c4 => omega
  case c5 => have := hb1.size; simp; omega
  intro v' w2 hown' hgrow _
  have hlt : b < w1.heap.size := (Array.getElem?_eq_some_iff.1 hbk).1
  have hb2 : w2.heap[b]? = some (.cells #[.pointer (some ⟨b, 0, none⟩), v] 78 (0, 0)) := by
    rw [hgrow.block b (by simp; omega) (fun e => hne e.symm), Lib.alloc_old w1 _ b hlt]
    exact hbk
  have d0 : w2.cell? ⟨b, 0, none⟩ = some (.pointer (some ⟨b, 0, none⟩)) := by rw [Lib.cell_of_heap hb2]; rfl
  have d1 : w2.cell? ⟨b, 1, none⟩ = some v := by rw [Lib.cell_of_heap hb2]; rfl
  have f1 : w2.frozen? ⟨b, 1, none⟩ = false := Lib.frozen_of_heap hb2 1
  obtain ⟨g, cap, rfl⟩ : ∃ g cap, v' = .slice (some ⟨g, 0, none⟩) (l.length + 1) cap := by
    rcases hown'.2 with ⟨_, h0⟩ | ⟨g, cap, cur, hv, _⟩
    · omega
    · exact ⟨g, cap, hv⟩
  go_wp2_with fail
  go_ret
  refine ⟨rfl, ?_, ?_⟩
  · have e : Lib.byteCells (l ++ [c]) = Lib.byteCells l ++ [.int .u8 c.toNat] := by simp [Lib.byteCells]
    rw [IsBld, e]
    exact Or.inr (Lib.BuilderAt.put (T := 78) (e := 5) hB hb2 (bs' := Lib.byteCells l ++ [.int .u8 c.toNat]) (by simpa [Lib.byteCells_length] using hown') (by decide))
  · exact ((hb1.alloc (by have := hb1.size; omega) _).grown hgrow (by have := hb1.size; simp; omega) (fun k hk => (hown.lt k hk).1)).setCell (p := ⟨b, 1, none⟩) hB _
set_option maxHeartbeats 2000000 in
theorem writeString_any (B b : Nat) (l s : List UInt8) (w : World) (h : IsBld B b l w) (hlen : l.length + s.length ≤ 140737488355328) (hBw : B ≤ w.heap.size) :
    Calls Tryd.prog 47 #[.pointer (some ⟨b, 0, none⟩), .string ⟨s.toArray⟩] w fun e w' => e = .returned (.tuple #[.int .i64 s.length, .nilIface]) ∧ IsBld B b (l ++ s) w' ∧ Below B w w' := by
  obtain ⟨i0, hi, hz0, hz1, hz2⟩ := info_parts (show (Tryd.prog.info? 5).map (fun i => (i.zero, i.size, i.bytes)) = some (some (.int .u8 0), 1, 1) by kernel_rfl)
  go_enter Tryd.func47, Tryd.ntmps47
  go_wp2_with fail
  refine (copyCheck_any B b _ _ h).mono ?_
  rintro e w1 ⟨rfl, h1, hb1⟩
  obtain ⟨hB, v, hbk, hown, hne⟩ := h1
  rw [Lib.byteCells_length] at hown
  have c0 : w1.cell? ⟨b, 0, none⟩ = some (.pointer (some ⟨b, 0, none⟩)) := by rw [Lib.cell_of_heap hbk]; rfl
  have c1 : w1.cell? ⟨b, 1, none⟩ = some v := by rw [Lib.cell_of_heap hbk]; rfl
  have hss : (⟨s.toArray⟩ : ByteArray).size = s.length := by simp [ByteArray.size]
  go_wp2_with (at_builtin; refine Lib.wpList_append_own_string _ rfl _ _ 59 9 rfl B 5 i0 Tryd.underlying59 Tryd.underlying9 hi hz0 hz1 hz2 _ _ _ rfl hown ⟨s.toArray⟩ rfl ?c3 ?c4 ?c5 ?_)
  case c3 => unfold maxLen; rw [hss]; omega
  case c4 => rw [hss]; omega
  case c5 => have := hb1.size; omega
  intro v' w2 hown' hgrow _
  have hlt : b < w1.heap.size := (Array.getElem?_eq_some_iff.1 hbk).1
  have hb2 : w2.heap[b]? = some (.cells #[.pointer (some ⟨b, 0, none⟩), v] 78 (0, 0)) := by
    rw [hgrow.block b hlt (fun e => hne e.symm)]
    exact hbk
  have d0 : w2.cell? ⟨b, 0, none⟩ = some (.pointer (some ⟨b, 0, none⟩)) := by rw [Lib.cell_of_heap hb2]; rfl
  have d1 : w2.cell? ⟨b, 1, none⟩ = some v := by rw [Lib.cell_of_heap hb2]; rfl
  have f1 : w2.frozen? ⟨b, 1, none⟩ = false := Lib.frozen_of_heap hb2 1
  obtain ⟨ao, n', cap, rfl⟩ : ∃ ao n' cap, v' = .slice ao n' cap := by
    rcases hown'.2 with ⟨hv, _⟩ | ⟨g, cap, cur, hv, _⟩
    · exact ⟨_, _, _, hv⟩
    · exact ⟨_, _, _, hv⟩
  clear hss
  go_wp2_with fail
  go_ret2
  have e : Lib.byteCells (l ++ s) = Lib.byteCells l ++ Lib.strCells ⟨s.toArray⟩ := by simp [Lib.byteCells, Lib.strCells]
  refine ⟨rfl, ?_, ?_⟩
  · rw [IsBld, e]
    exact Or.inr (Lib.BuilderAt.put (T := 78) (e := 5) hB hb2 (bs' := Lib.byteCells l ++ Lib.strCells ⟨s.toArray⟩) (by simpa [Lib.byteCells_length, Lib.strCells_length, ByteArray.size] using hown') (by decide))
  · exact (hb1.grown hgrow (by have := hb1.size; omega) (fun k hk => (hown.lt k hk).1)).setCell (p := ⟨b, 1, none⟩) hB _
end Go.Proofs.YtmklodgcbldndaaDoor
namespace Go.Proofs.YtmklodgcbldndaaDoor
open Go.RowKit Go.Proofs

theorem Tabs.same {D : Blocks} {w w' : World} (h : Tabs w) (hs : Same D w w') (h1 : D 0) (h2 : D 1) : Tabs w' :=
  ⟨fun c hc => hs.cell h1 (h.1 c hc), fun i hi => ⟨hs.cell h2 (h.2 i hi).1, hs.cell h2 (h.2 i hi).2⟩⟩
theorem Tabs.lt {w : World} (h : Tabs w) : 0 < w.heap.size ∧ 1 < w.heap.size := ⟨cell_lt (h.1 0 (by decide)), cell_lt (h.2 0 (by decide)).1⟩
/-- The tables, and a block that is written and is none of them. -/
structure TabsP (p : Nat) (w : World) : Prop where
  t : Tabs w
  n1 : 0 ≠ p
  n2 : 1 ≠ p
theorem TabsP.grown {p : Nat} {w w' : World} (h : TabsP p w) (hg : w.grownBy w' (some p)) : TabsP p w' := ⟨h.t.same (same_p hg) h.n1 h.n2, h.n1, h.n2⟩
theorem TabsP.new {p : Nat} {w : World} (h : Tabs w) (hp : w.heap.size ≤ p) : TabsP p w := ⟨h, by have := h.lt.1; omega, by have := h.lt.2; omega⟩
theorem valid_any (s : List UInt8) (w : World) (hs : s.length ≤ 9223372036854775807) (hT : Tabs w) :
    Calls Tryd.prog 36 #[.string ⟨s.toArray⟩] w fun e w' => e = .returned (.bool (Lib.validD s)) ∧ Below w.heap.size w w' :=
  Any.utf8_ValidString Tryd.lays196 ⟨s.toArray⟩ w (by rw [Lib.size_eq]; exact hs) hT

set_option maxHeartbeats 400000 in
theorem vcheck_any (s n : Int) (w : World) (t : List UInt8) (hs : t.length ≤ 9223372036854775807) (hT : Tabs w) :
    Calls Tryd.prog 18 #[.agg #[.int .i64 s, .int .i64 n, .string ⟨t.toArray⟩]] w fun e w' => e = .returned (.int .i64 (vchk s n t)) ∧ Below w.heap.size w w' := by
  by_cases h3 : s = 3 ∧ n = 0
  · obtain ⟨rfl, rfl⟩ := h3
    by_cases hl : 100 < t.length
    · have hl' : (100 : Int) < (t.length : Int) := by omega
      go_enter Tryd.func18, Tryd.ntmps18
      go_wp2
      go_ret
      exact ⟨by simp [vchk, hl], by go_grown⟩
    · have hl' : ¬ (100 : Int) < (t.length : Int) := by omega
      go_enter Tryd.func18, Tryd.ntmps18
      go_wp2_with (go_at_call 36; go_must (refine (valid_any t _ hs (hT.below (by go_grown))).mono ?_; rintro e w1 ⟨rfl, hb⟩))
      all_goals (go_ret; refine ⟨?_, step (by go_grown) hb (by simp)⟩)
      all_goals (first | (simp [vchk, *]; done) | (simp_all [vchk]; done))
  · have hc : ¬ (s = 3 ∧ n = 0) := h3
    go_enter Tryd.func18, Tryd.ntmps18
    go_wp2_with fail
    all_goals (go_ret; refine ⟨?_, by go_grown⟩)
    all_goals (first | (simp [vchk, *]; done) | (simp_all [vchk]; done))
end Go.Proofs.YtmklodgcbldndaaDoor
