/-
  Numbers by lists of 32-bit words, the least first: their value, without noughts at the end; division by one word; decimal digits. Plain.
  The plain law of reading values: numbers, and both readers agree.
  The tokens of an expression's text: what the program reads where an operand may stand, and what the reference reads: the same. Plain.
  The climbing ends: over tokens whose places grow, fuel enough is found. No kit.
  The tokens of an expression's text: places grow. Plain.
-/
import Derived.Test.YtpidjanngbaiiaaGreatDoorM2
import Derived.Lib.ItoaMem
import Derived.Test.YtpidjanngbaiiaaGreatDoorM3
namespace Go.Proofs.YtpidjanngbaiiaaGreatDoor
open Go.RowKit Go.Proofs

def wval : List Nat → Nat
 | [] => 0
 | d :: r => d + 4294967296 * wval r
def Ws (l : List Nat) : Prop := ∀ d ∈ l, d < 4294967296
def Trimmed (l : List Nat) : Prop := ∀ d, l.getLast? = some d → d ≠ 0
def trimW : List Nat → List Nat
 | [] => []
 | d :: r => match trimW r with
  | [] => if d = 0 then [] else [d]
  | e :: q => d :: e :: q
theorem trimW_val : ∀ l : List Nat, wval (trimW l) = wval l
 | [] => rfl
 | d :: r => by
  have ih := trimW_val r
  unfold trimW
  split
  ·rename_i h; rw [h] at ih
   simp only [wval] at ih
   split
   ·rename_i h0; simp [wval, h0, ← ih]
   ·simp [wval, ← ih]
  ·rename_i e q h; rw [h] at ih
   simp only [wval]
   rw [← ih]
   simp only [wval]
theorem trimW_trimmed : ∀ l : List Nat, Trimmed (trimW l)
 | [] => by simp [trimW, Trimmed]
 | d :: r => by
  have ih := trimW_trimmed r
  unfold trimW
  split
  ·split
   ·simp [Trimmed]
   ·rename_i h0; simpa [Trimmed] using h0
  ·rename_i e q h; rw [h] at ih
   intro x hx
   rw [List.getLast?_cons_cons] at hx
   exact ih x hx
theorem trimW_take : ∀ l : List Nat, trimW l = l.take (trimW l).length
 | [] => rfl
 | d :: r => by
  have ih := trimW_take r
  unfold trimW
  split
  ·split <;> simp
  ·rename_i e q h
   rw [h] at ih
   simp only [List.length_cons, List.take_succ_cons]
   rw [List.length_cons] at ih
   rw [← ih]
theorem trimW_snoc (l : List Nat) (d : Nat) : trimW (l ++ [d]) = if d = 0 then trimW l else l ++ [d] := by
 induction l with
 | nil => simp [trimW]
 | cons x r ih =>
  rw [List.cons_append, trimW, ih]
  by_cases h : d = 0
  ·rw [if_pos h, if_pos h, trimW]
  ·rw [if_neg h, if_neg h]
   cases r <;> simp
theorem Ws.trim {l : List Nat} (h : Ws l) : Ws (trimW l) := fun d hd => h d (by rw [trimW_take] at hd; exact List.mem_of_mem_take hd)
theorem wval_app (l r : List Nat) : wval (l ++ r) = wval l + 4294967296 ^ l.length * wval r := by
 induction l with
 | nil => simp [wval]
 | cons d l ih =>
  simp only [List.cons_append, wval, ih, List.length_cons, Nat.pow_succ]
  rw [Nat.mul_add, ← Nat.mul_assoc, Nat.add_assoc, Nat.mul_comm 4294967296 (4294967296 ^ l.length)]
theorem wval_lt {l : List Nat} (h : Ws l) : wval l < 4294967296 ^ l.length := by
 induction l with
 | nil => simp [wval]
 | cons d l ih =>
  have h1 := h d (by simp)
  have h2 := ih fun x hx => h x (by simp [hx])
  simp only [wval, List.length_cons, Nat.pow_succ]
  have : wval l + 1 ≤ 4294967296 ^ l.length := h2
  have h3 := Nat.mul_le_mul_left 4294967296 this
  rw [Nat.mul_comm (4294967296 ^ l.length)]
  omega
theorem wval_zero {l : List Nat} (h : Trimmed l) : wval l = 0 ↔ l = [] := by
 constructor
 ·intro h0
  rcases List.eq_nil_or_concat l with rfl | ⟨q, d, rfl⟩
  ·rfl
  ·rw [List.concat_eq_append] at h h0
   have hd := h d (by simp)
   rw [wval_app] at h0
   simp only [wval, Nat.mul_zero, Nat.add_zero] at h0
   have : 0 < 4294967296 ^ q.length * d := Nat.mul_pos (Nat.pow_pos (by decide)) (Nat.pos_of_ne_zero hd)
   omega
 ·rintro rfl; rfl
theorem wval_inj : ∀ {l r : List Nat}, Ws l → Ws r → Trimmed l → Trimmed r → wval l = wval r → l = r
 | [], r, _, _, _, h4, h => ((wval_zero h4).1 h.symm).symm
 | d :: l, [], _, _, h3, _, h => (wval_zero h3).1 h
 | d :: l, e :: r, h1, h2, h3, h4, h => by
  simp only [wval] at h
  have hd := h1 d (by simp)
  have he := h2 e (by simp)
  have : d = e := by omega
  subst this
  have h' : wval l = wval r := by omega
  have t1 : Trimmed l := fun x hx => h3 x (by
   cases l with
   | nil => simp at hx
   | cons a b => rw [List.getLast?_cons_cons]; exact hx)
  have t2 : Trimmed r := fun x hx => h4 x (by
   cases r with
   | nil => simp at hx
   | cons a b => rw [List.getLast?_cons_cons]; exact hx)
  rw [wval_inj (fun x hx => h1 x (by simp [hx])) (fun x hx => h2 x (by simp [hx])) t1 t2 h']
def wordsOf (n : Nat) : List Nat := if h : n = 0 then [] else (n % 4294967296) :: wordsOf (n / 4294967296)
termination_by n
decreasing_by omega
theorem wordsOf_val (n : Nat) : wval (wordsOf n) = n := by
 induction n using Nat.strongRecOn with
 | _ n ih =>
  rw [wordsOf]
  split
  ·rename_i h; simp [wval, h]
  ·rename_i h
   simp only [wval]
   rw [ih (n / 4294967296) (by omega)]
   omega
theorem wordsOf_ws (n : Nat) : Ws (wordsOf n) := by
 induction n using Nat.strongRecOn with
 | _ n ih =>
  rw [wordsOf]
  split
  ·intro d hd; simp at hd
  ·rename_i h
   intro d hd
   rcases List.mem_cons.1 hd with rfl | hd
   ·omega
   ·exact ih (n / 4294967296) (by omega) d hd
theorem wordsOf_nil {n : Nat} : wordsOf n = [] ↔ n = 0 := by
 rw [wordsOf]
 split <;> simp_all
theorem wordsOf_trimmed (n : Nat) : Trimmed (wordsOf n) := by
 induction n using Nat.strongRecOn with
 | _ n ih =>
  rw [wordsOf]
  split
  ·simp [Trimmed]
  ·rename_i h
   intro d hd
   cases hw : wordsOf (n / 4294967296) with
   | nil =>
    rw [hw] at hd
    simp at hd
    have := wordsOf_nil.1 hw
    omega
   | cons a b =>
    rw [hw, List.getLast?_cons_cons, ← hw] at hd
    exact ih (n / 4294967296) (by omega) d hd
theorem words_is {l : List Nat} (h1 : Ws l) (h2 : Trimmed l) : l = wordsOf (wval l) :=
 wval_inj h1 (wordsOf_ws _) h2 (wordsOf_trimmed _) (wordsOf_val _).symm
theorem trim_words {l : List Nat} (h1 : Ws l) : trimW l = wordsOf (wval l) := by
 rw [← trimW_val]
 exact words_is h1.trim (trimW_trimmed l)
theorem wordsOf_len {n k : Nat} (h : n < 4294967296 ^ k) : (wordsOf n).length ≤ k := by
 induction k generalizing n with
 | zero =>
  have : n = 0 := by simpa using h
  subst this
  simp [wordsOf]
 | succ k ih =>
  rw [wordsOf]
  split
  ·simp
  ·simp only [List.length_cons]
   have : n / 4294967296 < 4294967296 ^ k := by
    rw [Nat.pow_succ] at h
    exact Nat.div_lt_of_lt_mul (by rw [Nat.mul_comm]; exact h)
   have := ih this
   omega
def digs (n : Nat) : List UInt8 := if h : n = 0 then [] else UInt8.ofNat (48 + n % 10) :: digs (n / 10)
termination_by n
decreasing_by omega
theorem digs_dec (n : Nat) (h : n ≠ 0) : (digs n).reverse = Lib.decDigits n := by
 induction n using Nat.strongRecOn with
 | _ n ih =>
  rw [digs, dif_neg h, Lib.decDigits]
  by_cases h10 : n < 10
  ·rw [dif_pos h10, digs, dif_pos (by omega)]
   simp [Nat.mod_eq_of_lt h10]
  ·rw [dif_neg h10, List.reverse_cons, ih (n / 10) (by omega) (by omega)]
theorem itoa_text (n : Int) (h : n ≠ 0) : (if n < 0 then (digs n.natAbs ++ [45]).reverse else (digs n.natAbs).reverse) = Lib.itoa n := by
 unfold Lib.itoa
 split
 ·rw [List.reverse_append, digs_dec _ (by omega)]; rfl
 ·rw [digs_dec _ (by omega)]
  congr 1
  omega
theorem itoa_zero : Lib.itoa 0 = [48] := by decide +kernel
theorem digs_len {n k : Nat} (h : n < 10 ^ k) : (digs n).length ≤ k := by
 induction k generalizing n with
 | zero =>
  have : n = 0 := by simpa using h
  subst this
  simp [digs]
 | succ k ih =>
  rw [digs]
  split
  ·simp
  ·simp only [List.length_cons]
   have : n / 10 < 10 ^ k := by
    rw [Nat.pow_succ] at h
    exact Nat.div_lt_of_lt_mul (by rw [Nat.mul_comm]; exact h)
   have := ih this
   omega
set_option maxRecDepth 100000
theorem digit_of (d : Nat) (h : d < 10) : Lib.digitVal (UInt8.ofNat (48 + d)) = some d := by
 have m8 : (UInt8.ofNat (48 + d)).toNat = 48 + d := by simp; omega
 unfold Lib.digitVal
 rw [m8, if_pos (by omega)]
 congr 1
 omega
theorem decFrom_snoc : ∀ (l : Str) (acc n : Nat) (b : UInt8) (d : Nat), Lib.decFrom acc l = some n → Lib.digitVal b = some d → Lib.decFrom acc (l ++ [b]) = some (n * 10 + d) := by
 intro l
 induction l with
 | nil =>
  intro acc n b d h hd
  simp [Lib.decFrom] at h
  subst h
  simp [Lib.decFrom, hd]
 | cons c r ih =>
  intro acc n b d h hd
  rw [Lib.decFrom] at h
  rw [List.cons_append, Lib.decFrom]
  split at h
  ·rename_i e he
   exact ih _ _ _ _ h hd
  ·cases h
theorem decDigits_step (u : Nat) (h : ¬ u < 10) : Lib.decDigits u = Lib.decDigits (u / 10) ++ [UInt8.ofNat (48 + u % 10)] := by
 rw [Lib.decDigits, dif_neg h]
theorem dec_digits (u : Nat) : Lib.decFrom 0 (Lib.decDigits u) = some u := by
 induction u using Nat.strongRecOn with
 | _ u ih =>
  by_cases h : u < 10
  ·rw [Lib.decDigits_one h, Lib.decFrom, digit_of u h]
   show some (0 * 10 + u) = some u
   congr 1
   omega
  ·rw [decDigits_step u h, decFrom_snoc _ _ _ _ _ (ih (u / 10) (by omega)) (digit_of _ (by omega))]
   congr 1
   omega
theorem decDigits_ne (u : Nat) : Lib.decDigits u ≠ [] := by
 by_cases h : u < 10
 ·rw [Lib.decDigits_one h]; simp
 ·rw [decDigits_step u h]; simp
theorem decDigits_dig (u : Nat) : ∀ b ∈ Lib.decDigits u, 48 ≤ b.toNat ∧ b.toNat ≤ 57 := by
 induction u using Nat.strongRecOn with
 | _ u ih =>
  have m8 : ∀ d : Nat, d < 10 → (UInt8.ofNat (48 + d)).toNat = 48 + d := fun d hd => by simp; omega
  intro b hb
  by_cases h : u < 10
  ·rw [Lib.decDigits_one h] at hb
   obtain rfl := List.mem_singleton.1 hb
   rw [m8 u h]
   omega
  ·rw [decDigits_step u h] at hb
   rcases List.mem_append.1 hb with hb | hb
   ·exact ih (u / 10) (by omega) b hb
   ·obtain rfl := List.mem_singleton.1 hb
    rw [m8 _ (by omega)]
    omega
theorem u10_snoc : ∀ (l : Str) (acc n d : Nat), Lib.parseUint10 acc l = .ok n → d < 10 → n * 10 + d < 18446744073709551616 → Lib.parseUint10 acc (l ++ [UInt8.ofNat (48 + d)]) = .ok (n * 10 + d) := by
 intro l
 induction l with
 | nil =>
  intro acc n d h hd hn
  have m8 : (UInt8.ofNat (48 + d)).toNat = 48 + d := by simp; omega
  simp only [Lib.parseUint10] at h
  injection h with h
  subst h
  rw [List.nil_append, Lib.parseUint10, m8, if_pos (by omega), if_neg (by omega), if_neg (by omega), Lib.parseUint10]
  congr 1
  omega
 | cons c r ih =>
  intro acc n d h hd hn
  rw [Lib.parseUint10] at h
  rw [List.cons_append, Lib.parseUint10]
  split at h
  ·rename_i hc
   rw [if_pos hc]
   split at h
   ·cases h
   ·rename_i h1
    rw [if_neg h1]
    split at h
    ·cases h
    ·rename_i h2
     rw [if_neg h2]
     exact ih _ _ _ h hd hn
  ·cases h
theorem u10_digits (u : Nat) : u < 18446744073709551616 → Lib.parseUint10 0 (Lib.decDigits u) = .ok u := by
 induction u using Nat.strongRecOn with
 | _ u ih =>
  intro hu
  by_cases h : u < 10
  ·have := u10_snoc [] 0 0 u rfl h (by omega)
   rw [Lib.decDigits_one h]
   simpa using this
  ·rw [decDigits_step u h, u10_snoc _ _ _ _ (ih (u / 10) (by omega) (by omega)) (by omega) (by omega)]
   congr 1
   omega
theorem decDigits_first (u : Nat) : ∃ c r, Lib.decDigits u = c :: r ∧ 48 ≤ c.toNat ∧ c.toNat ≤ 57 := by
 match h : Lib.decDigits u with
 | [] => exact absurd h (decDigits_ne u)
 | c :: r =>
  have := decDigits_dig u c (by rw [h]; simp)
  exact ⟨c, r, rfl, this.1, this.2⟩
theorem parse_itoa (n : Int) (h1 : -9223372036854775808 ≤ n) (h2 : n ≤ 9223372036854775807) : Lib.parseIntB 64 (Lib.itoa n) = .ok n := by
 rw [Lib.parseIntB_64]
 unfold Lib.itoa
 split
 ·rename_i hn
  rw [Lib.atoiAll_minus, Lib.parseMag, if_neg (decDigits_ne _), u10_digits _ (by omega)]
  simp only [Lib.signed]
  rw [if_neg (by omega)]
  congr 1
  omega
 ·rename_i hn
  obtain ⟨c, r, hc, hc1, hc2⟩ := decDigits_first n.toNat
  rw [hc, Lib.atoiAll_plain c r (by omega) (by omega), ← hc, Lib.parseMag, if_neg (decDigits_ne _), u10_digits _ (by omega)]
  simp only [Lib.signless]
  rw [if_neg (by omega)]
  congr 1
  omega
theorem atoi_itoa (n : Int) : Lib.atoi (Lib.itoa n) = some n := by
 have hd : ∀ u, Lib.decNat (Lib.decDigits u) = some u := fun u => by
  unfold Lib.decNat
  rw [if_neg (by simpa using decDigits_ne u), dec_digits]
 unfold Lib.itoa
 split
 ·rename_i hn
  rw [Lib.atoi, if_pos (by decide), hd]
  show some (-((n.natAbs : Nat) : Int)) = _
  congr 1
  omega
 ·rename_i hn
  obtain ⟨c, r, hc, hc1, hc2⟩ := decDigits_first n.toNat
  have h45 : (c == 45) = false := by
   rw [beq_eq_false_iff_ne]
   rintro rfl
   simp at hc1
  have h43 : (c == 43) = false := by
   rw [beq_eq_false_iff_ne]
   rintro rfl
   simp at hc1
  rw [hc, Lib.atoi, h45, h43, ← hc, hd]
  show some ((n.toNat : Nat) : Int) = _
  congr 1
  omega
theorem itoa_len20 (n : Int) (h1 : -9223372036854775808 ≤ n) (h2 : n ≤ 9223372036854775807) : (Lib.itoa n).length ≤ 20 := by
 have hl : ∀ u : Nat, u < 10 ^ 19 → (Lib.decDigits u).length ≤ 19 := by
  intro u hu
  by_cases h0 : u = 0
  ·subst h0
   rw [Lib.decDigits_one (by decide)]
   decide
  ·rw [← digs_dec u h0, List.length_reverse]
   exact digs_len hu
 unfold Lib.itoa
 split
 ·have := hl n.natAbs (by omega)
  rw [List.length_cons]
  omega
 ·have := hl n.toNat (by omega)
  omega
def IsNum (s : Str) (n : Int) : Prop := Lib.itoa n = s ∧ -9223372036854775808 ≤ n ∧ n ≤ 9223372036854775807
instance (s : Str) (n : Int) : Decidable (IsNum s n) := by unfold IsNum; infer_instance
def numR (s : Str) : Option Int := if 20 < s.length then none else (Lib.atoi s).bind fun n => if IsNum s n then some n else none
theorem numR_iff (s : Str) (n : Int) : numR s = some n ↔ IsNum s n := by
 constructor
 ·intro h
  unfold numR at h
  split at h
  ·cases h
  ·obtain ⟨m, h1, h2⟩ := Option.bind_eq_some_iff.1 h
   split at h2
   ·injection h2 with h2
    subst h2
    assumption
   ·cases h2
 ·rintro ⟨h, h1, h2⟩
  have hl := itoa_len20 n h1 h2
  unfold numR
  subst h
  rw [if_neg (by omega), atoi_itoa, Option.bind_some, if_pos ⟨rfl, h1, h2⟩]
def numP (s : Str) : Option Int := match Lib.parseIntB 64 s with
 | .ok n => if Lib.itoa n = s then some n else none
 | _ => none
theorem numP_iff (s : Str) (n : Int) : numP s = some n ↔ IsNum s n := by
 constructor
 ·intro h
  unfold numP at h
  split at h
  ·rename_i m hm
   split at h
   ·injection h with h
    subst h
    have hb := Lib.parseIntB_bounds hm
    exact ⟨by assumption, by have := hb.1; omega, by have := hb.2; omega⟩
   ·cases h
  ·cases h
 ·rintro ⟨h, h1, h2⟩
  subst h
  unfold numP
  rw [parse_itoa n h1 h2]
  simp
theorem num_agree (s : Str) : numP s = numR s := by
 apply Option.ext
 intro n
 rw [numP_iff, numR_iff]
abbrev trueS : Str := [116, 114, 117, 101]
abbrev falseS : Str := [102, 97, 108, 115, 101]
def quotedR (s : Str) : Option (Nat × Str) := if s.head? = some 34 then (qt (s.length - 1) (s.drop 1) []).map fun x => (x.1 + 1, x.2) else none
abbrev VR := Int × Int × Str × Int
def rdQ (o : Option Str) (n : Option Int) : VR := match o with
 | some t => if 100 < t.length then (0, 0, [], 2) else (3, 0, t, 0)
 | none => match n with
  | some n => (1, n, [], 0)
  | none => (0, 0, [], 3)
def allQ (s : Str) : Option Str := (quotedR s).bind fun x => if x.1 = s.length then some x.2 else none
def rdR (s : Str) : VR :=
 if s = trueS then (2, 1, [], 0) else if s = falseS then (2, 0, [], 0) else rdQ (allQ s) (numR s)
def qVal (o : Option Str) : VR := match o with
 | some t => if 100 < t.length then (0, 0, [], 2) else (3, 0, t, 0)
 | none => (0, 0, [], 3)
def nVal (o : Option Int) : VR := match o with
 | some n => (1, n, [], 0)
 | none => (0, 0, [], 3)
def rdP (s : Str) : VR :=
 if s = trueS then (2, 1, [], 0) else if s = falseS then (2, 0, [], 0) else
 if s.head? = some 34 then qVal (pq (s.length - 1) (s.drop 1) []) else nVal (numP s)
set_option maxRecDepth 100000
def figb (b : UInt8) : Bool := decide (48 ≤ b.toNat) && decide (b.toNat ≤ 57)
def signs : List Str := [[43, 43], [60, 61], [61, 61], [43], [45], [42], [47], [37], [60], [35], [40], [41]]
def sgn (l : Str) (q : Nat) : Str := (signs.find? fun s => s.isPrefixOf (l.drop q)).getD []
def eword (l : Str) (p : Nat) : Str := if wd l (sk l p) = [] then sgn l (sk l p) else wd l (sk l p)
def notS : Str := [110, 111, 116]
def negS : Str := [110, 101, 103]
def figs (l : Str) (k : Nat) : Str := (l.drop k).takeWhile figb
def ebin (l : Str) (p : Nat) : Option (Str × Nat × Nat) := if level (eword l p) = 0 then none else some (eword l p, (level (eword l p)).toNat, sk l p + (eword l p).length)
def eclose (l : Str) (p : Nat) : Option Nat := if eword l p = [41] then some (sk l p + 1) else none
def scanQ : Str → Nat
 | [] => 0
 | 34 :: _ => 1
 | [92] => 1
 | 92 :: _ :: r => 2 + scanQ r
 | _ :: r => 1 + scanQ r
def litLen (s : Str) : Nat :=
 if s.head? = some 34 then 1 + scanQ (s.drop 1)
 else if trueS.isPrefixOf s then 4
 else if falseS.isPrefixOf s then 5
 else if s.head? = some 45 then 1 + ((s.drop 1).takeWhile figb).length
 else (s.takeWhile figb).length
def ofVR (v : VR) (q e : Nat) : Yd.Opd Ex := if v.2.2.2 = 0 then .leaf (.mk 1 [] v.1 v.2.1 v.2.2.1 []) e else .bad v.2.2.2 q
def litP (l : Str) (q : Nat) : Yd.Opd Ex := ofVR (rdP ((l.drop q).take (litLen (l.drop q)))) q (q + litLen (l.drop q))
def opdP (l : Str) (p : Nat) : Yd.Opd Ex :=
 if eword l p = notS then .pre notS (sk l p + 3)
 else if eword l p = [35] then .pre [35] (sk l p + 1)
 else if eword l p = [45] then (if (l[sk l p + 1]?.map figb) = some true then litP l (sk l p) else .pre negS (sk l p + 1))
 else if eword l p = [40] then .par (sk l p + 1)
 else if isName (eword l p) = true then .leaf (.mk 2 (eword l p) 0 0 [] []) (sk l p + (eword l p).length)
 else if eword l p ≠ [] ∧ eword l p ≠ trueS ∧ eword l p ≠ falseS then .bad 3 (sk l p)
 else litP l (sk l p)
def opdR (l : Str) (p : Nat) : Yd.Opd Ex :=
  if wd l (sk l p) ≠ [] then
    (if wd l (sk l p) = trueS then .leaf (.mk 1 [] 2 1 [] []) (sk l p + 4)
     else if wd l (sk l p) = falseS then .leaf (.mk 1 [] 2 0 [] []) (sk l p + 5)
     else if wd l (sk l p) = notS then .pre notS (sk l p + 3)
     else if isName (wd l (sk l p)) = true then .leaf (.mk 2 (wd l (sk l p)) 0 0 [] []) (sk l p + (wd l (sk l p)).length)
     else .bad 3 (sk l p))
  else if l[sk l p]? = some 34 then
    (match quotedR (l.drop (sk l p)) with
     | none => .bad 3 (sk l p)
     | some (n, t) => if 100 < t.length then .bad 2 (sk l p) else .leaf (.mk 1 [] 3 0 t []) (sk l p + n))
  else if figs l (if l[sk l p]? = some 45 then sk l p + 1 else sk l p) ≠ [] then
    (match numR ((l.drop (sk l p)).take (litLen (l.drop (sk l p)))) with
     | none => .bad 3 (sk l p)
     | some n => .leaf (.mk 1 [] 1 n [] []) (sk l p + litLen (l.drop (sk l p))))
  else if sgn l (sk l p) = [35] then .pre [35] (sk l p + 1)
  else if sgn l (sk l p) = [45] then .pre negS (sk l p + 1)
  else if sgn l (sk l p) = [40] then .par (sk l p + 1)
  else .bad 3 (sk l p)

theorem scanQ_esc : ∀ (t x : Str), scanQ (esc t ++ 34 :: x) = (esc t).length + 1
 | [], x => by simp [esc, scanQ]
 | b :: r, x => by
  have ih := scanQ_esc r x
  rw [esc_cons, List.append_assoc]
  by_cases h1 : b = 10
  ·subst h1
   have : esc [10] = [92, 110] := by decide
   rw [this]
   simp only [List.cons_append, List.nil_append, List.length_cons, scanQ]
   omega
  ·by_cases h2 : b = 34
   ·subst h2
    have : esc [34] = [92, 34] := by decide
    rw [this]
    simp only [List.cons_append, List.nil_append, List.length_cons, scanQ]
    omega
   ·by_cases h3 : b = 92
    ·subst h3
     have : esc [92] = [92, 92] := by decide
     rw [this]
     simp only [List.cons_append, List.nil_append, List.length_cons, scanQ]
     omega
    ·rw [esc_single h1 h2 h3]
     simp only [List.cons_append, List.nil_append, List.length_cons]
     have : scanQ (b :: (esc r ++ 34 :: x)) = 1 + scanQ (esc r ++ 34 :: x) := by
      rw [scanQ]
      ·intro h; exact h2 h
      ·intro h _; exact h3 h
      ·intro _ _ h _; exact h3 h
     rw [this]
     omega
theorem quoted_lit (s : Str) (h : s.head? = some 34) : rdP (s.take (litLen s)) = qVal ((quotedR s).map (·.2)) ∧ ∀ x, quotedR s = some x → litLen s = x.1 := by
 obtain ⟨r, rfl⟩ : ∃ r, s = 34 :: r := by
  cases s with
  | nil => simp at h
  | cons b r => simp at h; exact ⟨r, by rw [h]⟩
 have hlen : litLen (34 :: r) = 1 + scanQ r := by unfold litLen; rw [if_pos (show (34 :: r).head? = some 34 from rfl)]; rfl
 have hq : quotedR (34 :: r) = (qt r.length r []).map fun x => (x.1 + 1, x.2) := by unfold quotedR; rw [if_pos (show (34 :: r).head? = some 34 from rfl)]; rfl
 have hp : ∀ n, rdP ((34 :: r).take (1 + n)) = qVal (pq ((r.take n).length) (r.take n) []) := by
  intro n
  rw [Nat.add_comm, List.take_succ_cons]
  unfold rdP
  rw [if_neg (by intro e; cases e), if_neg (by intro e; cases e), if_pos (show (34 :: List.take n r).head? = some 34 from rfl)]
  simp
 rw [hlen, hp, hq]
 cases hqt : qt r.length r [] with
 | some x =>
  obtain ⟨n, t⟩ := x
  obtain ⟨u, hu, hn, ht, hv⟩ := qt_some _ _ _ _ _ hqt
  simp only [List.nil_append] at hu
  subst hu
  have hr : r = esc t ++ 34 :: r.drop n := by
   conv => lhs; rw [← List.take_append_drop n r, ht]
   simp
  have hs : scanQ r = n := by
   rw [hr, scanQ_esc]
   have := congrArg List.length ht
   simp only [List.length_take, List.length_append, List.length_cons, List.length_nil] at this
   omega
  refine ⟨?_, fun x hx => ?_⟩
  ·rw [hs, (pq_iff (r.take n) t).2 ⟨ht, hv⟩]
   rfl
  ·simp only [Option.map_some, Option.some.injEq] at hx
   rw [← hx, hs]
   simp only
   omega
 | none =>
  refine ⟨?_, fun x hx => by simp at hx⟩
  cases hpq : pq ((r.take (scanQ r)).length) (r.take (scanQ r)) [] with
  | none => rfl
  | some t =>
   exfalso
   obtain ⟨h1, h2⟩ := (pq_iff _ _).1 hpq
   have hr : r = esc t ++ 34 :: r.drop (scanQ r) := by
    conv => lhs; rw [← List.take_append_drop (scanQ r) r, h1]
    simp
   have := qt_of t r.length [] (r.drop (scanQ r)) (by
    have := congrArg List.length hr
    simp only [List.length_append, List.length_cons] at this
    omega) (by simpa using h2)
   rw [← hr, hqt] at this
   cases this
theorem sgn_nil {l : Str} {q : Nat} (h : l.drop q = []) : sgn l q = [] := by unfold sgn; rw [h]; rfl
theorem sgn_cons {l : Str} {q : Nat} {b : UInt8} {r : Str} (h : l.drop q = b :: r) : sgn l q = if b = 43 then (if r.head? = some 43 then [43, 43] else [43]) else if b = 60 then (if r.head? = some 61 then [60, 61] else [60]) else if b = 61 then (if r.head? = some 61 then [61, 61] else []) else if b = 45 ∨ b = 42 ∨ b = 47 ∨ b = 37 ∨ b = 35 ∨ b = 40 ∨ b = 41 then [b] else [] := by
 unfold sgn
 rw [h]
 by_cases h1 : b = 43
 ·subst h1
  cases r with
  | nil => rfl
  | cons c r =>
   by_cases hc : c = 43
   ·subst hc; simp [signs, List.find?, List.isPrefixOf]
   ·have e : ((43 : UInt8) == c) = false := by rw [beq_eq_false_iff_ne]; exact fun e => hc e.symm
    simp [signs, List.find?, List.isPrefixOf, hc, e]
 ·by_cases h2 : b = 60
  ·subst h2
   cases r with
   | nil => rfl
   | cons c r =>
    by_cases hc : c = 61
    ·subst hc; simp [signs, List.find?, List.isPrefixOf]
    ·have e : ((61 : UInt8) == c) = false := by rw [beq_eq_false_iff_ne]; exact fun e => hc e.symm
     simp [signs, List.find?, List.isPrefixOf, hc, e]
  ·by_cases h3 : b = 61
   ·subst h3
    cases r with
    | nil => rfl
    | cons c r =>
     by_cases hc : c = 61
     ·subst hc; simp [signs, List.find?, List.isPrefixOf]
     ·have e : ((61 : UInt8) == c) = false := by rw [beq_eq_false_iff_ne]; exact fun e => hc e.symm
      simp [signs, List.find?, List.isPrefixOf, hc, e]
   ·rw [if_neg h1, if_neg h2, if_neg h3]
    by_cases h4 : b = 45 ∨ b = 42 ∨ b = 47 ∨ b = 37 ∨ b = 35 ∨ b = 40 ∨ b = 41
    ·rw [if_pos h4]
     rcases h4 with rfl | rfl | rfl | rfl | rfl | rfl | rfl <;> simp [signs, List.find?, List.isPrefixOf]
    ·rw [if_neg h4]
     simp only [not_or] at h4
     obtain ⟨k1, k2, k3, k4, k5, k6, k7⟩ := h4
     have nb : ∀ {c : UInt8}, ¬ b = c → (c == b) = false := fun h => by rw [beq_eq_false_iff_ne]; exact fun e => h e.symm
     simp [signs, List.find?, List.isPrefixOf, nb h1, nb h2, nb h3, nb k1, nb k2, nb k3, nb k4, nb k5, nb k6, nb k7]
theorem num_empty : numP [] = none := by
 cases h : numP [] with
 | none => rfl
 | some n =>
  obtain ⟨h1, -, -⟩ := (numP_iff _ _).1 h
  exfalso
  unfold Lib.itoa at h1
  split at h1
  ·cases h1
  ·exact decDigits_ne _ h1
theorem lit_num {l : Str} {q : Nat} (h1 : (l.drop q).take (litLen (l.drop q)) ≠ trueS) (h2 : (l.drop q).take (litLen (l.drop q)) ≠ falseS) (h3 : ((l.drop q).take (litLen (l.drop q))).head? ≠ some 34) :
  litP l q = match numR ((l.drop q).take (litLen (l.drop q))) with
   | none => .bad 3 q
   | some n => .leaf (.mk 1 [] 1 n [] []) (q + litLen (l.drop q)) := by
 unfold litP rdP
 rw [if_neg h1, if_neg h2, if_neg h3, num_agree]
 cases numR ((l.drop q).take (litLen (l.drop q))) <;> rfl
theorem tw_all {p : UInt8 → Bool} : ∀ (l : Str), ∀ b ∈ l.takeWhile p, p b = true
 | [], b, hb => by simp at hb
 | c :: r, b, hb => by
  rw [List.takeWhile_cons] at hb
  cases hc : p c with
  | false => rw [hc] at hb; simp at hb
  | true =>
   rw [hc] at hb
   rcases List.mem_cons.1 hb with rfl | hb
   ·exact hc
   ·exact tw_all r b hb
theorem wd_low {l : Str} {q : Nat} : ∀ b ∈ wd l q, lowb b = true := tw_all _
theorem wd_split (l : Str) (q : Nat) : l.drop q = wd l q ++ (l.drop q).dropWhile lowb := (List.takeWhile_append_dropWhile ..).symm
theorem litP_true {l : Str} {q : Nat} (h : wd l q = trueS) : litP l q = .leaf (.mk 1 [] 2 1 [] []) (q + 4) := by
 have h1 := wd_split l q
 rw [h] at h1
 unfold litP
 rw [h1]
 generalize (l.drop q).dropWhile lowb = x
 rfl
theorem litP_false {l : Str} {q : Nat} (h : wd l q = falseS) : litP l q = .leaf (.mk 1 [] 2 0 [] []) (q + 5) := by
 have h1 := wd_split l q
 rw [h] at h1
 unfold litP
 rw [h1]
 generalize (l.drop q).dropWhile lowb = x
 rfl
theorem wd_none {l : Str} {q : Nat} (h : wd l q = []) : l.drop q = [] ∨ ∃ b r, l.drop q = b :: r ∧ lowb b = false := by
 cases hd : l.drop q with
 | nil => exact Or.inl rfl
 | cons b r =>
  refine Or.inr ⟨b, r, rfl, ?_⟩
  unfold wd at h
  rw [hd] at h
  cases hb : lowb b with
  | false => rfl
  | true => rw [List.takeWhile_cons, hb] at h; simp at h
theorem at_drop {l : Str} {q : Nat} {b : UInt8} {r : Str} (h : l.drop q = b :: r) : l[q]? = some b ∧ l.drop (q + 1) = r ∧ l[q + 1]? = r.head? := by
 have h0 : l[q]? = some b := by
  have := congrArg (fun x : Str => x[0]?) h
  simpa using this
 have h1 : l.drop (q + 1) = r := by
  have := congrArg (List.drop 1) h
  simpa [List.drop_drop, Nat.add_comm] using this
 refine ⟨h0, h1, ?_⟩
 rw [← h1, List.head?_drop]
theorem opd_same (l : Str) (p : Nat) : opdP l p = opdR l p := by
 unfold opdP opdR eword
 generalize sk l p = q
 by_cases hw : wd l q = []
 ·rw [if_pos hw]
  rw [if_neg (show ¬ wd l q ≠ [] from fun h => h hw)]
  rcases wd_none hw with hd | ⟨b, r, hd, hb⟩
  ·have hs := sgn_nil hd
   have hq : l[q]? = none := by
    have := congrArg List.length hd
    simp only [List.length_drop, List.length_nil] at this
    exact List.getElem?_eq_none (by omega)
   have hf : figs l (if l[q]? = some 45 then q + 1 else q) = [] := by
    rw [hq, if_neg (by simp)]; unfold figs; rw [hd]; rfl
   rw [hs, if_neg (by decide), if_neg (by decide), if_neg (by decide), if_neg (by decide), if_neg (by decide), if_neg (fun h => h.1 rfl), if_neg (by rw [hq]; simp), if_neg (fun h => h hf), if_neg (by decide), if_neg (by decide), if_neg (by decide)]
   have ht : (l.drop q).take (litLen (l.drop q)) = [] := by rw [hd]; rfl
   rw [lit_num (by rw [ht]; decide) (by rw [ht]; decide) (by rw [ht]; decide), ht, ← num_agree, num_empty]
  ·obtain ⟨h0, h1, h2⟩ := at_drop hd
   have hs := sgn_cons hd
   by_cases h34 : b = 34
   ·subst h34
    have hsn : sgn l q = [] := by rw [hs]; rfl
    rw [hsn, if_neg (by decide), if_neg (by decide), if_neg (by decide), if_neg (by decide), if_neg (by decide), if_neg (fun h => h.1 rfl), if_pos h0]
    have hh : (l.drop q).head? = some 34 := by rw [hd]; rfl
    obtain ⟨k1, k2⟩ := quoted_lit (l.drop q) hh
    unfold litP
    rw [k1]
    cases hqr : quotedR (l.drop q) with
    | none => rfl
    | some x =>
     obtain ⟨n, t⟩ := x
     have hn := k2 _ hqr
     simp only at hn
     rw [hn]
     show ofVR (qVal (some t)) q (q + n) = _
     unfold qVal
     by_cases h100 : 100 < t.length
     ·simp only [if_pos h100]; rfl
     ·simp only [if_neg h100]; rfl
   ·have hne34 : ¬ l[q]? = some 34 := by rw [h0]; simpa using h34
    rw [if_neg hne34]
    by_cases h45 : b = 45
    ·subst h45
     have hsn : sgn l q = [45] := by rw [hs]; rfl
     rw [hsn, if_neg (by decide), if_neg (by decide), if_pos rfl, if_pos h0]
     by_cases hf : l[q + 1]?.map figb = some true
     ·rw [if_pos hf]
      obtain ⟨c, r', rfl, hc⟩ : ∃ c r', r = c :: r' ∧ figb c = true := by
       rw [h2] at hf
       cases r with
       | nil => simp at hf
       | cons c r' => exact ⟨c, r', rfl, by simpa using hf⟩
      have hfig : figs l (q + 1) ≠ [] := by unfold figs; rw [h1, List.takeWhile_cons, hc]; simp
      have hll : litLen (l.drop q) = 1 + ((c :: r').takeWhile figb).length := by rw [hd]; rfl
      have htk : ((l.drop q).take (litLen (l.drop q))).head? = some 45 := by rw [hll, hd, Nat.add_comm, List.take_succ_cons]; rfl
      rw [if_pos hfig, lit_num (fun e => by rw [e] at htk; revert htk; decide) (fun e => by rw [e] at htk; revert htk; decide) (by rw [htk]; decide)]
     ·rw [if_neg hf]
      have hfig : figs l (q + 1) = [] := by
       unfold figs
       rw [h1]
       rw [h2] at hf
       cases r with
       | nil => rfl
       | cons c r' =>
        cases hc : figb c with
        | true => exact absurd (by simp [hc]) hf
        | false => rw [List.takeWhile_cons, hc]; rfl
      rw [if_neg (show ¬ figs l (q + 1) ≠ [] from fun h => h hfig), if_neg (by decide), if_pos rfl]
    ·have hn45 : ¬ l[q]? = some 45 := by rw [h0]; simpa using h45
     rw [if_neg hn45]
     cases hfb : figb b with
     | true =>
      have hfig : figs l q ≠ [] := by unfold figs; rw [hd, List.takeWhile_cons, hfb]; simp
      have hb48 : 48 ≤ b.toNat ∧ b.toNat ≤ 57 := by unfold figb at hfb; rw [Bool.and_eq_true, decide_eq_true_eq, decide_eq_true_eq] at hfb; exact hfb
      have ne : ∀ c : UInt8, (c.toNat < 48 ∨ 57 < c.toNat) → b ≠ c := fun c hc e => by subst e; omega
      have hsn : sgn l q = [] := by
       rw [hs, if_neg (ne 43 (by decide)), if_neg (ne 60 (by decide)), if_neg (ne 61 (by decide)), if_neg]
       rintro (h | h | h | h | h | h | h)
       ·exact ne 45 (by decide) h
       ·exact ne 42 (by decide) h
       ·exact ne 47 (by decide) h
       ·exact ne 37 (by decide) h
       ·exact ne 35 (by decide) h
       ·exact ne 40 (by decide) h
       ·exact ne 41 (by decide) h
      rw [hsn, if_neg (by decide), if_neg (by decide), if_neg (by decide), if_neg (by decide), if_neg (by decide), if_neg (fun h => h.1 rfl), if_pos hfig]
      have htk : ∀ x, ((l.drop q).take (litLen (l.drop q))).head? = some x → x = b := by
       intro x hx
       rw [hd] at hx
       generalize litLen (b :: r) = n at hx
       cases n with
       | zero => simp at hx
       | succ n => simpa using hx.symm
      rw [lit_num (fun e => absurd (htk 116 (by rw [e]; rfl)) (fun e => ne 116 (by decide) e.symm)) (fun e => absurd (htk 102 (by rw [e]; rfl)) (fun e => ne 102 (by decide) e.symm)) (fun e => ne 34 (by decide) (htk 34 e).symm)]
     | false =>
      have hfig : figs l q = [] := by unfold figs; rw [hd, List.takeWhile_cons, hfb]; rfl
      rw [if_neg (show ¬ figs l q ≠ [] from fun h => h hfig)]
      have hb' : ∀ c : UInt8, lowb c = true → b ≠ c := fun c hc e => by subst e; rw [hb] at hc; cases hc
      have hlit : sgn l q = [] → litP l q = .bad 3 q := by
       intro _
       have h116 : b ≠ 116 := hb' 116 (by decide)
       have h102 : b ≠ 102 := hb' 102 (by decide)
       have hll : litLen (l.drop q) = 0 := by
        rw [hd]
        unfold litLen
        rw [if_neg (by simpa using h34), if_neg (by simp [List.isPrefixOf, trueS, Ne.symm h116]), if_neg (by simp [List.isPrefixOf, falseS, Ne.symm h102]), if_neg (by simpa using h45), List.takeWhile_cons, hfb]
        rfl
       have ht : (l.drop q).take (litLen (l.drop q)) = [] := by rw [hll]; rfl
       rw [lit_num (by rw [ht]; decide) (by rw [ht]; decide) (by rw [ht]; decide), ht, ← num_agree, num_empty]
      rw [hs] at hlit ⊢
      by_cases k1 : b = 43
      ·simp only [if_pos k1]
       split <;> rfl
      ·by_cases k2 : b = 60
       ·subst k2
        simp only [if_neg k1, if_true]
        split <;> rfl
       ·by_cases k3 : b = 61
        ·subst k3
         simp only [if_neg k1, if_neg k2, if_true] at hlit ⊢
         split
         ·rfl
         ·rename_i hc
          rw [if_neg hc] at hlit
          rw [hlit rfl]
          rfl
        ·by_cases k4 : b = 45 ∨ b = 42 ∨ b = 47 ∨ b = 37 ∨ b = 35 ∨ b = 40 ∨ b = 41
         ·simp only [if_neg k1, if_neg k2, if_neg k3, if_pos k4]
          rcases k4 with rfl | rfl | rfl | rfl | rfl | rfl | rfl
          ·exact absurd rfl h45
          all_goals rfl
         ·rw [if_neg k1, if_neg k2, if_neg k3, if_neg k4] at hlit ⊢
          rw [hlit rfl]
          rfl
 ·rw [if_neg hw]
  rw [if_pos hw]
  have hlow := @wd_low l q
  generalize hW : wd l q = W at hw hlow
  have n35 : W ≠ [35] := fun e => by have := hlow 35 (by rw [e]; simp); revert this; decide
  have n45 : W ≠ [45] := fun e => by have := hlow 45 (by rw [e]; simp); revert this; decide
  have n40 : W ≠ [40] := fun e => by have := hlow 40 (by rw [e]; simp); revert this; decide
  by_cases ht : W = trueS
  ·rw [if_pos ht, ht, if_neg (by decide), if_neg (by decide), if_neg (by decide), if_neg (by decide), if_neg (by decide), if_neg (fun h => h.2.1 rfl)]
   exact litP_true (hW.trans ht)
  ·rw [if_neg ht]
   by_cases hf : W = falseS
   ·rw [if_pos hf, hf, if_neg (by decide), if_neg (by decide), if_neg (by decide), if_neg (by decide), if_neg (by decide), if_neg (fun h => h.2.2 rfl)]
    exact litP_false (hW.trans hf)
   ·rw [if_neg hf]
    by_cases hn : W = notS
    ·rw [if_pos hn, if_pos hn]
    ·rw [if_neg hn, if_neg hn, if_neg n35, if_neg n45, if_neg n40]
     by_cases hi : isName W = true
     ·rw [if_pos hi, if_pos hi]
     ·rw [if_neg hi, if_neg hi, if_pos ⟨hw, ht, hf⟩]
end Go.Proofs.YtpidjanngbaiiaaGreatDoor
namespace Go.Proofs.YtpidjanngbaiiaaGreatDoor.Yd
variable {X : Type} {un : Str → X → X} {bi : Str → X → X → X} {opd : Nat → Opd X} {bin : Nat → Option (Str × Nat × Nat)} {close : Nat → Option Nat} {sk : Nat → Nat}

theorem more1 (f : Nat) :
  (∀ p r, one un bi opd bin close sk f p = some r → one un bi opd bin close sk (f + 1) p = some r) ∧
  (∀ t p r, all un bi opd bin close sk f t p = some r → all un bi opd bin close sk (f + 1) t p = some r) ∧
  (∀ t x p r, loop un bi opd bin close sk f t x p = some r → loop un bi opd bin close sk (f + 1) t x p = some r) := by
 induction f with
 | zero => exact ⟨fun p r h => by simp [one] at h, fun t p r h => by simp [all] at h, fun t x p r h => by simp [loop] at h⟩
 | succ f ih =>
  obtain ⟨i1, i2, i3⟩ := ih
  refine ⟨fun p r h => ?_, fun t p r h => ?_, fun t x p r h => ?_⟩
  ·rw [one] at h ⊢
   cases ho : opd p with
   | bad e a => rw [ho] at h; exact h
   | leaf x q => rw [ho] at h; exact h
   | pre u q =>
    rw [ho] at h
    simp only at h ⊢
    cases h1 : one un bi opd bin close sk f q with
    | none => rw [h1] at h; cases h
    | some r1 => rw [i1 _ _ h1]; rw [h1] at h; exact h
   | par q =>
    rw [ho] at h
    simp only at h ⊢
    cases h1 : all un bi opd bin close sk f 1 q with
    | none => rw [h1] at h; cases h
    | some r1 => rw [i2 _ _ _ h1]; rw [h1] at h; exact h
  ·rw [all] at h ⊢
   cases h1 : one un bi opd bin close sk f p with
   | none => rw [h1] at h; cases h
   | some r1 =>
    rw [i1 _ _ h1]; rw [h1] at h
    cases r1 with
    | err e a => exact h
    | ok x q => exact i3 _ _ _ _ h
  ·rw [loop] at h ⊢
   cases hb : bin p with
   | none => rw [hb] at h; exact h
   | some v =>
    obtain ⟨o, k, q1⟩ := v
    rw [hb] at h
    simp only at h ⊢
    by_cases hk : k < t
    ·rw [if_pos hk] at h ⊢; exact h
    ·rw [if_neg hk] at h ⊢
     cases h1 : all un bi opd bin close sk f (k + 1) q1 with
     | none => rw [h1] at h; cases h
     | some r1 =>
      rw [i2 _ _ _ h1]; rw [h1] at h
      cases r1 with
      | err e a => exact h
      | ok y q2 => exact i3 _ _ _ _ h
theorem more_one {f g p r} (h : one un bi opd bin close sk f p = some r) (hg : f ≤ g) : one un bi opd bin close sk g p = some r := by
 induction hg with
 | refl => exact h
 | step _ ih => exact (more1 _).1 _ _ ih
theorem more_all {f g t p r} (h : all un bi opd bin close sk f t p = some r) (hg : f ≤ g) : all un bi opd bin close sk g t p = some r := by
 induction hg with
 | refl => exact h
 | step _ ih => exact (more1 _).2.1 _ _ _ ih
theorem more_loop {f g t x p r} (h : loop un bi opd bin close sk f t x p = some r) (hg : f ≤ g) : loop un bi opd bin close sk g t x p = some r := by
 induction hg with
 | refl => exact h
 | step _ ih => exact (more1 _).2.2 _ _ _ _ ih

def In (N p : Nat) (r : Res X) : Prop := ∀ x q, r = .ok x q → p < q ∧ q ≤ N
def InE (N p : Nat) (r : Res X) : Prop := ∀ x q, r = .ok x q → p ≤ q ∧ q ≤ N
structure Grows (N : Nat) (opd : Nat → Opd X) (bin : Nat → Option (Str × Nat × Nat)) (close : Nat → Option Nat) : Prop where
 leaf : ∀ {p x q}, p ≤ N → opd p = .leaf x q → p < q ∧ q ≤ N
 pre : ∀ {p u q}, p ≤ N → opd p = .pre u q → p < q ∧ q ≤ N
 par : ∀ {p q}, p ≤ N → opd p = .par q → p < q ∧ q ≤ N
 bin : ∀ {p o k q}, p ≤ N → bin p = some (o, k, q) → p < q ∧ q ≤ N
 close : ∀ {p q}, p ≤ N → close p = some q → p < q ∧ q ≤ N
theorem ends {N : Nat} (G : Grows N opd bin close) : ∀ n : Nat,
  (∀ p, p ≤ N → N - p < n → ∃ f r, one un bi opd bin close sk f p = some r ∧ In N p r) ∧
  (∀ t p, p ≤ N → N - p < n → ∃ f r, all un bi opd bin close sk f t p = some r ∧ In N p r) ∧
  (∀ t x p, p ≤ N → N - p < n → ∃ f r, loop un bi opd bin close sk f t x p = some r ∧ InE N p r) := by
 intro n
 induction n with
 | zero => exact ⟨fun p _ h => absurd h (Nat.not_lt_zero _), fun t p _ h => absurd h (Nat.not_lt_zero _), fun t x p _ h => absurd h (Nat.not_lt_zero _)⟩
 | succ n ih =>
  obtain ⟨i1, i2, i3⟩ := ih
  have H1 : ∀ p, p ≤ N → N - p < n + 1 → ∃ f r, one un bi opd bin close sk f p = some r ∧ In N p r := by
   intro p hp hn
   cases ho : opd p with
   | bad e a => exact ⟨1, .err e a, by rw [one, ho], fun x q h => by cases h⟩
   | leaf x q => exact ⟨1, .ok x q, by rw [one, ho], fun x q h => by cases h; exact G.leaf hp ho⟩
   | pre u q =>
    obtain ⟨h1, h2⟩ := G.pre hp ho
    obtain ⟨f, r, hf, hr⟩ := i1 q h2 (by omega)
    cases r with
    | err e a => exact ⟨f + 1, .err e a, by rw [one, ho]; simp only [hf], fun x q h => by cases h⟩
    | ok x q' => exact ⟨f + 1, .ok (un u x) q', by rw [one, ho]; simp only [hf], fun x q h => by cases h; have := hr _ _ rfl; omega⟩
   | par q =>
    obtain ⟨h1, h2⟩ := G.par hp ho
    obtain ⟨f, r, hf, hr⟩ := i2 1 q h2 (by omega)
    cases r with
    | err e a => exact ⟨f + 1, .err e a, by rw [one, ho]; simp only [hf], fun x q h => by cases h⟩
    | ok x q' =>
     have hq := hr _ _ rfl
     cases hc : close q' with
     | none => exact ⟨f + 1, .err 3 (sk q'), by rw [one, ho]; simp only [hf, hc], fun x q h => by cases h⟩
     | some q'' => exact ⟨f + 1, .ok x q'', by rw [one, ho]; simp only [hf, hc], fun x q h => by cases h; have := G.close hq.2 hc; omega⟩
  have H3 : ∀ t x p, p ≤ N → N - p < n + 1 → ∃ f r, loop un bi opd bin close sk f t x p = some r ∧ InE N p r := by
   intro t x p hp hn
   cases hb : bin p with
   | none => exact ⟨1, .ok x p, by rw [loop, hb], fun x q h => by cases h; omega⟩
   | some v =>
    obtain ⟨o, k, q1⟩ := v
    obtain ⟨h1, h2⟩ := G.bin hp hb
    by_cases hk : k < t
    ·exact ⟨1, .ok x p, by rw [loop, hb]; simp only [if_pos hk], fun x q h => by cases h; omega⟩
    ·obtain ⟨f, r, hf, hr⟩ := i2 (k + 1) q1 h2 (by omega)
     cases r with
     | err e a => exact ⟨f + 1, .err e a, by rw [loop, hb]; simp only [if_neg hk, hf], fun x q h => by cases h⟩
     | ok y q2 =>
      have hq := hr _ _ rfl
      obtain ⟨g, r', hg, hr'⟩ := i3 t (bi o x y) q2 hq.2 (by omega)
      refine ⟨max f g + 1, r', ?_, fun x q h => by have := hr' x q h; omega⟩
      rw [loop, hb]
      simp only [if_neg hk, more_all hf (Nat.le_max_left f g)]
      exact more_loop hg (Nat.le_max_right f g)
  refine ⟨H1, fun t p hp hn => ?_, H3⟩
  obtain ⟨f, r, hf, hr⟩ := H1 p hp hn
  cases r with
  | err e a => exact ⟨f + 1, .err e a, by rw [all]; simp only [hf], fun x q h => by cases h⟩
  | ok x q =>
   have hq := hr _ _ rfl
   obtain ⟨g, r', hg, hr'⟩ := H3 t x q hq.2 (by omega)
   refine ⟨max f g + 1, r', ?_, fun x q h => by have := hr' x q h; omega⟩
   rw [all, more_one hf (Nat.le_max_left f g)]
   exact more_loop hg (Nat.le_max_right f g)
theorem all_ends {N : Nat} (G : Grows N opd bin close) (t p : Nat) (hp : p ≤ N) : ∃ f r, all un bi opd bin close sk f t p = some r ∧ In N p r := (ends G (N - p + 1)).2.1 t p hp (by omega)

theorem keeps {P : X → Prop} (hl : ∀ {p x q}, opd p = .leaf x q → P x) (hu : ∀ {p u q x}, opd p = .pre u q → P x → P (un u x)) (hb : ∀ {p o k q x y}, bin p = some (o, k, q) → P x → P y → P (bi o x y)) : ∀ f : Nat,
  (∀ p x q, one un bi opd bin close sk f p = some (.ok x q) → P x) ∧
  (∀ t p x q, all un bi opd bin close sk f t p = some (.ok x q) → P x) ∧
  (∀ t x0 p x q, P x0 → loop un bi opd bin close sk f t x0 p = some (.ok x q) → P x) := by
 intro f
 induction f with
 | zero => exact ⟨fun p x q h => by simp [one] at h, fun t p x q h => by simp [all] at h, fun t x0 p x q _ h => by simp [loop] at h⟩
 | succ f ih =>
  obtain ⟨i1, i2, i3⟩ := ih
  refine ⟨fun p x q h => ?_, fun t p x q h => ?_, fun t x0 p x q h0 h => ?_⟩
  ·rw [one] at h
   cases ho : opd p with
   | bad e a => rw [ho] at h; cases h
   | leaf y q1 => rw [ho] at h; cases h; exact hl ho
   | pre u q1 =>
    rw [ho] at h
    simp only at h
    cases h1 : one un bi opd bin close sk f q1 with
    | none => rw [h1] at h; cases h
    | some r1 =>
     rw [h1] at h
     cases r1 with
     | err e a => cases h
     | ok y q2 => cases h; exact hu ho (i1 _ _ _ h1)
   | par q1 =>
    rw [ho] at h
    simp only at h
    cases h1 : all un bi opd bin close sk f 1 q1 with
    | none => rw [h1] at h; cases h
    | some r1 =>
     rw [h1] at h
     cases r1 with
     | err e a => cases h
     | ok y q2 =>
      simp only at h
      cases hc : close q2 with
      | none => rw [hc] at h; cases h
      | some q3 => rw [hc] at h; cases h; exact i2 _ _ _ _ h1
  ·rw [all] at h
   cases h1 : one un bi opd bin close sk f p with
   | none => rw [h1] at h; cases h
   | some r1 =>
    rw [h1] at h
    cases r1 with
    | err e a => cases h
    | ok y q2 => exact i3 _ _ _ _ _ (i1 _ _ _ h1) h
  ·rw [loop] at h
   cases hbq : bin p with
   | none => rw [hbq] at h; cases h; exact h0
   | some v =>
    obtain ⟨o, k, q1⟩ := v
    rw [hbq] at h
    simp only at h
    by_cases hk : k < t
    ·rw [if_pos hk] at h; cases h; exact h0
    ·rw [if_neg hk] at h
     cases h1 : all un bi opd bin close sk f (k + 1) q1 with
     | none => rw [h1] at h; cases h
     | some r1 =>
      rw [h1] at h
      cases r1 with
      | err e a => cases h
      | ok y q2 => exact i3 _ _ _ _ _ (hb hbq h0 (i2 _ _ _ _ h1)) h

/- The yard's run told by its next token. -/
theorem YR.of_bad {ops vals n p e a r} (h : opd p = .bad e a) (y : YR un bi opd bin close sk ops vals n true p r) : r = .err e a := by
 cases y with
 | bad h' => rw [h] at h'; cases h'; rfl
 | leaf h' _ => rw [h] at h'; cases h'
 | pre h' _ => rw [h] at h'; cases h'
 | par h' _ => rw [h] at h'; cases h'
theorem YR.of_leaf {ops vals n p x q r} (h : opd p = .leaf x q) (y : YR un bi opd bin close sk ops vals n true p r) : YR un bi opd bin close sk ops (x :: vals) n false q r := by
 cases y with
 | bad h' => rw [h] at h'; cases h'
 | leaf h' y => rw [h] at h'; cases h'; exact y
 | pre h' _ => rw [h] at h'; cases h'
 | par h' _ => rw [h] at h'; cases h'
theorem YR.of_pre {ops vals n p u q r} (h : opd p = .pre u q) (y : YR un bi opd bin close sk ops vals n true p r) : YR un bi opd bin close sk (.un u :: ops) vals n true q r := by
 cases y with
 | bad h' => rw [h] at h'; cases h'
 | leaf h' _ => rw [h] at h'; cases h'
 | pre h' y => rw [h] at h'; cases h'; exact y
 | par h' _ => rw [h] at h'; cases h'
theorem YR.of_par {ops vals n p q r} (h : opd p = .par q) (y : YR un bi opd bin close sk ops vals n true p r) : YR un bi opd bin close sk (.br :: ops) vals (n + 1) true q r := by
 cases y with
 | bad h' => rw [h] at h'; cases h'
 | leaf h' _ => rw [h] at h'; cases h'
 | pre h' _ => rw [h] at h'; cases h'
 | par h' y => rw [h] at h'; cases h'; exact y
theorem YR.of_bin {ops vals n p o k q r} (h : bin p = some (o, k, q)) (y : YR un bi opd bin close sk ops vals n false p r) : YR un bi opd bin close sk (.bi o k :: (redW un bi k ops vals).1) (redW un bi k ops vals).2 n true q r := by
 cases y with
 | bin h' y => rw [h] at h'; cases h'; exact y
 | close h' _ _ => rw [h] at h'; cases h'
 | open_ h' _ => rw [h] at h'; cases h'
 | end_ h' _ => rw [h] at h'; cases h'
theorem YR.of_close {ops vals n p q r} (h : bin p = none) (hc : close p = some q) (y : YR un bi opd bin close sk ops vals (n + 1) false p r) : YR un bi opd bin close sk (redB un bi ops vals).1 (redB un bi ops vals).2 n false q r := by
 cases y with
 | bin h' _ => rw [h] at h'; cases h'
 | close _ hc' y => rw [hc] at hc'; cases hc'; exact y
 | open_ _ hc' => rw [hc] at hc'; cases hc'
theorem YR.of_open {ops vals n p r} (h : bin p = none) (hc : close p = none) (y : YR un bi opd bin close sk ops vals (n + 1) false p r) : r = .err 3 (sk p) := by
 cases y with
 | bin h' _ => rw [h] at h'; cases h'
 | close _ hc' y => rw [hc] at hc'; cases hc'
 | open_ _ hc' => rfl
theorem YR.of_end {ops vals p r} (h : bin p = none) (y : YR un bi opd bin close sk ops vals 0 false p r) : ∃ x, (redA un bi ops vals).head? = some x ∧ r = .ok x (sk p) := by
 cases y with
 | bin h' _ => rw [h] at h'; cases h'
 | end_ _ hx => exact ⟨_, hx, rfl⟩

/- How many lie in the yard. -/
def nBi : List Op → Nat
 | [] => 0
 | .bi _ _ :: r => nBi r + 1
 | _ :: r => nBi r
def nBr : List Op → Nat
 | [] => 0
 | .br :: r => nBr r + 1
 | _ :: r => nBr r
theorem red1_len {o : Op} {r : List Op} {v : List X} (hb : o ≠ .br) (h : v.length = nBi (o :: r) + 1) : (red1 un bi o v).length = nBi r + 1 := by
 cases o with
 | br => exact absurd rfl hb
 | un u =>
  simp only [nBi] at h
  cases v with
  | nil => simp at h
  | cons x v => simpa [red1] using h
 | bi o k =>
  simp only [nBi] at h
  match v, h with
  | [], h => simp at h
  | [x], h => simp at h
  | y :: x :: v, h => simp only [red1, List.length_cons] at h ⊢; omega

theorem all_in {N : Nat} (G : Grows N opd bin close) {f t p : Nat} {r : Res X} (hp : p ≤ N) (h : all un bi opd bin close sk f t p = some r) : In N p r := by
 obtain ⟨g, r', hg, hr'⟩ := all_ends (un := un) (bi := bi) (sk := sk) G t p hp
 have h1 := more_all h (Nat.le_max_left f g)
 have h2 := more_all hg (Nat.le_max_right f g)
 rw [h1] at h2
 obtain rfl := Option.some.inj h2
 exact hr'
theorem one_in {N : Nat} (G : Grows N opd bin close) {f p : Nat} {r : Res X} (hp : p ≤ N) (h : one un bi opd bin close sk f p = some r) : In N p r := by
 obtain ⟨g, r', hg, hr'⟩ := (ends (un := un) (bi := bi) (sk := sk) G (N - p + 1)).1 p hp (by omega)
 have h1 := more_one h (Nat.le_max_left f g)
 have h2 := more_one hg (Nat.le_max_right f g)
 rw [h1] at h2
 obtain rfl := Option.some.inj h2
 exact hr'
end Go.Proofs.YtpidjanngbaiiaaGreatDoor.Yd
namespace Go.Proofs.YtpidjanngbaiiaaGreatDoor
open Go.RowKit Go.Proofs

set_option maxRecDepth 100000
theorem sgn_len (l : Str) (q : Nat) : (sgn l q).length ≤ (l.drop q).length := by
 unfold sgn
 cases h : signs.find? fun s => s.isPrefixOf (l.drop q) with
 | none => simp
 | some s =>
  have := List.find?_some h
  exact (List.isPrefixOf_iff_prefix.1 this).length_le
theorem eword_len {l : Str} {p : Nat} (h : p ≤ l.length) : sk l p + (eword l p).length ≤ l.length := by
 have hs := sk_le h
 unfold eword
 split
 ·have := sgn_len l (sk l p)
  rw [List.length_drop] at this
  omega
 ·have : (wd l (sk l p)).length ≤ (l.drop (sk l p)).length := by unfold wd; exact (List.takeWhile_sublist lowb).length_le
  rw [List.length_drop] at this
  omega
theorem scanQ_le' : ∀ (s : Str), scanQ s ≤ s.length
 | [] => by simp [scanQ]
 | b :: r => by
  have ih := scanQ_le' r
  by_cases h34 : b = 34
  ·subst h34; rw [scanQ]; simp
  ·by_cases h92 : b = 92
   ·subst h92
    cases r with
    | nil => rw [scanQ]; simp
    | cons c r =>
     have ih2 := scanQ_le' r
     rw [scanQ]; simp only [List.length_cons]; omega
   ·rw [scanQ]
    ·simp only [List.length_cons]; omega
    ·exact fun h => h34 h
    ·exact fun h _ => h92 h
    ·exact fun _ _ h _ => h92 h
termination_by s => s.length
theorem litLen_le' (s : Str) : litLen s ≤ s.length := by
 unfold litLen
 split
 ·rename_i h
  cases s with
  | nil => simp at h
  | cons b r => have := scanQ_le' r; simp only [List.drop_succ_cons, List.drop_zero, List.length_cons]; omega
 ·split
  ·rename_i h; exact (List.isPrefixOf_iff_prefix.1 h).length_le
  ·split
   ·rename_i h; exact (List.isPrefixOf_iff_prefix.1 h).length_le
   ·split
    ·rename_i h
     cases s with
     | nil => simp at h
     | cons b r => have := (List.takeWhile_sublist figb (l := r)).length_le; simp only [List.drop_succ_cons, List.drop_zero, List.length_cons]; omega
    ·exact (List.takeWhile_sublist figb (l := s)).length_le
theorem litP_leaf {l : Str} {q k : Nat} {x : Ex} (hq : q ≤ l.length) (h : litP l q = .leaf x k) : q < k ∧ k ≤ l.length := by
 have hle := litLen_le' (l.drop q)
 rw [List.length_drop] at hle
 unfold litP ofVR at h
 split at h
 ·rename_i h0
  obtain ⟨-, rfl⟩ := Yd.Opd.leaf.inj h
  rcases Nat.eq_zero_or_pos (litLen (l.drop q)) with hz | hz
  ·rw [hz] at h0
   exact absurd h0 (by rw [List.take_zero]; decide)
  ·omega
 ·cases h
theorem litP_form (l : Str) (q : Nat) : (∃ x k, litP l q = .leaf x k) ∨ ∃ e a, litP l q = .bad e a := by
 unfold litP ofVR
 split
 ·exact Or.inl ⟨_, _, rfl⟩
 ·exact Or.inr ⟨_, _, rfl⟩
theorem litP_not {l : Str} {q : Nat} : (∀ u k, litP l q ≠ .pre u k) ∧ ∀ k, litP l q ≠ .par k := by
 rcases litP_form l q with ⟨x, k, h⟩ | ⟨e, a, h⟩
 ·exact ⟨fun _ _ h' => (by rw [h] at h'; cases h'), fun _ h' => (by rw [h] at h'; cases h')⟩
 ·exact ⟨fun _ _ h' => (by rw [h] at h'; cases h'), fun _ h' => (by rw [h] at h'; cases h')⟩
theorem one_of {l : Str} {p : Nat} {W : Str} (h : p ≤ l.length) (e : eword l p = W) : sk l p + W.length ≤ l.length := by rw [← e]; exact eword_len h
theorem tokens_grow (l : Str) : Yd.Grows l.length (opdP l) (ebin l) (eclose l) where
 leaf {p x q} h ho := by
  have hs := sk_le h
  unfold opdP at ho
  split at ho
  ·cases ho
  ·split at ho
   ·cases ho
   ·split at ho
    ·split at ho
     ·have := litP_leaf hs.2 ho; omega
     ·cases ho
    ·split at ho
     ·cases ho
     ·split at ho
      ·rename_i hn
       obtain ⟨-, rfl⟩ := Yd.Opd.leaf.inj ho
       have := eword_len h
       have h1 : (eword l p).length ≠ 0 := fun e => by rw [List.length_eq_zero_iff.1 e] at hn; revert hn; decide
       omega
      ·split at ho
       ·cases ho
       ·have := litP_leaf hs.2 ho; omega
 pre {p u q} h ho := by
  have hs := sk_le h
  unfold opdP at ho
  split at ho
  ·rename_i e
   obtain ⟨-, rfl⟩ := Yd.Opd.pre.inj ho
   have := one_of h e
   simp only [notS, List.length_cons, List.length_nil] at this
   omega
  ·split at ho
   ·rename_i e
    obtain ⟨-, rfl⟩ := Yd.Opd.pre.inj ho
    have := one_of h e
    simp only [List.length_cons, List.length_nil] at this
    omega
   ·split at ho
    ·rename_i e
     split at ho
     ·exact absurd ho (litP_not.1 _ _)
     ·obtain ⟨-, rfl⟩ := Yd.Opd.pre.inj ho
      have := one_of h e
      simp only [List.length_cons, List.length_nil] at this
      omega
    ·split at ho
     ·cases ho
     ·split at ho
      ·cases ho
      ·split at ho
       ·cases ho
       ·exact absurd ho (litP_not.1 _ _)
 par {p q} h ho := by
  have hs := sk_le h
  unfold opdP at ho
  split at ho
  ·cases ho
  ·split at ho
   ·cases ho
   ·split at ho
    ·split at ho
     ·exact absurd ho (litP_not.2 _)
     ·cases ho
    ·split at ho
     ·rename_i e
      obtain rfl := Yd.Opd.par.inj ho
      have := one_of h e
      simp only [List.length_cons, List.length_nil] at this
      omega
     ·split at ho
      ·cases ho
      ·split at ho
       ·cases ho
       ·exact absurd ho (litP_not.2 _)
 bin {p o k q} h ho := by
  have hs := sk_le h
  unfold ebin at ho
  split at ho
  ·cases ho
  ·rename_i hn
   have := eword_len h
   have h1 : (eword l p).length ≠ 0 := fun e => hn (by rw [List.length_eq_zero_iff.1 e]; decide)
   simp only [Option.some.injEq, Prod.mk.injEq] at ho
   omega
 close {p q} h ho := by
  have hs := sk_le h
  unfold eclose at ho
  split at ho
  ·rename_i e
   have := one_of h e
   simp only [List.length_cons, List.length_nil] at this
   simp only [Option.some.injEq] at ho
   omega
  ·cases ho
theorem ebin_le (l : Str) : ∀ q o k q', ebin l q = some (o, k, q') → 1 ≤ k ∧ k ≤ 9 := by
 intro q o k q' h
 unfold ebin at h
 split at h
 ·cases h
 ·rename_i hn
  have := level_lt (eword l q)
  simp only [Option.some.injEq, Prod.mk.injEq] at h
  omega

/- What is read is within bounds. -/
theorem isName_len {s : Str} (h : isName s = true) : s.length ≤ 8 := by
 unfold isName small at h
 simp only [Bool.and_eq_true, decide_eq_true_eq] at h
 omega
theorem level_len {s : Str} (h : level s ≠ 0) : s.length ≤ 3 := by
 rcases Nat.lt_or_ge 3 s.length with hx | hx
 ·exfalso
  apply h
  unfold level
  have ne : ∀ a : Str, a.length ≤ 3 → s ≠ a := fun a ha e => by subst e; omega
  rw [if_neg (ne _ (by decide)), if_neg (ne _ (by decide)), if_neg, if_neg, if_neg]
  ·rintro (h | h | h) <;> exact ne _ (by decide) h
  ·rintro (h | h | h) <;> exact ne _ (by decide) h
  ·rintro (h | h | h) <;> exact ne _ (by decide) h
 ·exact hx
theorem rdP_fit (s : Str) (h : (rdP s).2.2.2 = 0) : (Lit.int .i64 (rdP s).1).wf = true ∧ (Lit.int .i64 (rdP s).2.1).wf = true ∧ (rdP s).2.2.1.length ≤ 100 := by
 unfold rdP at h ⊢
 split
 ·exact ⟨by decide, by decide, by decide⟩
 ·split
  ·exact ⟨by decide, by decide, by decide⟩
  ·rename_i h1 h2
   rw [if_neg h1, if_neg h2] at h
   split
   ·rename_i h3
    rw [if_pos h3] at h
    unfold qVal at h ⊢
    cases hq : pq (s.length - 1) (s.drop 1) [] with
    | none => exact ⟨by decide, by decide, by decide⟩
    | some t =>
     simp only [hq] at h ⊢
     split
     ·exact ⟨by decide, by decide, by decide⟩
     ·exact ⟨(by decide : (Lit.int .i64 3).wf = true), (by decide : (Lit.int .i64 0).wf = true), by simp only; omega⟩
   ·rename_i h3
    rw [if_neg h3] at h
    unfold nVal
    cases hn : numP s with
    | none => exact ⟨by decide, by decide, by decide⟩
    | some n =>
     have := (numP_iff _ _).1 hn
     exact ⟨(by decide : (Lit.int .i64 1).wf = true), WalkArith.wf_i64 (show -9223372036854775808 ≤ n ∧ n ≤ 9223372036854775807 from this.2), Nat.zero_le _⟩
theorem litP_fit {l : Str} {q k : Nat} {x : Ex} (h : litP l q = .leaf x k) : ExFit 1048576 x := by
 unfold litP ofVR at h
 split at h
 ·rename_i h0
  obtain ⟨rfl, -⟩ := Yd.Opd.leaf.inj h
  have := rdP_fit _ h0
  exact .mk _ _ _ _ _ _ (by decide) (by decide) this.1 this.2.1 (by omega) (by decide) (fun t ht => by cases ht)
 ·cases h
theorem opdP_fit {l : Str} {p q : Nat} {x : Ex} (ho : opdP l p = .leaf x q) : ExFit 1048576 x := by
 unfold opdP at ho
 split at ho
 ·cases ho
 ·split at ho
  ·cases ho
  ·split at ho
   ·split at ho
    ·exact litP_fit ho
    ·cases ho
   ·split at ho
    ·cases ho
    ·split at ho
     ·rename_i hn
      obtain ⟨rfl, -⟩ := Yd.Opd.leaf.inj ho
      have := isName_len hn
      exact .mk _ _ _ _ _ _ (by decide) (by omega) (by decide) (by decide) (by decide) (by decide) (fun t ht => by cases ht)
     ·split at ho
      ·cases ho
      ·exact litP_fit ho
theorem opdP_pre {l : Str} {p q : Nat} {u : Str} (ho : opdP l p = .pre u q) : u = notS ∨ u = negS ∨ u = [35] := by
 unfold opdP at ho
 split at ho
 ·exact Or.inl (Yd.Opd.pre.inj ho).1.symm
 ·split at ho
  ·exact Or.inr (Or.inr (Yd.Opd.pre.inj ho).1.symm)
  ·split at ho
   ·split at ho
    ·exact absurd ho (litP_not.1 _ _)
    ·exact Or.inr (Or.inl (Yd.Opd.pre.inj ho).1.symm)
   ·split at ho
    ·cases ho
    ·split at ho
     ·cases ho
     ·split at ho
      ·cases ho
      ·exact absurd ho (litP_not.1 _ _)
abbrev unX (u : Str) (x : Ex) : Ex := .mk 3 u 0 0 [] [x]
abbrev biX (o : Str) (x y : Ex) : Ex := .mk 3 o 0 0 [] [x, y]
theorem unX_fit {u : Str} {x : Ex} (hu : u = notS ∨ u = negS ∨ u = [35]) (h : ExFit 1048576 x) : ExFit 1048576 (unX u x) :=
 .mk _ _ _ _ _ _ (by decide) (by rcases hu with rfl | rfl | rfl <;> decide) (by decide) (by decide) (by decide) (by simp) (fun t ht => by rcases List.mem_singleton.1 ht with rfl; exact h)
theorem biX_fit {l : Str} {p q k : Nat} {o : Str} {x y : Ex} (ho : ebin l p = some (o, k, q)) (h : ExFit 1048576 x) (h' : ExFit 1048576 y) : ExFit 1048576 (biX o x y) := by
 have hlen : o.length ≤ 3 := by
  unfold ebin at ho
  split at ho
  ·cases ho
  ·rename_i hn
   simp only [Option.some.injEq, Prod.mk.injEq] at ho
   rw [← ho.1]
   exact level_len hn
 exact .mk _ _ _ _ _ _ (by decide) (by omega) (by decide) (by decide) (by decide) (by simp) (fun t ht => by
  rcases List.mem_cons.1 ht with rfl | ht
  ·exact h
  ·rcases List.mem_singleton.1 ht with rfl
   exact h')
theorem all_fit {l : Str} {f t p q : Nat} {x : Ex} (h : Yd.all unX biX (opdP l) (ebin l) (eclose l) (sk l) f t p = some (.ok x q)) : ExFit 1048576 x :=
 (Yd.keeps (P := ExFit 1048576) (fun h => opdP_fit h) (fun h hx => unX_fit (opdP_pre h) hx) (fun h hx hy => biX_fit h hx hy) f).2.1 t p x q h
end Go.Proofs.YtpidjanngbaiiaaGreatDoor
