/-
  The reference's 'letters' (utf-8 letter by letter), 'Length'.
  The reference's Value, Order, Length; values.Order with its comparisons.
  Events: how they lie in memory; what is wrong with one, by the program and by the reference.
  wires.text; a number with its sign in groups.
  The plain law of reading a type: what the program's reader takes off a text (rdOne), what the reference's takes (scanF), and that they agree.
-/
import Derived.Test.YtpidjanngbaiiaaGreatDoorM2
import Derived.Lib.MapLaws
import Derived.Test.YtpidjanngbaiiaaGreatDoorM7
import Derived.Laws.StructEq
import Derived.Deep.RegionHeld3
import Derived.Deep.DrawnRows
import Derived.Test.YtpidjanngbaiiaaGreatDoorM4
import Derived.Test.YtpidjanngbaiiaaGreatDoorM6
import Derived.Lib.AppendStr
import Derived.Test.YtpidjanngbaiiaaGreatDoorM3
namespace Go.Proofs.YtpidjanngbaiiaaGreatDoor
open Go.RowKit Go.Proofs

def lettersGo : Nat → List UInt8 → Option (List Int)
 | 0, _ => some []
 | n + 1, l => if l = [] then some [] else if (Lib.decodeL l).1 = 65533 ∧ (Lib.decodeL l).2 < 2 then none
   else (lettersGo n (l.drop (Lib.decodeL l).2)).map (((Lib.decodeL l).1 : Int) :: ·)
def letters (l : List UInt8) : Option (List Int) := lettersGo l.length l

theorem lettersGo_more : ∀ (n m : Nat) (l : List UInt8), l.length ≤ n → n ≤ m → lettersGo m l = lettersGo n l := by
 intro n
 induction n with
 | zero =>
  intro m l h _
  have : l = [] := List.eq_nil_of_length_eq_zero (by omega)
  subst this
  cases m <;> simp [lettersGo]
 | succ n ih =>
  intro m l h hm
  obtain ⟨k, rfl⟩ : ∃ k, m = k + 1 := ⟨m - 1, by omega⟩
  simp only [lettersGo]
  by_cases he : l = []
  ·simp [he]
  ·have := Lib.decodeL_width l
   have hl : 0 < l.length := List.length_pos_iff.2 he
   rw [ih k (l.drop (Lib.decodeL l).2) (by rw [List.length_drop]; omega) (by omega)]
theorem letters_nil : letters [] = some [] := rfl
theorem letters_bad {l : List UInt8} (h0 : l ≠ []) (h : (Lib.decodeL l).1 = 65533 ∧ (Lib.decodeL l).2 < 2) : letters l = none := by
 unfold letters
 obtain ⟨k, hk⟩ : ∃ k, l.length = k + 1 := ⟨l.length - 1, by have := List.length_pos_iff.2 h0; omega⟩
 rw [hk, lettersGo, if_neg h0, if_pos h]
theorem letters_cons {l : List UInt8} (h0 : l ≠ []) (h : ¬ ((Lib.decodeL l).1 = 65533 ∧ (Lib.decodeL l).2 < 2)) :
  letters l = (letters (l.drop (Lib.decodeL l).2)).map (((Lib.decodeL l).1 : Int) :: ·) := by
 unfold letters
 have := Lib.decodeL_width l
 obtain ⟨k, hk⟩ : ∃ k, l.length = k + 1 := ⟨l.length - 1, by have := List.length_pos_iff.2 h0; omega⟩
 rw [hk, lettersGo, if_neg h0, if_neg h, lettersGo_more (l.drop (Lib.decodeL l).2).length k _ (Nat.le_refl _) (by rw [List.length_drop]; omega)]

theorem decode_any (s : List UInt8) (h0 : s ≠ []) (w : World) (hT : Tabs w) :
  Calls Tryz.prog 101 #[.string ⟨s.toArray⟩] w fun e w' => e = .returned (.tuple #[.int .i32 (Lib.decodeL s).1, .int .i64 (Lib.decodeL s).2]) ∧ Below w.heap.size w w' := by
 refine (Tryz.utf8_DecodeRuneInString ⟨s.toArray⟩ w hT).mono ?_
 rintro e w' ⟨rfl, hb⟩
 refine ⟨?_, hb⟩
 have : Lib.decodeGo ⟨s.toArray⟩ = Lib.decodeL s := by
  unfold Lib.decodeGo Lib.decodeL
  rw [if_neg (by rw [Lib.size_eq]; simpa using h0)]
 rw [this]

abbrev runeCells (rs : List Int) : List Value := rs.map (Value.int .i32)

def LettersEnd (w : World) (a : Option (List Int)) (e : Ending) (w' : World) : Prop :=
 Below w.heap.size w w' ∧ match a with
  | some rs => ∃ v, e = .returned (.tuple #[v, .bool true]) ∧ w'.ownsRow w.heap.size 21 1 v rs.length (runeCells rs)
  | none => e = .returned (.tuple #[.slice none 0 0, .bool false])

set_option maxHeartbeats 1000000 in
theorem letters_any (s : List UInt8) (w : World) (hs : s.length ≤ 1099511627776) (hT : Tabs w) :
  Calls Tryz.prog 64 #[.string ⟨s.toArray⟩] w (LettersEnd w (letters s)) := by
 obtain ⟨ANS, hA⟩ : ∃ x, letters s = x := ⟨_, rfl⟩
 have HA := Lib.hid hA; rw [hA]; clear hA
 go_enter Tryz.func64, Tryz.ntmps64
 go_wp2
 go_loopw [0, 4, 5, 6] (fun s0 v _ _ wr => ∃ (t : List UInt8) (done : List Int), s0 = .string ⟨t.toArray⟩ ∧ Hid (letters s = (letters t).map (done ++ ·)) ∧ done.length + t.length ≤ s.length ∧ wr.ownsRow w.heap.size 21 1 v done.length (runeCells done) ∧ Below w.heap.size w wr)
  (fun s0 _ _ _ _ => match s0 with | .string b => b.size | _ => 0)
 case atStart => exact ⟨s, [], rfl, by simp [Hid], by simp, World.ownsRow_nil _ _ _ _, Below.refl _ _⟩
 case round =>
  obtain ⟨t, done, rfl, hl, hlen, hown, hb⟩ := hrel
  by_cases h0 : t = []
  ·subst h0
   go_wp2
   go_ret2
   refine ⟨hb, ?_⟩
   have h1 := hl.out
   rw [letters_nil, HA.out] at h1
   subst h1
   exact ⟨_, rfl, by simpa using hown⟩
  ·have hp : 0 < t.length := List.length_pos_iff.2 h0
   have hp' : (0 : Int) < (t.length : Int) := by omega
   have hw1 := Lib.decodeL_width t
   have hw2 := Lib.decodeL_le t h0
   obtain ⟨r, hr⟩ : ∃ r, (Lib.decodeL t).1 = r := ⟨_, rfl⟩
   obtain ⟨k, hk⟩ : ∃ k, (Lib.decodeL t).2 = k := ⟨_, rfl⟩
   have hd := decode_any t h0 wr (hT.below hb)
   rw [hr, hk] at hd
   rw [hk] at hw1 hw2
   have Hr := Lib.hid hr
   have Hk := Lib.hid hk
   have Hd := Lib.hid hd
   clear hr hk hd
   by_cases hbad : r = 65533 ∧ k < 2
   ·obtain ⟨b1, b2⟩ := hbad
    have t1 : ((r : Int) == 65533) = true := by rw [beq_iff_eq]; omega
    have t2 : decide ((k : Int) < 2) = true := by rw [decide_eq_true_iff]; omega
    have HB : Hid (letters t = none) := letters_bad h0 ⟨by rw [Hr.out]; exact b1, by rw [Hk.out]; exact b2⟩
    clear b1 b2
    go_wp2_with (go_at_call 101; go_must (refine (Hd.out).mono ?_; rintro e w1 ⟨rfl, hb1⟩))
    go_ret2
    have h1 := hl.out
    rw [HB.out, HA.out] at h1
    subst h1
    exact ⟨step hb hb1 hb.size, rfl⟩
   ·have HN : Hid (letters t = (letters (t.drop k)).map ((r : Int) :: ·)) := by
     have := letters_cons h0 (by rw [Hr.out, Hk.out]; exact hbad)
     rw [Hr.out, Hk.out] at this; exact this
    have hbz : (done.length + 1) * 4 ≤ 140737488355328 := by omega
    have hbn : done.length + 1 ≤ 4611686018427387904 := by omega
    have hq : ((r : Int) == 65533) = false ∨ (((r : Int) == 65533) = true ∧ decide ((k : Int) < 2) = false) := by
     by_cases h5 : r = 65533
     ·refine .inr ⟨by rw [beq_iff_eq]; omega, ?_⟩
      rw [decide_eq_false_iff_not]; intro h; exact hbad ⟨h5, by omega⟩
     ·refine .inl ?_
      rw [beq_eq_false_iff_ne]; omega
    have hwr : w.heap.size ≤ wr.heap.size := hb.size
    clear hbad
    rcases hq with t1 | ⟨t1, t2⟩
    all_goals
     go_wp2_with (first
      | (go_at_call 101; go_must (refine (Hd.out).mono ?_; rintro e w1 ⟨rfl, hb1⟩))
      | (at_builtin; go_must (refine wpList_app1 rt_runes w1 (.int .i32 r) rfl (.tmp 21) (.tmp 23) rfl w.heap.size u4 done.length (runeCells done) rfl (own_keep hown hb1 (Nat.le_refl _)) rfl rfl hbz hbn (Nat.le_trans hwr hb1.size) ?_; intro v2 w2 hown2 _ _ hb2)))
     go_roundw
     case rel =>
      refine ⟨t.drop k, done ++ [(r : Int)], rfl, ?_, by rw [List.length_append, List.length_drop, List.length_singleton]; omega, by simpa using hown2, (step hb hb1 hb.size).trans hb2⟩
      show letters s = _
      rw [hl.out, HN.out]
      cases letters (t.drop k) <;> simp
     case measure => simp [Lib.size_eq]; omega
abbrev mkV (s n : Int) (t : List UInt8) : Value := .agg #[.int .i64 s, .int .i64 n, .string ⟨t.toArray⟩]

theorem validGo_letters : ∀ (n : Nat) (l : List UInt8), l.length ≤ n → Lib.validGoD n l = (lettersGo n l).isSome := by
 intro n
 induction n with
 | zero => intro l _; rfl
 | succ n ih =>
  intro l h
  unfold Lib.validGoD lettersGo
  by_cases he : l = []
  ·simp [he]
  ·have hw := Lib.decodeL_width l
   rw [if_neg he, if_neg he]
   by_cases hb : (Lib.decodeL l).1 = 65533 ∧ (Lib.decodeL l).2 = 1
   ·rw [if_pos hb, if_pos ⟨hb.1, by omega⟩]; rfl
   ·rw [if_neg hb, if_neg (fun h => hb ⟨h.1, by omega⟩), ih _ (by rw [List.length_drop]; omega)]
    simp
theorem valid_letters (l : List UInt8) : Lib.validD l = (letters l).isSome := validGo_letters _ _ (Nat.le_refl _)

set_option maxHeartbeats 400000 in
theorem refValue_any (s n : Int) (w : World) (t : List UInt8) (hs : t.length ≤ 9223372036854775807) (hT : Tabs w) :
  Calls Tryz.prog 24 #[mkV s n t] w fun e w' => e = .returned (.int .i64 (vchk s n t)) ∧ Below w.heap.size w w' := by
 by_cases h3 : s = 3 ∧ n = 0
 ·obtain ⟨rfl, rfl⟩ := h3
  by_cases hl : 100 < t.length
  ·have hl' : (100 : Int) < (t.length : Int) := by omega
   go_enter Tryz.func24, Tryz.ntmps24
   go_wp2
   go_ret
   exact ⟨by simp [vchk, hl], by go_grown⟩
  ·have hl' : ¬ (100 : Int) < (t.length : Int) := by omega
   obtain ⟨o, ho⟩ : ∃ o, letters t = o := ⟨_, rfl⟩
   have hv := valid_letters t
   have hc : vchk 3 0 t = if o.isSome = true then 0 else 1 := by simp [vchk, hl, hv, ho]
   have HC := Lib.hid hc
   have hL := letters_any t (w.alloc (.cells #[.int .i64 3, .int .i64 0, .string ⟨t.toArray⟩] 26)) (by omega) (hT.below (by go_grown))
   rw [ho] at hL
   have HL := Lib.hid hL
   clear hL ho hv hc
   cases o with
   | none =>
    go_enter Tryz.func24, Tryz.ntmps24
    go_wp2_with (go_at_call 64; go_must (refine (HL.out).mono ?_; rintro e w1 ⟨hb, rfl⟩))
    go_ret
    exact ⟨by rw [HC.out]; rfl, step (by go_grown) hb (by simp)⟩
   | some rs =>
    go_enter Tryz.func24, Tryz.ntmps24
    go_wp2_with (go_at_call 64; go_must (refine (HL.out).mono ?_; rintro e w1 ⟨hb, v, rfl, hown⟩))
    go_ret
    exact ⟨by rw [HC.out]; rfl, step (by go_grown) hb (by simp)⟩
 ·have hc : ¬ (s = 3 ∧ n = 0) := h3
  go_enter Tryz.func24, Tryz.ntmps24
  go_wp2_with fail
  all_goals (go_ret; refine ⟨?_, by go_grown⟩)
  all_goals (first | (simp [vchk, *]; done) | (simp_all [vchk]; done))
set_option maxRecDepth 100000
abbrev evCells (e : Ev) (lv kv : Value) : Array Value := #[.int .i64 e.kind, .int .i64 e.vs, .int .i64 e.vn, .string ⟨e.vt.toArray⟩, .int .i64 e.ty.kind, .int .i64 e.ty.sort, .string ⟨e.ty.name.toArray⟩, lv, kv, .string ⟨e.label.toArray⟩]
abbrev evAgg (e : Ev) (lv kv : Value) : Value := .agg (evCells e lv kv)
structure EvIn (D : Blocks) (w : World) (e : Ev) (lv kv : Value) : Prop where
 l : StrsD D w lv e.ty.labels
 k : TysD D w kv e.ty.kids
theorem EvIn.keep {D D' : Blocks} {w w' : World} {e : Ev} {lv kv : Value} (h : EvIn D w e lv kv) (hs : Same D w w') (hD : ∀ b, D b → b < w.heap.size → D' b) : EvIn D' w' e lv kv := ⟨h.l.keep hs hD, h.k.keep hs hD⟩
theorem EvIn.below {D : Blocks} {w w' : World} {e : Ev} {lv kv : Value} (h : EvIn D w e lv kv) (hb : Below w.heap.size w w') : EvIn D w' e lv kv := h.keep (Same.below hb) fun _ h _ => h
theorem EvIn.ty {D : Blocks} {w : World} {e : Ev} {lv kv : Value} (h : EvIn D w e lv kv) : TyD D w (.agg #[.int .i64 e.ty.kind, .int .i64 e.ty.sort, .string ⟨e.ty.name.toArray⟩, lv, kv]) e.ty := ⟨lv, kv, rfl, h.l, h.k⟩
theorem EvIn.forms {D : Blocks} {w : World} {e : Ev} {lv kv : Value} (h : EvIn D w e lv kv) : ∃ A c A' c', lv = .slice A e.ty.labels.length c ∧ kv = .slice A' e.ty.kids.length c' := by
 obtain ⟨A, c, h1, -⟩ := h.l
 obtain ⟨A', c', h2, -⟩ := h.k
 exact ⟨A, c, A', c', h1, h2⟩
structure EvCells (w : World) (b off : Nat) (e : Ev) (lv kv : Value) : Prop where
 c0 : w.cell? ⟨b, off, none⟩ = some (.int .i64 e.kind)
 c1 : w.cell? ⟨b, off + 1, none⟩ = some (.int .i64 e.vs)
 c2 : w.cell? ⟨b, off + 2, none⟩ = some (.int .i64 e.vn)
 c3 : w.cell? ⟨b, off + 3, none⟩ = some (.string ⟨e.vt.toArray⟩)
 c4 : w.cell? ⟨b, off + 4, none⟩ = some (.int .i64 e.ty.kind)
 c5 : w.cell? ⟨b, off + 5, none⟩ = some (.int .i64 e.ty.sort)
 c6 : w.cell? ⟨b, off + 6, none⟩ = some (.string ⟨e.ty.name.toArray⟩)
 c7 : w.cell? ⟨b, off + 7, none⟩ = some lv
 c8 : w.cell? ⟨b, off + 8, none⟩ = some kv
 c9 : w.cell? ⟨b, off + 9, none⟩ = some (.string ⟨e.label.toArray⟩)
theorem EvCells.lt {w : World} {b off : Nat} {e : Ev} {lv kv : Value} (h : EvCells w b off e lv kv) : b < w.heap.size := cell_lt h.c0
theorem EvCells.same {D : Blocks} {w w' : World} {b off : Nat} {e : Ev} {lv kv : Value} (h : EvCells w b off e lv kv) (hs : Same D w w') (hD : D b) : EvCells w' b off e lv kv :=
 ⟨hs.cell hD h.c0, hs.cell hD h.c1, hs.cell hD h.c2, hs.cell hD h.c3, hs.cell hD h.c4, hs.cell hD h.c5, hs.cell hD h.c6, hs.cell hD h.c7, hs.cell hD h.c8, hs.cell hD h.c9⟩
theorem EvCells.keep {w w' : World} {b off : Nat} {e : Ev} {lv kv : Value} (h : EvCells w b off e lv kv) (hb : Below w.heap.size w w') : EvCells w' b off e lv kv := h.same (D := All) (Same.below hb) trivial
abbrev EvBoxC (w : World) (q : Nat) (e : Ev) (lv kv : Value) : Prop := w.cell? ⟨q, 0, none⟩ = some (.int .i64 e.kind) ∧ w.cell? ⟨q, 1, none⟩ = some (.int .i64 e.vs) ∧ w.cell? ⟨q, 2, none⟩ = some (.int .i64 e.vn) ∧ w.cell? ⟨q, 3, none⟩ = some (.string ⟨e.vt.toArray⟩) ∧ w.cell? ⟨q, 4, none⟩ = some (.int .i64 e.ty.kind) ∧ w.cell? ⟨q, 5, none⟩ = some (.int .i64 e.ty.sort) ∧ w.cell? ⟨q, 6, none⟩ = some (.string ⟨e.ty.name.toArray⟩) ∧ w.cell? ⟨q, 7, none⟩ = some lv ∧ w.cell? ⟨q, 8, none⟩ = some kv ∧ w.cell? ⟨q, 9, none⟩ = some (.string ⟨e.label.toArray⟩)
theorem EvCells.box {w : World} {q : Nat} {e : Ev} {lv kv : Value} (h : EvCells w q 0 e lv kv) : EvBoxC w q e lv kv := by
 obtain ⟨h0, h1, h2, h3, h4, h5, h6, h7, h8, h9⟩ := h
 simp only [Nat.zero_add] at h0 h1 h2 h3 h4 h5 h6 h7 h8 h9
 exact ⟨h0, h1, h2, h3, h4, h5, h6, h7, h8, h9⟩
theorem evCells_new (w : World) (e : Ev) (lv kv : Value) : EvCells (w.alloc (.cells (evCells e lv kv) 32)) w.heap.size 0 e lv kv := by
 constructor <;> simp [go_sem]
def EvV (D : Blocks) (w : World) (v : Value) (e : Ev) : Prop := ∃ lv kv, v = evAgg e lv kv ∧ EvIn D w e lv kv
theorem EvV.below {D : Blocks} {w w' : World} {v : Value} {e : Ev} (h : EvV D w v e) (hb : Below w.heap.size w w') : EvV D w' v e := let ⟨lv, kv, h1, h2⟩ := h; ⟨lv, kv, h1, h2.below hb⟩
structure EvFit (e : Ev) : Prop where
 k1 : -9223372036854775808 ≤ e.kind
 k2 : e.kind ≤ 9223372036854775807
 n1 : -9223372036854775808 ≤ e.vn
 n2 : e.vn ≤ 9223372036854775807
 t : e.vt.length ≤ 1048576
 y : Fit e.ty
 l : e.label.length ≤ 1048576
def EvsD (D : Blocks) (w : World) (v : Value) (l : List Ev) : Prop := ∃ A cap, v = .slice A l.length cap ∧ l.length ≤ cap ∧ (A = none → cap = 0) ∧ (0 < l.length → ∃ b off, A = some ⟨b, off, none⟩ ∧ D b ∧ ∀ i e, l[i]? = some e → ∃ lv kv, EvCells w b (off + i * 10) e lv kv ∧ EvIn D w e lv kv)
theorem EvsD.keep {D D' : Blocks} {w w' : World} {v : Value} {l : List Ev} (h : EvsD D w v l) (hs : Same D w w') (hD : ∀ b, D b → b < w.heap.size → D' b) : EvsD D' w' v l := by
 obtain ⟨A, cap, h1, h2, hz, h3⟩ := h
 refine ⟨A, cap, h1, h2, hz, fun h0 => ?_⟩
 obtain ⟨b, off, e, hd, hr⟩ := h3 h0
 have hl : b < w.heap.size := by
  obtain ⟨lv, kv, hc, -⟩ := hr 0 _ (List.getElem?_eq_getElem h0)
  exact hc.lt
 exact ⟨b, off, e, hD b hd hl, fun i e hi => let ⟨lv, kv, h4, h5⟩ := hr i e hi; ⟨lv, kv, h4.same hs hd, h5.keep hs hD⟩⟩
theorem EvsD.below {D : Blocks} {w w' : World} {v : Value} {l : List Ev} (h : EvsD D w v l) (hb : Below w.heap.size w w') : EvsD D w' v l := h.keep (Same.below hb) fun _ h _ => h
theorem EvsD.at {D : Blocks} {w : World} {A : Option Addr} {n c : Nat} {l : List Ev} (h : EvsD D w (.slice A n c) l) {i : Nat} {e : Ev} (hi : l[i]? = some e) : ∃ b off lv kv, A = some ⟨b, off, none⟩ ∧ D b ∧ EvCells w b (off + i * 10) e lv kv ∧ EvIn D w e lv kv := by
 obtain ⟨A', c', e', _, _, h3⟩ := h
 injection e' with e1 e2 e3
 subst e1
 have hl := (List.getElem?_eq_some_iff.1 hi).1
 obtain ⟨b, off, e', hd, hr⟩ := h3 (by omega)
 obtain ⟨lv, kv, h4, h5⟩ := hr i e hi
 exact ⟨b, off, lv, kv, e', hd, h4, h5⟩
theorem evs_nil (D : Blocks) (w : World) : EvsD D w (.slice Option.none 0 0) [] := ⟨Option.none, 0, rfl, Nat.le_refl _, fun _ => rfl, fun h => by simp at h⟩
set_option maxHeartbeats 4000000 in
theorem wcheck_any (e : Ev) (v : Value) (w : World) (hv : EvV All w v e) (hf : EvFit e) (hT : Tabs w) :
  Calls Tryz.prog 29 #[v] w fun r w' => r = .returned (.int .i64 (wchk (tyErr e.ty) (isName e.label) e)) ∧ Below w.heap.size w w' := by
 obtain ⟨lv, kv, rfl, hin⟩ := hv
 have HIN := Lib.hid hin
 obtain ⟨A1, c1, A2, c2, rfl, rfl⟩ := hin.forms
 obtain ⟨W, hW⟩ : ∃ W, w.alloc (.cells (evCells e (.slice A1 e.ty.labels.length c1) (.slice A2 e.ty.kids.length c2)) 32) = W := ⟨_, rfl⟩
 have HX : Hid (EvCells W w.heap.size 0 e (.slice A1 e.ty.labels.length c1) (.slice A2 e.ty.kids.length c2)) := by subst hW; exact evCells_new w e _ _
 have B0 : Below w.heap.size w W := by subst hW; exact (Below.refl _ _).alloc (Nat.le_refl _) _
 have HW := Lib.hid hW
 obtain ⟨b0, b1, b2, b3, b4, b5, b6, b7, b8, b9⟩ := HX.out.box
 obtain ⟨RES, hR⟩ : ∃ R, wchk (tyErr e.ty) (isName e.label) e = R := ⟨_, rfl⟩
 have HR := Lib.hid hR
 rw [hR]
 have hTW := hT.below B0
 have hty := Lib.hid ((HIN.out.below B0).ty.is)
 have hft := hf.y
 have hflt := hf.t
 have hfll := hf.l
 clear hW hR hin hT HX
 obtain ⟨k, vs, vn, vt, ty, label⟩ := e
 simp only at b0 b1 b2 b3 b4 b5 b6 b7 b8 b9 hty hft hflt hfll
 have HF := Lib.hid hf
 clear hf
 by_cases hk : k = 2 ∨ k = 3 ∨ k = 4 ∨ k = 5 ∨ k = 6 ∨ k = 7
 ·rcases hk with rfl | rfl | rfl | rfl | rfl | rfl
  ·go_enter Tryz.func29, Tryz.ntmps29
   go_wp2_with fail
   try rw [HW.out]
   go_wp2_with fail
   refine (vcheck_any vs vn W vt (by omega) hTW).mono ?_
   rintro r w1 ⟨rfl, hb⟩
   go_wp2_with fail
   go_ret
   exact ⟨by rw [← HR.out]; rfl, chain B0 hb⟩
  ·go_enter Tryz.func29, Tryz.ntmps29
   go_wp2_with fail
   try rw [HW.out]
   go_wp2_with fail
   refine (vcheck_any vs vn W vt (by omega) hTW).mono ?_
   rintro r w1 ⟨rfl, hb⟩
   go_wp2_with fail
   go_ret
   exact ⟨by rw [← HR.out]; rfl, chain B0 hb⟩
  ·go_enter Tryz.func29, Tryz.ntmps29
   go_wp2_with fail
   try rw [HW.out]
   go_wp2_with fail
   refine (Check_any ty _ W hty.out hft).mono ?_
   rintro r w1 ⟨rfl, hb⟩
   go_wp2_with fail
   go_ret
   exact ⟨by rw [← HR.out]; rfl, chain B0 hb⟩
  ·go_enter Tryz.func29, Tryz.ntmps29
   go_wp2_with fail
   try rw [HW.out]
   go_wp2_with fail
   refine (Check_any ty _ W hty.out hft).mono ?_
   rintro r w1 ⟨rfl, hb⟩
   go_wp2_with fail
   go_ret
   exact ⟨by rw [← HR.out]; rfl, chain B0 hb⟩
  ·obtain ⟨N, hN⟩ : ∃ N, isName label = N := ⟨_, rfl⟩
   have HN := Lib.hid hN
   cases N
   all_goals
    go_enter Tryz.func29, Tryz.ntmps29
    go_wp2_with fail
    try rw [HW.out]
    go_wp2_with fail
    refine (isName_any label W (by omega)).mono ?_
    rw [HN.out]
    rintro r w1 ⟨rfl, hb⟩
    go_wp2_with fail
    go_ret
    exact ⟨by rw [← HR.out]; simp only [wchk, HN.out]; simp, chain B0 hb⟩
  ·obtain ⟨N, hN⟩ : ∃ N, isName label = N := ⟨_, rfl⟩
   have HN := Lib.hid hN
   cases N
   all_goals
    go_enter Tryz.func29, Tryz.ntmps29
    go_wp2_with fail
    try rw [HW.out]
    go_wp2_with fail
    refine (isName_any label W (by omega)).mono ?_
    rw [HN.out]
    rintro r w1 ⟨rfl, hb⟩
    go_wp2_with fail
    go_ret
    exact ⟨by rw [← HR.out]; simp only [wchk, HN.out]; simp, chain B0 hb⟩
 ·have z2 : (k == 2) = false := by rw [beq_eq_false_iff_ne]; omega
  have z3 : (k == 3) = false := by rw [beq_eq_false_iff_ne]; omega
  have z4 : (k == 4) = false := by rw [beq_eq_false_iff_ne]; omega
  have z5 : (k == 5) = false := by rw [beq_eq_false_iff_ne]; omega
  have z6 : (k == 6) = false := by rw [beq_eq_false_iff_ne]; omega
  have z7 : (k == 7) = false := by rw [beq_eq_false_iff_ne]; omega
  have hres : RES = 1 := by
   rw [← HR.out]
   unfold wchk
   rw [if_neg (show ¬ (k = 2 ∨ k = 3) by omega), if_neg (show ¬ (k = 4 ∨ k = 5) by omega), if_neg (fun h : (k = 6 ∨ k = 7) ∧ _ => by omega)]
  subst hres
  clear hk HR
  go_enter Tryz.func29, Tryz.ntmps29
  go_wp2_with fail
  try rw [HW.out]
  go_wp2_with fail
  go_ret
  exact ⟨rfl, B0⟩
set_option maxHeartbeats 4000000 in
theorem wireEvent_any (e : Ev) (v : Value) (w : World) (hv : EvV All w v e) (hf : EvFit e) (hT : Tabs w) :
  Calls Tryz.prog 6 #[v] w fun r w' => r = .returned (.int .i64 (wchk (tyErr e.ty) (isName e.label) e)) ∧ Below w.heap.size w w' := by
 obtain ⟨lv, kv, rfl, hin⟩ := hv
 have HIN := Lib.hid hin
 obtain ⟨A1, c1, A2, c2, rfl, rfl⟩ := hin.forms
 obtain ⟨W, hW⟩ : ∃ W, w.alloc (.cells (evCells e (.slice A1 e.ty.labels.length c1) (.slice A2 e.ty.kids.length c2)) 32) = W := ⟨_, rfl⟩
 have HX : Hid (EvCells W w.heap.size 0 e (.slice A1 e.ty.labels.length c1) (.slice A2 e.ty.kids.length c2)) := by subst hW; exact evCells_new w e _ _
 have B0 : Below w.heap.size w W := by subst hW; exact (Below.refl _ _).alloc (Nat.le_refl _) _
 have HW := Lib.hid hW
 obtain ⟨b0, b1, b2, b3, b4, b5, b6, b7, b8, b9⟩ := HX.out.box
 obtain ⟨RES, hR⟩ : ∃ R, wchk (tyErr e.ty) (isName e.label) e = R := ⟨_, rfl⟩
 have HR := Lib.hid hR
 rw [hR]
 have hTW := hT.below B0
 have hty := Lib.hid ((HIN.out.below B0).ty.is)
 have hft := hf.y
 have hflt := hf.t
 have hfll := hf.l
 clear hW hR hin hT HX
 obtain ⟨k, vs, vn, vt, ty, label⟩ := e
 simp only at b0 b1 b2 b3 b4 b5 b6 b7 b8 b9 hty hft hflt hfll
 have HF := Lib.hid hf
 clear hf
 by_cases hk : k = 2 ∨ k = 3 ∨ k = 4 ∨ k = 5 ∨ k = 6 ∨ k = 7
 ·rcases hk with rfl | rfl | rfl | rfl | rfl | rfl
  ·go_enter Tryz.func6, Tryz.ntmps6
   go_wp2_with fail
   try rw [HW.out]
   go_wp2_with fail
   refine (refValue_any vs vn W vt (by omega) hTW).mono ?_
   rintro r w1 ⟨rfl, hb⟩
   go_wp2_with fail
   go_ret
   exact ⟨by rw [← HR.out]; rfl, chain B0 hb⟩
  ·go_enter Tryz.func6, Tryz.ntmps6
   go_wp2_with fail
   try rw [HW.out]
   go_wp2_with fail
   refine (refValue_any vs vn W vt (by omega) hTW).mono ?_
   rintro r w1 ⟨rfl, hb⟩
   go_wp2_with fail
   go_ret
   exact ⟨by rw [← HR.out]; rfl, chain B0 hb⟩
  ·go_enter Tryz.func6, Tryz.ntmps6
   go_wp2_with fail
   try rw [HW.out]
   go_wp2_with fail
   refine (refType_any ty _ W hty.out hft).mono ?_
   rintro r w1 ⟨rfl, hb⟩
   go_wp2_with fail
   go_ret
   exact ⟨by rw [← HR.out]; rfl, chain B0 hb⟩
  ·go_enter Tryz.func6, Tryz.ntmps6
   go_wp2_with fail
   try rw [HW.out]
   go_wp2_with fail
   refine (refType_any ty _ W hty.out hft).mono ?_
   rintro r w1 ⟨rfl, hb⟩
   go_wp2_with fail
   go_ret
   exact ⟨by rw [← HR.out]; rfl, chain B0 hb⟩
  ·obtain ⟨N, hN⟩ : ∃ N, isName label = N := ⟨_, rfl⟩
   have HN := Lib.hid hN
   cases N
   all_goals
    go_enter Tryz.func6, Tryz.ntmps6
    go_wp2_with fail
    try rw [HW.out]
    go_wp2_with fail
    refine (refIsName_any label W (by omega)).mono ?_
    rw [HN.out]
    rintro r w1 ⟨rfl, hb⟩
    go_wp2_with fail
    go_ret
    exact ⟨by rw [← HR.out]; simp only [wchk, HN.out]; simp, chain B0 hb⟩
  ·obtain ⟨N, hN⟩ : ∃ N, isName label = N := ⟨_, rfl⟩
   have HN := Lib.hid hN
   cases N
   all_goals
    go_enter Tryz.func6, Tryz.ntmps6
    go_wp2_with fail
    try rw [HW.out]
    go_wp2_with fail
    refine (refIsName_any label W (by omega)).mono ?_
    rw [HN.out]
    rintro r w1 ⟨rfl, hb⟩
    go_wp2_with fail
    go_ret
    exact ⟨by rw [← HR.out]; simp only [wchk, HN.out]; simp, chain B0 hb⟩
 ·have z2 : (k == 2) = false := by rw [beq_eq_false_iff_ne]; omega
  have z3 : (k == 3) = false := by rw [beq_eq_false_iff_ne]; omega
  have z4 : (k == 4) = false := by rw [beq_eq_false_iff_ne]; omega
  have z5 : (k == 5) = false := by rw [beq_eq_false_iff_ne]; omega
  have z6 : (k == 6) = false := by rw [beq_eq_false_iff_ne]; omega
  have z7 : (k == 7) = false := by rw [beq_eq_false_iff_ne]; omega
  have hres : RES = 1 := by
   rw [← HR.out]
   unfold wchk
   rw [if_neg (show ¬ (k = 2 ∨ k = 3) by omega), if_neg (show ¬ (k = 4 ∨ k = 5) by omega), if_neg (fun h : (k = 6 ∨ k = 7) ∧ _ => by omega)]
  subst hres
  clear hk HR
  go_enter Tryz.func6, Tryz.ntmps6
  go_wp2_with fail
  try rw [HW.out]
  go_wp2_with fail
  go_ret
  exact ⟨rfl, B0⟩
set_option maxRecDepth 100000
set_option maxHeartbeats 1000000 in
theorem wtext_any (base : Nat) (v : Value) (out s : Str) (w : World) (hown : ByteRow w base v out) (hs : s.length ≤ 1048576) (hl : out.length ≤ 100000000) (hb : base ≤ w.heap.size) :
  Calls Tryz.prog 30 #[v, .string ⟨s.toArray⟩] w fun e w' => (∃ v', e = .returned v' ∧ ByteRow w' base v' (out ++ gtext s)) ∧ Below base w w' := by
 obtain ⟨i0, hi, hz0, hz1, hz2⟩ := info_parts (show (Tryz.prog.info? 5).map (fun i => (i.zero, i.size, i.bytes)) = some (some (.int .u8 0), 1, 1) by kernel_rfl)
 have hgl := gnum_len10 (show s.length < 18446744073709551616 by omega)
 have hnum := Lib.hid (wnumber_any base v out s.length w hown (by omega) hl hb)
 have hss : (⟨s.toArray⟩ : ByteArray).size = s.length := by simp [ByteArray.size]
 obtain ⟨R, hR⟩ : ∃ R, out ++ gnum s.length = R := ⟨_, rfl⟩
 have hRl : R.length ≤ 100000010 := by rw [← hR, List.length_append]; omega
 rw [hR] at hnum
 have HR := Lib.hid hR
 clear hown hR hgl
 have HSS := Lib.hid hss
 clear hss
 go_enter Tryz.func30, Tryz.ntmps30
 go_wp2_with fail
 refine hnum.out.mono ?_
 rintro e w1 ⟨⟨v1, rfl, hown⟩, hb1⟩
 obtain ⟨A3, c3, rfl⟩ := own_form hown
 go_wp2_with (at_builtin; refine Lib.wpList_append_own_string _ rfl (.tmp 9) (.tmp 10) 62 9 rfl base 5 i0 Tryz.underlying62 Tryz.underlying9 hi hz0 hz1 hz2 _ _ _ rfl hown ⟨s.toArray⟩ rfl ?c3 ?c4 ?c5 ?_)
 case c3 => rw [HSS.out]; unfold maxLen; omega
 case c4 => rw [HSS.out]; omega
 case c5 => have := hb1.size; omega
 intro v2 w2 o1 o2 _
 have hsz : base ≤ w1.heap.size := Nat.le_trans hb hb1.size
 have hfin : ByteRow w2 base v2 (out ++ gtext s) := by
  have e1 : Lib.strCells ⟨s.toArray⟩ = Lib.byteCells s := by simp [Lib.byteCells, Lib.strCells]
  rw [e1] at o1
  have := byteRow_app o1
  rw [← HR.out, List.append_assoc] at this
  exact this
 have hbf : Below base w w2 := hb1.trans ((Below.refl base w1).grown o2 hsz (fun k hk => (hown.lt k hk).1))
 clear o1 o2 hown
 go_wp2_with fail
 go_ret
 exact ⟨⟨v2, rfl, hfin⟩, hbf⟩
theorem u64_i64 (z : Nat) (h : z < 18446744073709551616) : IntKind.u64.wrap (IntKind.i64.wrap (z : Int)) = (z : Int) := by
 have e1 : IntKind.i64.wrap (z : Int) = if (9223372036854775808 : Int) ≤ (z : Int) % 18446744073709551616 then (z : Int) % 18446744073709551616 - 18446744073709551616 else (z : Int) % 18446744073709551616 := by
  simp [IntKind.wrap, IntKind.signed, IntKind.bits]
 have e2 : ∀ x : Int, IntKind.u64.wrap x = x % 18446744073709551616 := fun x => by simp [IntKind.wrap, IntKind.signed, IntKind.bits]
 rw [e2, e1]
 split <;> omega
theorem zig_lt {n : Int} (h1 : -9223372036854775808 ≤ n) (h2 : n ≤ 9223372036854775807) : zig n < 18446744073709551616 := by
 unfold zig
 split <;> omega
theorem ofInt_toNat (x : Int) : (BitVec.ofInt 64 x).toNat = (x % 18446744073709551616).toNat := by
 rw [BitVec.toNat_ofInt]
 rfl
theorem zig_bits (n : Int) (h1 : -9223372036854775808 ≤ n) (h2 : n ≤ 9223372036854775807) (X : Int) (hX : X % 18446744073709551616 = (2 * n) % 18446744073709551616) (Y : Int) (hY : Y = if 0 ≤ n then 0 else -1) :
  IntKind.u64.wrap (bits .xor .i64 X Y) = ((zig n : Nat) : Int) := by
 show IntKind.u64.wrap (IntKind.i64.wrap (((BitVec.ofInt 64 X) ^^^ (BitVec.ofInt 64 Y)).toNat : Int)) = _
 rw [u64_i64 _ (BitVec.isLt _)]
 congr 1
 have hx : (BitVec.ofInt 64 X).toNat = ((2 * n) % 18446744073709551616).toNat := by rw [ofInt_toNat, hX]
 by_cases h0 : 0 ≤ n
 ·rw [if_pos h0] at hY
  subst hY
  have e : (BitVec.ofInt 64 X) ^^^ (BitVec.ofInt 64 0) = BitVec.ofInt 64 X := by simp
  rw [e, hx]
  unfold zig
  rw [if_pos h0]
  omega
 ·rw [if_neg h0] at hY
  subst hY
  have e : (BitVec.ofInt 64 X) ^^^ (BitVec.ofInt 64 (-1)) = ~~~ (BitVec.ofInt 64 X) := by
   rw [show BitVec.ofInt 64 (-1) = BitVec.allOnes 64 by decide, BitVec.xor_allOnes]
  rw [e, BitVec.toNat_not, hx]
  unfold zig
  rw [if_neg h0]
  omega
end Go.Proofs.YtpidjanngbaiiaaGreatDoor
namespace Go.Proofs.YtpidjanngbaiiaaGreatDoor
open Go.RowKit Go.Proofs

def lowb (b : UInt8) : Bool := decide (97 ≤ b.toNat) && decide (b.toNat ≤ 122)
def sk (l : Str) (p : Nat) : Nat := p + ((l.drop p).takeWhile (· == 32)).length
def wd (l : Str) (p : Nat) : Str := (l.drop p).takeWhile lowb
inductive Rd (α : Type) where
 | ok (a : α) (p : Nat)
 | bad (p : Nat)
def Rd.seq {α β : Type} (r : Rd α) (f : α → Nat → Rd β) : Rd β := match r with
 | .ok a p => f a p
 | .bad q => .bad q
theorem Rd.seq_ok {α β : Type} (a : α) (p : Nat) (f : α → Nat → Rd β) : (Rd.ok a p).seq f = f a p := rfl
theorem Rd.seq_bad {α β : Type} (q : Nat) (f : α → Nat → Rd β) : (Rd.bad q : Rd α).seq f = .bad q := rfl
def rdSign (l : Str) (c : UInt8) (p : Nat) : Rd Unit := if l[sk l p]? = some c then .ok () (sk l p + 1) else .bad (sk l p)
def sortIx (w : Str) : Int := if w = [105, 110, 116] then 1 else if w = [98, 111, 111, 108] then 2 else if w = [116, 101, 120, 116] then 3 else 0
def labelOk (ls : List Str) (w : Str) : Bool := isName w && decide (ls.length < 6) && behind ls.getLast? w

def rdPassed (l : Str) (f : Nat → Rd Ty) (add : Int) (p : Nat) : Rd Ty :=
 if l[sk l p]? = some 123 then
  (f (sk l p + 1)).seq fun t p1 => (rdSign l 125 p1).seq fun _ p2 => (rdSign l 46 p2).seq fun _ p3 => (f p3).seq fun u p4 => .ok (.mk (4 + add) 0 [] [] [t, u]) p4
 else if sortIx (wd l (sk l p)) = 0 then .bad (sk l p)
 else (rdSign l 46 (sk l p + (wd l (sk l p)).length)).seq fun _ p2 => (f p2).seq fun t p3 => .ok (.mk (2 + add) (sortIx (wd l (sk l p))) [] [] [t]) p3
def rdChoice (l : Str) (f : Nat → Rd Ty) : Nat → Nat → List Str → List Ty → Rd (List Str × List Ty)
 | 0, p, _, _ => .bad p
 | m + 1, p, ls, ks =>
  if labelOk ls (wd l (sk l p)) = false then .bad (sk l p)
  else (rdSign l 58 (sk l p + (wd l (sk l p)).length)).seq fun _ p2 => (f p2).seq fun t p3 =>
   if l[sk l p3]? = some 125 then .ok (ls ++ [wd l (sk l p)], ks ++ [t]) (sk l p3 + 1)
   else if l[sk l p3]? = some 44 then rdChoice l f m (sk l p3 + 1) (ls ++ [wd l (sk l p)]) (ks ++ [t])
   else .bad (sk l p3)
def endW : Str := [101, 110, 100]
def recW : Str := [114, 101, 99]
def rdOne (l : Str) : Nat → Nat → Rd Ty
 | 0, p => .bad p
 | n + 1, p =>
  if wd l (sk l p) = endW then .ok (.mk 1 0 [] [] []) (sk l p + 3)
  else if wd l (sk l p) = recW then
   if isVar (wd l (sk l (sk l p + 3))) = false then .bad (sk l (sk l p + 3))
   else (rdSign l 46 (sk l (sk l p + 3) + (wd l (sk l (sk l p + 3))).length)).seq fun _ p2 => (rdOne l n p2).seq fun t p3 => .ok (.mk 8 0 (wd l (sk l (sk l p + 3))) [] [t]) p3
  else if isVar (wd l (sk l p)) = true then .ok (.mk 9 0 (wd l (sk l p)) [] []) (sk l p + (wd l (sk l p)).length)
  else if wd l (sk l p) ≠ [] then .bad (sk l p)
  else if l[sk l p]? = some 33 then rdPassed l (rdOne l n) 0 (sk l p + 1)
  else if l[sk l p]? = some 63 then rdPassed l (rdOne l n) 1 (sk l p + 1)
  else if l[sk l p]? = some 43 then (rdSign l 123 (sk l p + 1)).seq fun _ p2 => (rdChoice l (rdOne l n) 7 p2 [] []).seq fun x p3 => .ok (.mk 6 0 [] x.1 x.2) p3
  else if l[sk l p]? = some 38 then (rdSign l 123 (sk l p + 1)).seq fun _ p2 => (rdChoice l (rdOne l n) 7 p2 [] []).seq fun x p3 => .ok (.mk 7 0 [] x.1 x.2) p3
  else .bad (sk l p)

structure St where
 p : Nat
 bad : Option Nat
def pk (l : Str) (q : Nat) : Str := if wd l q = [] then (l.drop q).take 1 else wd l q
def must (l : Str) (right : Str → Bool) (s : St) : Str × St := match s.bad with
 | some b => ([], ⟨sk l s.p, some b⟩)
 | none => if pk l (sk l s.p) = [] ∨ right (pk l (sk l s.p)) = false then ([], ⟨sk l s.p, some (sk l s.p)⟩) else (pk l (sk l s.p), ⟨sk l s.p + (pk l (sk l s.p)).length, none⟩)
def isW (c : Str) (w : Str) : Bool := decide (w = c)
def loopF (l : Str) (F : St → Ty × St) : Nat → St → List Str → List Ty → List Str × List Ty × St
 | 0, s, ls, ks => (ls, ks, ⟨s.p, some (s.bad.getD s.p)⟩)
 | m + 1, s, ls, ks => match s.bad with
  | some b => (ls, ks, ⟨s.p, some b⟩)
  | none =>
   let a := must l (labelOk ls) s
   let b := must l (isW [58]) a.2
   let c := F b.2
   let d := must l (fun w => isW [125] w || isW [44] w) c.2
   if d.1 = [44] then loopF l F m d.2 (ls ++ [a.1]) (ks ++ [c.1]) else (ls ++ [a.1], ks ++ [c.1], d.2)
def zeroTy : Ty := .mk 0 0 [] [] []
def startOk (w : Str) : Bool := isW endW w || isW recW w || isVar w || isW [33] w || isW [63] w || isW [43] w || isW [38] w
def scanPassed (l : Str) (F : St → Ty × St) (add : Int) (s : St) : Ty × St :=
 if pk l (sk l s.p) = [123] then
  let a := F ⟨sk l s.p + 1, s.bad⟩
  let b := must l (isW [125]) a.2
  let c := must l (isW [46]) b.2
  let d := F c.2
  (.mk (4 + add) 0 [] [] [a.1, d.1], d.2)
 else
  let a := must l (fun w => decide (0 < sortIx w)) ⟨sk l s.p, s.bad⟩
  let b := must l (isW [46]) a.2
  let c := F b.2
  (.mk (2 + add) (sortIx a.1) [] [] [c.1], c.2)
def scanF (l : Str) : Nat → St → Ty × St
 | 0, s => (zeroTy, ⟨s.p, some (s.bad.getD s.p)⟩)
 | n + 1, s => match s.bad with
  | some b => (zeroTy, ⟨s.p, some b⟩)
  | none =>
   let a := must l startOk s
   if a.1 = endW then (.mk 1 0 [] [] [], a.2)
   else if a.1 = recW then
    let b := must l isVar a.2
    let c := must l (isW [46]) b.2
    let d := scanF l n c.2
    (.mk 8 0 b.1 [] [d.1], d.2)
   else if a.1 = [33] then scanPassed l (scanF l n) 0 a.2
   else if a.1 = [63] then scanPassed l (scanF l n) 1 a.2
   else if a.1 = [43] then
    let b := must l (isW [123]) a.2
    let c := loopF l (scanF l n) 7 b.2 [] []
    (.mk 6 0 [] c.1 c.2.1, c.2.2)
   else if a.1 = [38] then
    let b := must l (isW [123]) a.2
    let c := loopF l (scanF l n) 7 b.2 [] []
    (.mk 7 0 [] c.1 c.2.1, c.2.2)
   else (.mk 9 0 a.1 [] [], a.2)

theorem tw_len (p : UInt8 → Bool) (l : Str) : (l.takeWhile p).length ≤ l.length := (List.takeWhile_sublist p).length_le
theorem sk_le {l : Str} {p : Nat} (h : p ≤ l.length) : p ≤ sk l p ∧ sk l p ≤ l.length := by
 unfold sk
 have h1 := tw_len (· == (32 : UInt8)) (l.drop p)
 rw [List.length_drop] at h1
 omega
theorem wd_le {l : Str} {q : Nat} (h : q ≤ l.length) : q + (wd l q).length ≤ l.length := by
 unfold wd
 have h1 := tw_len lowb (l.drop q)
 rw [List.length_drop] at h1
 omega
theorem tw_skip (p : UInt8 → Bool) : ∀ l : Str, (l.drop (l.takeWhile p).length).takeWhile p = [] := by
 intro l
 induction l with
 | nil => rfl
 | cons x l ih =>
  by_cases h : p x = true
  ·simp [List.takeWhile_cons, h, ih]
  ·simp [List.takeWhile_cons, h]
theorem sk_sk (l : Str) (p : Nat) : sk l (sk l p) = sk l p := by
 have h : l.drop (sk l p) = (l.drop p).drop ((l.drop p).takeWhile (· == 32)).length := by rw [List.drop_drop]; rfl
 have h2 : sk l (sk l p) = sk l p + ((l.drop (sk l p)).takeWhile (· == 32)).length := rfl
 rw [h2, h, tw_skip]
 rfl
theorem drop_at {l : Str} {q : Nat} {x : UInt8} (h : l[q]? = some x) : l.drop q = x :: l.drop (q + 1) := by
 obtain ⟨h1, h2⟩ := List.getElem?_eq_some_iff.1 h
 rw [List.drop_eq_getElem_cons h1, h2]
theorem drop_no {l : Str} {q : Nat} (h : l[q]? = none) : l.drop q = [] := List.drop_eq_nil_of_le (by simpa using h)
theorem at_lt {l : Str} {q : Nat} {x : UInt8} (h : l[q]? = some x) : q < l.length := (List.getElem?_eq_some_iff.1 h).1
theorem pk_case (l : Str) (q : Nat) : (l[q]? = none ∧ wd l q = [] ∧ pk l q = []) ∨ (∃ x, l[q]? = some x ∧ lowb x = true ∧ wd l q ≠ [] ∧ (wd l q).head? = some x ∧ pk l q = wd l q) ∨ ∃ x, l[q]? = some x ∧ lowb x = false ∧ wd l q = [] ∧ pk l q = [x] := by
 cases h : l[q]? with
 | none => left; simp [wd, pk, drop_no h]
 | some x =>
  right
  cases hx : lowb x with
  | true =>
   left
   have hw : wd l q = x :: (l.drop (q + 1)).takeWhile lowb := by simp [wd, drop_at h, List.takeWhile_cons, hx]
   exact ⟨x, rfl, hx, by rw [hw]; simp, by rw [hw]; rfl, by simp [pk, hw]⟩
  | false =>
   right
   have hw : wd l q = [] := by simp [wd, drop_at h, List.takeWhile_cons, hx]
   exact ⟨x, rfl, hx, hw, by simp [pk, hw, drop_at h]⟩
theorem must_bad (l : Str) (right : Str → Bool) (p b : Nat) : must l right ⟨p, some b⟩ = ([], ⟨sk l p, some b⟩) := rfl
theorem must_sign (l : Str) (c : UInt8) (hc : lowb c = false) (p : Nat) : must l (isW [c]) ⟨p, none⟩ = if l[sk l p]? = some c then ([c], ⟨sk l p + 1, none⟩) else ([], ⟨sk l p, some (sk l p)⟩) := by
 unfold must
 simp only
 rcases pk_case l (sk l p) with ⟨h1, _, h3⟩ | ⟨x, h1, h2, h3, h4, h5⟩ | ⟨x, h1, h2, _, h4⟩
 ·simp [h1, h3]
 ·have hne : x ≠ c := by rintro rfl; rw [hc] at h2; cases h2
  have hw : wd l (sk l p) ≠ [c] := by intro e; rw [e] at h4; simp at h4; exact hne h4.symm
  simp [h1, h5, isW, hne, hw]
 ·by_cases hxc : x = c
  ·subst hxc; simp [h1, h4, isW]
  ·simp [h1, h4, isW, hxc]
theorem must_word (l : Str) (right : Str → Bool) (hr : ∀ w, right w = true → w ≠ [] ∧ low w = true) (p : Nat) :
  must l right ⟨p, none⟩ = if right (wd l (sk l p)) = true then (wd l (sk l p), ⟨sk l p + (wd l (sk l p)).length, none⟩) else ([], ⟨sk l p, some (sk l p)⟩) := by
 unfold must
 simp only
 have h0 : right [] = false := by
  cases h : right [] with
  | false => rfl
  | true => exact absurd rfl (hr _ h).1
 rcases pk_case l (sk l p) with ⟨_, h2, h3⟩ | ⟨x, h1, h2, h3, h4, h5⟩ | ⟨x, h1, h2, h3, h4⟩
 ·simp [h2, h3, h0]
 ·cases hw : right (wd l (sk l p)) <;> simp [h5, h3, hw]
 ·have hx : right [x] = false := by
   cases h : right [x] with
   | false => rfl
   | true =>
    have := (hr _ h).2
    simp only [low, List.all_cons, List.all_nil, Bool.and_true] at this
    rw [lowb, this] at h2
    cases h2
  simp [h3, h4, h0, hx]
theorem isVar_low {w : Str} (h : isVar w = true) : w ≠ [] ∧ low w = true := by
 simp only [isVar, isName, small, Bool.and_eq_true, decide_eq_true_eq] at h
 exact ⟨by intro e; rw [e] at h; simp at h, h.1.1.1.1⟩
theorem isName_low {w : Str} (h : isName w = true) : w ≠ [] ∧ low w = true := by
 simp only [isName, small, Bool.and_eq_true, decide_eq_true_eq] at h
 exact ⟨by intro e; rw [e] at h; simp at h, h.1.1.1⟩
theorem sortIx_low {w : Str} (h : sortIx w ≠ 0) : w ≠ [] ∧ low w = true := by
 unfold sortIx at h
 split at h
 ·subst_vars; decide
 split at h
 ·subst_vars; decide
 split at h
 ·subst_vars; decide
 ·exact absurd rfl h
theorem sortIx_nonneg (w : Str) : 0 ≤ sortIx w ∧ sortIx w ≤ 3 := by
 unfold sortIx
 repeat' split
 all_goals decide
theorem labelOk_low {ls : List Str} {w : Str} (h : labelOk ls w = true) : w ≠ [] ∧ low w = true := by
 simp only [labelOk, Bool.and_eq_true] at h
 exact isName_low h.1.1

def Agrees {α : Type} (r : Rd α) (x : α × St) : Prop := match r with
 | .ok a p => x = (a, ⟨p, none⟩)
 | .bad q => x.2.bad = some q
theorem scanF_bad (l : Str) (n p b : Nat) : scanF l n ⟨p, some b⟩ = (zeroTy, ⟨p, some b⟩) := by cases n <;> rfl
theorem loopF_bad (l : Str) (F : St → Ty × St) (m p b : Nat) (ls : List Str) (ks : List Ty) : loopF l F m ⟨p, some b⟩ ls ks = (ls, ks, ⟨p, some b⟩) := by cases m <;> rfl

def Took (l : Str) {α : Type} (p : Nat) (r : Rd α) : Prop := match r with
 | .ok _ q => p ≤ q ∧ q ≤ l.length
 | .bad q => p ≤ q ∧ q ≤ l.length
def Has {α : Type} (P : α → Prop) (r : Rd α) : Prop := match r with
 | .ok a _ => P a
 | .bad _ => True
section
variable {l : Str} {f : Nat → Rd Ty} {F : St → Ty × St}
theorem Took.mono {α : Type} {p p' : Nat} {r : Rd α} (h : Took l p r) (hp : p' ≤ p) : Took l p' r := by
 cases r with
 | ok a q => exact ⟨Nat.le_trans hp h.1, h.2⟩
 | bad q => exact ⟨Nat.le_trans hp h.1, h.2⟩
theorem rdSign_took (c : UInt8) {p : Nat} (hp : p ≤ l.length) : Took l p (rdSign l c p) := by
 unfold rdSign
 have h1 := sk_le hp
 split
 ·rename_i h
  have := at_lt h
  exact ⟨by omega, by omega⟩
 ·exact h1
theorem Took.seq {α β : Type} {p : Nat} {r : Rd α} {g : α → Nat → Rd β} (h : Took l p r) (hg : ∀ a q, p ≤ q → q ≤ l.length → Took l q (g a q)) : Took l p (r.seq g) := by
 cases r with
 | ok a q => exact (hg a q h.1 h.2).mono h.1
 | bad q => exact h
theorem Has.seq {α β : Type} {P : α → Prop} {Q : β → Prop} {r : Rd α} {g : α → Nat → Rd β} (h : Has P r) (hg : ∀ a q, P a → Has Q (g a q)) : Has Q (r.seq g) := by
 cases r with
 | ok a q => exact hg a q h
 | bad q => trivial
theorem Has.any {α : Type} (r : Rd α) : Has (fun _ => True) r := by cases r <;> trivial

theorem rdPassed_took (hf : ∀ p, p ≤ l.length → Took l p (f p)) (add : Int) {p : Nat} (hp : p ≤ l.length) : Took l p (rdPassed l f add p) := by
 unfold rdPassed
 have h1 := sk_le hp
 split
 ·rename_i h
  have h2 := at_lt h
  refine (((hf _ (by omega)).mono (p' := sk l p) (by omega)).seq fun t p1 _ k1 => ?_).mono h1.1
  exact (rdSign_took 125 k1).seq fun _ p2 _ k2 => (rdSign_took 46 k2).seq fun _ p3 _ k3 => (hf p3 k3).seq fun u p4 _ k4 => ⟨Nat.le_refl _, k4⟩
 ·split
  ·exact h1
  ·have h3 := wd_le h1.2
   refine (((rdSign_took 46 h3).seq fun _ p2 _ k2 => (hf p2 k2).seq fun t p3 _ k3 => ?_)).mono (by omega)
   exact ⟨Nat.le_refl _, k3⟩
theorem rdChoice_took (hf : ∀ p, p ≤ l.length → Took l p (f p)) : ∀ (m p : Nat) (ls : List Str) (ks : List Ty), p ≤ l.length → Took l p (rdChoice l f m p ls ks) := by
 intro m
 induction m with
 | zero => intro p ls ks hp; exact ⟨Nat.le_refl _, hp⟩
 | succ m ih =>
  intro p ls ks hp
  have h1 := sk_le hp
  have h3 := wd_le h1.2
  unfold rdChoice
  split
  ·exact h1
  ·refine (((rdSign_took 58 h3).seq fun _ p2 _ k2 => (hf p2 k2).seq fun t p3 _ k3 => ?_)).mono (by omega)
   have h4 := sk_le k3
   split
   ·rename_i h; have := at_lt h; exact ⟨by omega, by omega⟩
   split
   ·rename_i h; have := at_lt h
    exact (ih _ _ _ (by omega)).mono (by omega)
   ·exact h4
theorem rdOne_took : ∀ (n p : Nat), p ≤ l.length → Took l p (rdOne l n p) := by
 intro n
 induction n with
 | zero => intro p hp; exact ⟨Nat.le_refl _, hp⟩
 | succ n ih =>
  intro p hp
  have h1 := sk_le hp
  have h3 := wd_le h1.2
  unfold rdOne
  split
  ·rename_i h; rw [h] at h3; simp [endW] at h3; exact ⟨by omega, h3⟩
  split
  ·rename_i h; rw [h] at h3; simp [recW] at h3
   have h4 := sk_le h3
   have h5 := wd_le h4.2
   split
   ·exact ⟨by omega, h4.2⟩
   ·refine (((rdSign_took 46 h5).seq fun _ p2 _ k2 => (ih p2 k2).seq fun t p3 _ k3 => ?_)).mono (by omega)
    exact ⟨Nat.le_refl _, k3⟩
  split
  ·exact ⟨by omega, h3⟩
  split
  ·exact h1
  split
  ·rename_i h; have := at_lt h; exact (rdPassed_took ih 0 (by omega)).mono (by omega)
  split
  ·rename_i h; have := at_lt h; exact (rdPassed_took ih 1 (by omega)).mono (by omega)
  split
  ·rename_i h; have := at_lt h
   refine ((rdSign_took 123 (p := sk l p + 1) (by omega)).seq fun _ p2 _ k2 => ((rdChoice_took ih 7 p2 [] [] k2).seq fun x p3 _ k3 => ?_)).mono (by omega)
   exact ⟨Nat.le_refl _, k3⟩
  split
  ·rename_i h; have := at_lt h
   refine ((rdSign_took 123 (p := sk l p + 1) (by omega)).seq fun _ p2 _ k2 => ((rdChoice_took ih 7 p2 [] [] k2).seq fun x p3 _ k3 => ?_)).mono (by omega)
   exact ⟨Nat.le_refl _, k3⟩
  ·exact h1

theorem wd_len (l : Str) (q : Nat) : (wd l q).length ≤ l.length := by
 unfold wd
 have h1 := tw_len lowb (l.drop q)
 rw [List.length_drop] at h1
 omega
theorem fit_of (hl : l.length ≤ maxLen) (k s : Int) (hk : 0 ≤ k ∧ k ≤ 9) (hs : 0 ≤ s ∧ s ≤ 3) (n : Str) (hn : n.length ≤ l.length) (ls : List Str) (h1 : ls.length ≤ 7) (h2 : ∀ x ∈ ls, x.length ≤ l.length) (ks : List Ty) (h3 : ks.length ≤ 7) (h4 : ∀ t ∈ ks, Fit t) : Fit (.mk k s n ls ks) := by
 have h7 : 7 ≤ maxLen := by decide
 refine .mk k s n ls ks ?_ ?_ (by omega) (by omega) (fun x hx => Nat.le_trans (h2 x hx) hl) (by omega) h4
 ·simp only [Lit.wf, Bool.and_eq_true, decide_eq_true_eq]
  have hmin : IntKind.i64.min = -9223372036854775808 := rfl
  have hmax : IntKind.i64.max = 9223372036854775807 := rfl
  omega
 ·simp only [Lit.wf, Bool.and_eq_true, decide_eq_true_eq]
  have hmin : IntKind.i64.min = -9223372036854775808 := rfl
  have hmax : IntKind.i64.max = 9223372036854775807 := rfl
  omega
theorem rdPassed_fit (hl : l.length ≤ maxLen) (hf : ∀ p, Has Fit (f p)) (add : Int) (ha : 0 ≤ add ∧ add ≤ 1) (p : Nat) : Has Fit (rdPassed l f add p) := by
 unfold rdPassed
 split
 ·refine (hf _).seq fun t p1 ht => (Has.any _).seq fun _ p2 _ => (Has.any _).seq fun _ p3 _ => (hf p3).seq fun u p4 hu => ?_
  exact fit_of hl _ _ (by omega) (by omega) _ (by simp) _ (by simp) (by simp) _ (by simp) (by simp; exact ⟨ht, hu⟩)
 ·split
  ·trivial
  ·refine (Has.any _).seq fun _ p2 _ => (hf p2).seq fun t p3 ht => ?_
   exact fit_of hl _ _ (by omega) (sortIx_nonneg _) _ (by simp) _ (by simp) (by simp) _ (by simp) (by simp; exact ht)
theorem rdChoice_fit (hf : ∀ p, Has Fit (f p)) : ∀ (m p : Nat) (ls : List Str) (ks : List Ty), ls.length + m = 7 → ks.length = ls.length → (∀ x ∈ ls, x.length ≤ l.length) → (∀ t ∈ ks, Fit t) →
  Has (fun x => x.1.length ≤ 7 ∧ x.2.length = x.1.length ∧ (∀ y ∈ x.1, y.length ≤ l.length) ∧ ∀ t ∈ x.2, Fit t) (rdChoice l f m p ls ks) := by
 intro m
 induction m with
 | zero => intro p ls ks _ _ _ _; trivial
 | succ m ih =>
  intro p ls ks h1 h2 h3 h4
  unfold rdChoice
  split
  ·trivial
  ·refine (Has.any _).seq fun _ p2 _ => (hf p2).seq fun t p3 ht => ?_
   have e3 : ∀ x ∈ ls ++ [wd l (sk l p)], x.length ≤ l.length := by
    intro x hx
    rcases List.mem_append.1 hx with hx | hx
    ·exact h3 x hx
    ·rw [List.mem_singleton.1 hx]; exact wd_len _ _
   have e4 : ∀ x ∈ ks ++ [t], Fit x := by
    intro x hx
    rcases List.mem_append.1 hx with hx | hx
    ·exact h4 x hx
    ·rw [List.mem_singleton.1 hx]; exact ht
   split
   ·exact ⟨by simp; omega, by simp [h2], e3, e4⟩
   split
   ·exact ih _ _ _ (by simp; omega) (by simp [h2]) e3 e4
   ·trivial
theorem rdOne_fit (hl : l.length ≤ maxLen) : ∀ (n p : Nat), Has Fit (rdOne l n p) := by
 intro n
 induction n with
 | zero => intro p; trivial
 | succ n ih =>
  intro p
  unfold rdOne
  split
  ·exact fit_of hl _ _ (by omega) (by omega) _ (by simp) _ (by simp) (by simp) _ (by simp) (by simp)
  split
  ·split
   ·trivial
   ·refine (Has.any _).seq fun _ p2 _ => (ih p2).seq fun t p3 ht => ?_
    exact fit_of hl _ _ (by omega) (by omega) _ (wd_len _ _) _ (by simp) (by simp) _ (by simp) (by simp; exact ht)
  split
  ·exact fit_of hl _ _ (by omega) (by omega) _ (wd_len _ _) _ (by simp) (by simp) _ (by simp) (by simp)
  split
  ·trivial
  split
  ·exact rdPassed_fit hl ih 0 (by omega) _
  split
  ·exact rdPassed_fit hl ih 1 (by omega) _
  split
  ·refine (Has.any _).seq fun _ p2 _ => (rdChoice_fit ih 7 p2 [] [] rfl rfl (by simp) (by simp)).seq fun x p3 hx => ?_
   exact fit_of hl _ _ (by omega) (by omega) _ (by simp) _ hx.1 hx.2.2.1 _ (by omega) hx.2.2.2
  split
  ·refine (Has.any _).seq fun _ p2 _ => (rdChoice_fit ih 7 p2 [] [] rfl rfl (by simp) (by simp)).seq fun x p3 hx => ?_
   exact fit_of hl _ _ (by omega) (by omega) _ (by simp) _ hx.1 hx.2.2.1 _ (by omega) hx.2.2.2
  ·trivial

theorem pk_sign (l : Str) (q : Nat) (c : UInt8) (hc : lowb c = false) : (pk l q = [c]) ↔ l[q]? = some c := by
 rcases pk_case l q with ⟨h1, _, h3⟩ | ⟨x, h1, h2, h3, h4, h5⟩ | ⟨x, h1, h2, _, h4⟩
 ·simp [h1, h3]
 ·have hne : x ≠ c := by rintro rfl; rw [hc] at h2; cases h2
  have hw : wd l q ≠ [c] := by intro e; rw [e] at h4; simp at h4; exact hne h4.symm
  simp [h1, h5, hne, hw]
 ·simp [h1, h4]
theorem sign_agree {α : Type} {c : UInt8} (hc : lowb c = false) {p : Nat} {g : Unit → Nat → Rd α} {G : St → α × St}
  (h1 : ∀ q, Agrees (g () q) (G ⟨q, none⟩)) (h2 : ∀ q b, (G ⟨q, some b⟩).2.bad = some b) : Agrees ((rdSign l c p).seq g) (G (must l (isW [c]) ⟨p, none⟩).2) := by
 rw [must_sign l c hc]
 unfold rdSign
 split
 ·exact h1 _
 ·exact h2 _ _
theorem one_agree {α : Type} {r : Rd Ty} {x : Ty × St} {g : Ty → Nat → Rd α} {G : Ty → St → α × St}
  (h : Agrees r x) (h1 : ∀ t q, r = .ok t q → Agrees (g t q) (G t ⟨q, none⟩)) (h2 : ∀ t q b, (G t ⟨q, some b⟩).2.bad = some b) : Agrees (r.seq g) (G x.1 x.2) := by
 cases r with
 | ok t q =>
  have h' : x = (t, ⟨q, none⟩) := h
  rw [h']
  exact h1 t q rfl
 | bad q =>
  have h' : x.2.bad = some q := h
  obtain ⟨t, p, b⟩ := x
  simp only at h'
  subst h'
  exact h2 t p q
theorem last_agree {c : UInt8} (hc : lowb c = false) (hF : ∀ p b, F ⟨p, some b⟩ = (zeroTy, ⟨p, some b⟩)) (ha : ∀ p, Agrees (f p) (F ⟨p, none⟩)) (T : Ty → Ty) (p : Nat) :
  Agrees ((rdSign l c p).seq fun _ p3 => (f p3).seq fun u p4 => .ok (T u) p4) (T (F (must l (isW [c]) ⟨p, none⟩).2).1, (F (must l (isW [c]) ⟨p, none⟩).2).2) := by
 refine sign_agree (g := fun _ p3 => (f p3).seq fun u p4 => .ok (T u) p4) (G := fun s => (T (F s).1, (F s).2)) hc (fun q => ?_) (fun q b => by simp [hF])
 exact one_agree (g := fun u p4 => .ok (T u) p4) (G := fun u s => (T u, s)) (ha q) (fun u q2 _ => rfl) (fun u q2 b => rfl)
theorem passed_agree (hF : ∀ p b, F ⟨p, some b⟩ = (zeroTy, ⟨p, some b⟩)) (ha : ∀ p, Agrees (f p) (F ⟨p, none⟩)) (add : Int) (p : Nat) : Agrees (rdPassed l f add p) (scanPassed l F add ⟨p, none⟩) := by
 unfold rdPassed scanPassed
 simp only [pk_sign l _ 123 (by decide)]
 split
 ·refine one_agree (g := fun t p1 => (rdSign l 125 p1).seq fun _ p2 => (rdSign l 46 p2).seq fun _ p3 => (f p3).seq fun u p4 => .ok (.mk (4 + add) 0 [] [] [t, u]) p4)
   (G := fun t s => (Ty.mk (4 + add) 0 [] [] [t, (F (must l (isW [46]) (must l (isW [125]) s).2).2).1], (F (must l (isW [46]) (must l (isW [125]) s).2).2).2)) (ha _) (fun t q _ => ?_) (fun t q b => by simp [must_bad, hF])
  refine sign_agree (g := fun _ p2 => (rdSign l 46 p2).seq fun _ p3 => (f p3).seq fun u p4 => .ok (.mk (4 + add) 0 [] [] [t, u]) p4)
   (G := fun s => (Ty.mk (4 + add) 0 [] [] [t, (F (must l (isW [46]) s).2).1], (F (must l (isW [46]) s).2).2)) (by decide) (fun q2 => ?_) (fun q2 b => by simp [must_bad, hF])
  exact last_agree (by decide) hF ha (fun u => .mk (4 + add) 0 [] [] [t, u]) q2
 ·rw [must_word l _ (fun w hw => sortIx_low (by simp only [decide_eq_true_eq] at hw; omega))]
  rw [sk_sk]
  by_cases h0 : sortIx (wd l (sk l p)) = 0
  ·rw [if_pos h0, if_neg (by simp [h0])]
   simp [must_bad, hF, Agrees]
  ·have := sortIx_nonneg (wd l (sk l p))
   rw [if_neg h0, if_pos (by simp; omega)]
   exact last_agree (by decide) hF ha (fun t => .mk (2 + add) (sortIx (wd l (sk l p))) [] [] [t]) _
theorem loop_agree (hF : ∀ p b, F ⟨p, some b⟩ = (zeroTy, ⟨p, some b⟩)) (ha : ∀ p, Agrees (f p) (F ⟨p, none⟩)) (K : Int) : ∀ (m p : Nat) (ls : List Str) (ks : List Ty),
  Agrees ((rdChoice l f m p ls ks).seq fun x p3 => .ok (Ty.mk K 0 [] x.1 x.2) p3) (Ty.mk K 0 [] (loopF l F m ⟨p, none⟩ ls ks).1 (loopF l F m ⟨p, none⟩ ls ks).2.1, (loopF l F m ⟨p, none⟩ ls ks).2.2) := by
 intro m
 induction m with
 | zero => intro p ls ks; rfl
 | succ m ih =>
  intro p ls ks
  unfold rdChoice loopF
  simp only
  rw [must_word l (labelOk ls) (fun w hw => labelOk_low hw)]
  cases hw : labelOk ls (wd l (sk l p)) with
  | false => simp [must_bad, hF, Agrees, Rd.seq_bad]
  | true =>
   simp only [if_true, Bool.true_eq_false, if_false]
   rw [must_sign l 58 (by decide)]
   unfold rdSign
   split
   ·simp only [Rd.seq_ok]
    have h := ha (sk l (sk l p + (wd l (sk l p)).length) + 1)
    cases hr : f (sk l (sk l p + (wd l (sk l p)).length) + 1) with
    | bad q =>
     rw [hr] at h
     simp only [Rd.seq_bad]
     generalize F ⟨sk l (sk l p + (wd l (sk l p)).length) + 1, none⟩ = x at h ⊢
     obtain ⟨t, p', b⟩ := x
     have h' : b = some q := h
     subst h'
     simp [must_bad, Agrees]
    | ok t p3 =>
     rw [hr] at h
     have h' : F ⟨sk l (sk l p + (wd l (sk l p)).length) + 1, none⟩ = (t, ⟨p3, none⟩) := h
     rw [h']
     simp only [Rd.seq_ok]
     rcases pk_case l (sk l p3) with ⟨k1, _, k3⟩ | ⟨x, k1, k2, k3, k4, k5⟩ | ⟨x, k1, k2, _, k4⟩
     ·simp [must, k1, k3, Agrees, Rd.seq_bad]
     ·have n1 : x ≠ 125 := by rintro rfl; exact absurd k2 (by decide)
      have n2 : x ≠ 44 := by rintro rfl; exact absurd k2 (by decide)
      have w1 : wd l (sk l p3) ≠ [125] := by intro e; rw [e] at k4; simp at k4; exact n1 k4.symm
      have w2 : wd l (sk l p3) ≠ [44] := by intro e; rw [e] at k4; simp at k4; exact n2 k4.symm
      simp [must, k1, k5, k3, isW, n1, n2, w1, w2, Agrees, Rd.seq_bad]
     ·by_cases e1 : x = 125
      ·subst e1
       simp [must, k1, k4, isW, Agrees, Rd.seq_ok]
      ·by_cases e2 : x = 44
       ·subst e2
        have := ih (sk l p3 + 1) (ls ++ [wd l (sk l p)]) (ks ++ [t])
        simpa [must, k1, k4, isW] using this
       ·simp [must, k1, k4, isW, e1, e2, Agrees, Rd.seq_bad]
   ·simp [must_bad, hF, Agrees, Rd.seq_bad]
theorem must_start (p : Nat) : must l startOk ⟨p, none⟩ = if startOk (pk l (sk l p)) = true then (pk l (sk l p), ⟨sk l p + (pk l (sk l p)).length, none⟩) else ([], ⟨sk l p, some (sk l p)⟩) := by
 unfold must
 simp only
 by_cases h : pk l (sk l p) = []
 ·rw [h]
  simp [show startOk [] = false by decide]
 ·cases hs : startOk (pk l (sk l p)) <;> simp [h]
theorem scan_agree : ∀ (n p : Nat), Agrees (rdOne l n p) (scanF l n ⟨p, none⟩) := by
 intro n
 induction n with
 | zero => intro p; rfl
 | succ n ih =>
  intro p
  have hF : ∀ p b, scanF l n ⟨p, some b⟩ = (zeroTy, ⟨p, some b⟩) := scanF_bad l n
  have hp := pk_case l (sk l p)
  unfold rdOne scanF
  simp only
  rw [must_start]
  rcases hp with ⟨k1, k2, k3⟩ | ⟨x, k1, k2, k3, k4, k5⟩ | ⟨x, k1, k2, k3, k4⟩
  ·rw [k3, k2]
   have e : startOk [] = false := by decide
   simp [e, k1, endW, recW, show isVar [] = false by decide, Agrees]
  ·rw [k5]
   have n1 : wd l (sk l p) ≠ [33] := by intro e; rw [e] at k4; simp at k4; subst k4; exact absurd k2 (by decide)
   have n2 : wd l (sk l p) ≠ [63] := by intro e; rw [e] at k4; simp at k4; subst k4; exact absurd k2 (by decide)
   have n3 : wd l (sk l p) ≠ [43] := by intro e; rw [e] at k4; simp at k4; subst k4; exact absurd k2 (by decide)
   have n4 : wd l (sk l p) ≠ [38] := by intro e; rw [e] at k4; simp at k4; subst k4; exact absurd k2 (by decide)
   by_cases h1 : wd l (sk l p) = endW
   ·rw [h1]; simp [show startOk endW = true by decide, Agrees]; rfl
   by_cases h2 : wd l (sk l p) = recW
   ·rw [h2]
    simp only [show startOk recW = true by decide, show recW ≠ endW by decide, if_true, if_false, show recW.length = 3 from rfl]
    rw [must_word l isVar (fun w hw => isVar_low hw)]
    cases hv : isVar (wd l (sk l (sk l p + 3))) with
    | false => simp [must_bad, hF, Agrees]
    | true =>
     simp only [if_true, Bool.true_eq_false, if_false]
     exact last_agree (by decide) hF ih (fun t => .mk 8 0 (wd l (sk l (sk l p + 3))) [] [t]) _
   ·rw [if_neg h1, if_neg h2]
    cases hv : isVar (wd l (sk l p)) with
    | true => simp [startOk, hv, h1, h2, n1, n2, n3, n4, Agrees]
    | false =>
     have hs : startOk (wd l (sk l p)) = false := by simp [startOk, isW, h1, h2, hv, n1, n2, n3, n4]
     simp [hs, k3, endW, recW, Agrees]
  ·rw [k4, k3]
   simp only [show ([] : Str) ≠ endW by decide, show ([] : Str) ≠ recW by decide, show isVar [] = false by decide, if_false, ne_eq, not_true_eq_false, k1, Option.some.injEq, Bool.false_eq_true]
   have low1 : ∀ c, lowb c = false → isVar [c] = false := by
    intro c hc
    cases h : isVar [c] with
    | false => rfl
    | true => have := (isVar_low h).2; simp only [low, List.all_cons, List.all_nil, Bool.and_true] at this; rw [lowb, this] at hc; cases hc
   by_cases e1 : x = 33
   ·subst e1
    simp only [show startOk [33] = true by decide, show ([33] : Str) ≠ endW by decide, show ([33] : Str) ≠ recW by decide, if_true, if_false]
    exact passed_agree hF ih 0 _
   by_cases e2 : x = 63
   ·subst e2
    simp only [show startOk [63] = true by decide, show ([63] : Str) ≠ endW by decide, show ([63] : Str) ≠ recW by decide, show ([63] : Str) ≠ [33] by decide, show (63 : UInt8) ≠ 33 by decide, if_true, if_false]
    exact passed_agree hF ih 1 _
   by_cases e3 : x = 43
   ·subst e3
    simp only [show startOk [43] = true by decide, show ([43] : Str) ≠ endW by decide, show ([43] : Str) ≠ recW by decide, show ([43] : Str) ≠ [33] by decide, show ([43] : Str) ≠ [63] by decide, show (43 : UInt8) ≠ 33 by decide, show (43 : UInt8) ≠ 63 by decide, if_true, if_false]
    exact sign_agree (G := fun s => (Ty.mk 6 0 [] (loopF l (scanF l n) 7 s [] []).1 (loopF l (scanF l n) 7 s [] []).2.1, (loopF l (scanF l n) 7 s [] []).2.2)) (by decide) (fun q => loop_agree hF ih 6 7 q [] []) (fun q b => by rw [loopF_bad])
   by_cases e4 : x = 38
   ·subst e4
    simp only [show startOk [38] = true by decide, show ([38] : Str) ≠ endW by decide, show ([38] : Str) ≠ recW by decide, show ([38] : Str) ≠ [33] by decide, show ([38] : Str) ≠ [63] by decide, show ([38] : Str) ≠ [43] by decide, show (38 : UInt8) ≠ 33 by decide, show (38 : UInt8) ≠ 63 by decide, show (38 : UInt8) ≠ 43 by decide, if_true, if_false]
    exact sign_agree (G := fun s => (Ty.mk 7 0 [] (loopF l (scanF l n) 7 s [] []).1 (loopF l (scanF l n) 7 s [] []).2.1, (loopF l (scanF l n) 7 s [] []).2.2)) (by decide) (fun q => loop_agree hF ih 7 7 q [] []) (fun q b => by rw [loopF_bad])
   ·have hs : startOk [x] = false := by simp [startOk, isW, endW, recW, low1 x k2, e1, e2, e3, e4]
    simp [hs, e1, e2, e3, e4, endW, recW, Agrees]
end
theorem tw_take (p : UInt8 → Bool) (l : Str) : l.take (l.length - (l.dropWhile p).length) = l.takeWhile p := by
 have h : l.takeWhile p ++ l.dropWhile p = l := List.takeWhile_append_dropWhile
 have hl := congrArg List.length h
 rw [List.length_append] at hl
 conv => lhs; arg 2; rw [← h]
 rw [show l.length - (l.dropWhile p).length = (l.takeWhile p).length by omega, List.take_left]

end Go.Proofs.YtpidjanngbaiiaaGreatDoor
