/-
  Labels and kids of a choice while it is being read: two rows of the call's own.
-/
import Derived.Test.YtpidjanngbaiiaaGreatDoorM9
import Derived.Test.YtpidjanngbaiiaaGreatDoorM11
namespace Go.Proofs.YtpidjanngbaiiaaGreatDoor
open Go.RowKit Go.Proofs

set_option maxRecDepth 100000
structure Rows (w : World) (base : Nat) (lv kv : Value) (ls : List Str) (ks : List Ty) (xs : List Value) : Prop where
 labels : w.ownsRow base 9 1 lv ls.length (strVals ls)
 kids : w.ownsRow base 30 5 kv ks.length xs
 cells : Cells5D (fun k => base ≤ k ∧ lv.ownBlock ≠ some k ∧ kv.ownBlock ≠ some k) w xs ks
 sep : ∀ k, lv.ownBlock = some k → kv.ownBlock ≠ some k
theorem Rows.at {w w' : World} {base b : Nat} {lv kv : Value} {ls : List Str} {ks : List Ty} {xs : List Value} (h : Rows w base lv kv ls ks xs) (hg : w.grownBy w' (some b)) (hb : b < base) : Rows w' base lv kv ls ks xs :=
 ⟨own_at h.labels hg hb, own_at h.kids hg hb, h.cells.keep (fun k hk hl => hg.block k hl (fun e => by have := Option.some.inj e; have := hk.1; omega)) (fun _ hk _ => hk), h.sep⟩
theorem Rows.below {w w' : World} {base : Nat} {lv kv : Value} {ls : List Str} {ks : List Ty} {xs : List Value} (h : Rows w base lv kv ls ks xs) (hb : Below w.heap.size w w') : Rows w' base lv kv ls ks xs :=
 ⟨own_keep h.labels hb (Nat.le_refl _), own_keep h.kids hb (Nat.le_refl _), h.cells.keep (Same.below hb) (fun _ hk _ => hk), h.sep⟩
theorem Rows.set {w : World} {base : Nat} {lv kv : Value} {ls : List Str} {ks : List Ty} {xs : List Value} (h : Rows w base lv kv ls ks xs) {a : Addr} (ha : a.block < base) (u : Value) : Rows (w.setCell a u) base lv kv ls ks xs :=
 ⟨own_set h.labels ha u, own_set h.kids ha u, h.cells.keep (Same.set (fun hk => by have := hk.1; omega)) (fun _ hk _ => hk), h.sep⟩
theorem Rows.drew {w : World} {base : Nat} {lv kv : Value} {ls : List Str} {ks : List Ty} {xs : List Value} (h : Rows w base lv kv ls ks xs) : Rows w.drew base lv kv ls ks xs :=
 h.below (Below.refl _ _).drew
theorem Rows.new (w : World) (base : Nat) : Rows w base (.slice none 0 0) (.slice none 0 0) [] [] [] :=
 ⟨⟨rfl, Or.inl ⟨rfl, rfl⟩⟩, ⟨rfl, Or.inl ⟨rfl, rfl⟩⟩, .nil, fun k hk => by simp [Value.ownBlock] at hk⟩
theorem Rows.strs {D : Blocks} {w : World} {base : Nat} {lv kv : Value} {ls : List Str} {ks : List Ty} {xs : List Value} (h : Rows w base lv kv ls ks xs) (hD : ∀ b, base ≤ b → D b) : StrsD D w lv ls := own_strsD h.labels hD
theorem Rows.tys {D : Blocks} {w : World} {base : Nat} {lv kv : Value} {ls : List Str} {ks : List Ty} {xs : List Value} (h : Rows w base lv kv ls ks xs) (hD : ∀ b, base ≤ b → D b) : TysD D w kv ks :=
 own_tysD h.kids (h.cells.keep (D' := D) (fun _ _ _ => rfl) (fun k hk _ => hD k hk.1)) hD
theorem Rows.label {w w' : World} {base : Nat} {lv lv' kv : Value} {ls : List Str} {ks : List Ty} {xs : List Value} {x : Str} (h : Rows w base lv kv ls ks xs) (hown : w'.ownsRow base 9 1 lv' (ls.length + 1) (strVals ls ++ [.string ⟨x.toArray⟩]))
  (hg : w.grownBy w' lv.ownBlock) (hv : lv'.ownBlock = lv.ownBlock ∨ lv'.ownBlock = some w.heap.size) : Rows w' base lv' kv (ls ++ [x]) ks xs := by
 have hk : kv.ownBlock = none ∨ kv.ownBlock ≠ lv.ownBlock := by
  cases e : kv.ownBlock with
  | none => exact Or.inl rfl
  | some k => exact Or.inr fun e' => h.sep k e'.symm e
 refine ⟨?_, h.kids.kept hg hk, h.cells.keep (fun k hd hl => hg.block k hl (Ne.symm hd.2.1)) (fun k hd hl => ⟨hd.1, ?_, hd.2.2⟩), fun k e => ?_⟩
 ·have e : strVals (ls ++ [x]) = strVals ls ++ [.string ⟨x.toArray⟩] := by simp [strVals]
  rw [e, List.length_append]
  exact hown
 ·intro e
  rcases hv with h1 | h1
  ·exact hd.2.1 (h1.symm.trans e)
  ·have := Option.some.inj (h1.symm.trans e); omega
 ·intro e'
  rcases hv with h1 | h1
  ·exact h.sep k (h1.symm.trans e) e'
  ·have h2 := Option.some.inj (h1.symm.trans e)
   have := (h.kids.lt k e').2
   omega
theorem Rows.kid {w w' : World} {base : Nat} {lv kv kv' : Value} {ls : List Str} {ks : List Ty} {xs news : List Value} {t : Ty} (h : Rows w base lv kv ls ks xs) (hc : Cells5D (fun k => base ≤ k ∧ lv.ownBlock ≠ some k ∧ kv.ownBlock ≠ some k) w news [t])
  (hown : w'.ownsRow base 30 5 kv' (ks.length + 1) (xs ++ news)) (hg : w.grownBy w' kv.ownBlock) (hv : kv'.ownBlock = kv.ownBlock ∨ kv'.ownBlock = some w.heap.size) : Rows w' base lv kv' ls (ks ++ [t]) (xs ++ news) := by
 have hk : lv.ownBlock = none ∨ lv.ownBlock ≠ kv.ownBlock := by
  cases e : lv.ownBlock with
  | none => exact Or.inl rfl
  | some k => exact Or.inr fun e' => h.sep k e e'.symm
 refine ⟨h.labels.kept hg hk, ?_, Cells5D.append (h.cells.keep (fun k hd hl => hg.block k hl (Ne.symm hd.2.2)) fun k hd hl => ⟨hd.1, hd.2.1, ?_⟩) (hc.keep (fun k hd hl => hg.block k hl (Ne.symm hd.2.2)) fun k hd hl => ⟨hd.1, hd.2.1, ?_⟩), fun k e => ?_⟩
 ·rw [List.length_append]; exact hown
 ·intro e
  rcases hv with h1 | h1
  ·exact hd.2.2 (h1.symm.trans e)
  ·have := Option.some.inj (h1.symm.trans e); omega
 ·intro e
  rcases hv with h1 | h1
  ·exact hd.2.2 (h1.symm.trans e)
  ·have := Option.some.inj (h1.symm.trans e); omega
 ·intro e'
  rcases hv with h1 | h1
  ·exact h.sep k e (h1.symm.trans e')
  ·have h2 := Option.some.inj (h1.symm.trans e')
   have := (h.labels.lt k e).2
   omega
theorem VBox.set34 {w : World} {b : Nat} {t : Ty} {lv kv : Value} (h : VBox w b t lv kv) (lv' kv' : Value) : VBox ((w.setCell ⟨b, 3, none⟩ lv').setCell ⟨b, 4, none⟩ kv') b t lv' kv' := by
 have e : ∀ {w : World} {i j : Nat} {u : Value}, i ≠ j → (w.setCell ⟨b, i, none⟩ u).cell? ⟨b, j, none⟩ = w.cell? ⟨b, j, none⟩ := fun h => World.cell?_setCell_other _ _ _ _ (fun e => h (by injection e))
 refine ⟨?_, ?_, ?_, ?_, ?_, fun j => by simp only [World.frozen?_setCell]; exact h.fr j, by simp only [World.size_setCell]; exact h.lt⟩
 ·rw [e (by decide), e (by decide)]; exact h.c0
 ·rw [e (by decide), e (by decide)]; exact h.c1
 ·rw [e (by decide), e (by decide)]; exact h.c2
 ·rw [e (by decide)]; exact World.cell?_setCell_same' _ _ _ (by rw [h.c3]; rfl)
 ·exact World.cell?_setCell_same' _ _ _ (by rw [e (by decide), h.c4]; rfl)

section
variable (l : Str) (b p : Nat) (w : World) (hl : l.length ≤ 2000) (hp : p + 1 ≤ l.length) (hR : RBox w b l p) (S : World → Prop) (hSk : ∀ w w' : World, S w → w.grownBy w' (some b) → S w') (hS : S w) (n : Nat)
 (ih : ∀ (p : Nat) (w : World), p ≤ l.length → l.length < n + p → S w → RBox w b l p → Calls Tryz.prog 136 #[.pointer (some ⟨b, 0, none⟩)] w (Ans w b l (rdOne l n p))) (hn : l.length < n + (p + 1))
include hl hp hR hSk hS ih hn
set_option maxHeartbeats 16000000 in
theorem choice_any (kd : Nat) : Calls Tryz.prog 168 #[.pointer (some ⟨b, 0, none⟩), .int .i64 (kd : Int)] w (Ans w b l ((rdSign l 123 (p + 1)).seq fun _ p2 => (rdChoice l (rdOne l n) 7 p2 [] []).seq fun x p3 => .ok (.mk (kd : Int) 0 [] x.1 x.2) p3)) := by
 obtain ⟨r0, r1, r2, r3⟩ := id hR
 have hbw := hR.lt
 have hs := sk_le hp
 obtain ⟨RES, hRES⟩ : ∃ r, ((rdSign l 123 (p + 1)).seq fun _ p2 => (rdChoice l (rdOne l n) 7 p2 [] []).seq fun x p3 => .ok (.mk (kd : Int) 0 [] x.1 x.2) p3 : Rd Ty) = r := ⟨_, rfl⟩
 rw [hRES]
 have HRES := Lib.hid hRES; clear hRES
 go_enter Tryz.func168, Tryz.ntmps168
 go_wp2_with fail
 have hg1 := grown_at w b 1 (.int .i64 ((p : Int) + 1))
 have hR1 : RBox (w.setCell ⟨b, 1, none⟩ (.int .i64 ((p : Int) + 1))) b l (p + 1) := by simpa using hR.set (p + 1)
 have hz1 : (w.setCell ⟨b, 1, none⟩ (.int .i64 ((p : Int) + 1))).heap.size = w.heap.size := by simp only [World.size_setCell]
 generalize w.setCell ⟨b, 1, none⟩ (.int .i64 ((p : Int) + 1)) = w1 at hg1 hR1 hz1 ⊢
 have XB := new_box w1 30
 rw [hz1] at XB
 have hb2 : Below w1.heap.size w1 (w1.alloc (.cells #[.int .i64 0, .int .i64 0, .string ⟨#[]⟩, .slice none 0 0, .slice none 0 0] 30)) := (Below.refl _ _).alloc (Nat.le_refl _) _
 have hR2 := hR1.keep hb2
 have hg2 := grown_belowB hg1 hb2
 generalize w1.alloc (.cells #[.int .i64 0, .int .i64 0, .string ⟨#[]⟩, .slice none 0 0, .slice none 0 0] 30) = w2 at XB hR2 hg2 ⊢
 clear hb2 hR1 hg1 hz1 r0 r1 r2 r3
 clear w1
 have hne1 : ¬ w.heap.size = b := by omega
 have hne2 : ¬ b = w.heap.size := by omega
 by_cases h123 : l[sk l (p + 1)]? = some 123
 case neg =>
  refine (sign_bad l b (p + 1) 123 w2 hl hp hR2 h123).mono ?_
  rintro e w3 ⟨rfl, hg3⟩
  have e1 : Rd.bad (sk l (p + 1)) = RES := (sign_seq_bad h123 _).symm.trans HRES.out
  exact ⟨rfl, grown_trans hg2 hg3, by rw [← e1]⟩
 case pos =>
 have hlt := at_lt h123
 have HR : Hid ((rdChoice l (rdOne l n) 7 (sk l (p + 1) + 1) [] []).seq (fun x p3 => .ok (.mk (kd : Int) 0 [] x.1 x.2) p3) = RES) := Lib.hid ((sign_seq_ok h123 _).symm.trans HRES.out)
 refine (sign_ok l b (p + 1) 123 w2 hl hp hR2 h123).mono ?_
 rintro e w3 ⟨rfl, hg, hR3⟩
 have hg3 := grown_trans hg2 hg
 have XB3 := XB.grown' hg (by omega)
 clear hg hR2 hg2 XB HRES h123
 clear w2
 generalize sk l (p + 1) = q at hs hlt hR3 HR
 have hX3 := XB3.lt
 have hb3 := hR3.lt
 go_wp2_with fail
 have hb4 : Below w3.heap.size w3 (w3.alloc (.cells #[.int .i64 (kd : Int), .int .i64 0, .string ⟨#[]⟩, .slice none 0 0, .slice none 0 0] 30)) := (Below.refl _ _).alloc (Nat.le_refl _) _
 have TB4 : VBox (w3.alloc (.cells #[.int .i64 (kd : Int), .int .i64 0, .string ⟨#[]⟩, .slice none 0 0, .slice none 0 0] 30)) w3.heap.size (.mk kd 0 [] [] []) (.slice none 0 0) (.slice none 0 0) := new_val w3 (.mk kd 0 [] [] []) _ _ _
 have XB4 := XB3.keep hb4 hX3
 have hR4 := hR3.keep hb4
 have hg4 := grown_belowB hg3 hb4
 have hz4 : (w3.alloc (.cells #[.int .i64 (kd : Int), .int .i64 0, .string ⟨#[]⟩, .slice none 0 0, .slice none 0 0] 30)).heap.size = w3.heap.size + 1 := by simp
 generalize w3.alloc (.cells #[.int .i64 (kd : Int), .int .i64 0, .string ⟨#[]⟩, .slice none 0 0, .slice none 0 0] 30) = w4 at TB4 XB4 hR4 hg4 hz4 ⊢
 clear hb4 hR3 hg3 XB3
 generalize w3.heap.size = T at TB4 hX3 hb3 hz4 ⊢
 clear w3
 go_loopg [] 7 (fun gk wr => ∃ (p' : Nat) (ls : List Str) (ks : List Ty) (lv kv : Value) (xs : List Value), p' ≤ l.length ∧ l.length < n + p' ∧ ls.length + gk = 7 ∧ ls.length ≤ 6 ∧ ks.length = ls.length ∧ Hid ((rdChoice l (rdOne l n) gk p' ls ks).seq (fun x p3 => .ok (.mk (kd : Int) 0 [] x.1 x.2) p3) = RES) ∧
  RBox wr b l p' ∧ w.grownBy wr (some b) ∧ VBox wr w.heap.size zeroTy (.slice none 0 0) (.slice none 0 0) ∧ VBox wr T (.mk kd 0 [] ls ks) lv kv ∧ Rows wr (T + 1) lv kv ls ks xs)
 case atStart => exact ⟨q + 1, [], [], _, _, [], by omega, by omega, rfl, by simp, rfl, HR, hR4, hg4, XB4, TB4, Rows.new _ _⟩
 case round =>
  clear HR hR4 hg4 XB4 TB4 hz4
  obtain ⟨p', ls, ks, lv, kv, xs, hp', hnp, hgk, h6, hlen, HR, hRr, hgr, XBr, TBr, hrows⟩ := hrel
  obtain ⟨g', rfl⟩ : ∃ g', gk = g' + 1 := ⟨gk - 1, by omega⟩
  have hk6 : ks.length ≤ 6 := by omega
  have HLEN := Lib.hid hlen; clear hlen
  obtain ⟨Al, cl, rfl⟩ := own_form hrows.labels
  obtain ⟨Ak, ck, rfl⟩ := own_form hrows.kids
  have hsq := sk_le hp'
  have hwq := wd_le hsq.2
  have hcal := word_any l b p' wr hl hp' hRr
  have HR1 : Hid ((if labelOk ls (wd l (sk l p')) = false then .bad (sk l p') else (rdSign l 58 (sk l p' + (wd l (sk l p')).length)).seq fun _ p2 => (rdOne l n p2).seq fun t p3 =>
   if l[sk l p3]? = some 125 then .ok (ls ++ [wd l (sk l p')], ks ++ [t]) (sk l p3 + 1)
   else if l[sk l p3]? = some 44 then rdChoice l (rdOne l n) g' (sk l p3 + 1) (ls ++ [wd l (sk l p')]) (ks ++ [t])
   else .bad (sk l p3) : Rd (List Str × List Ty)).seq (fun x p3 => .ok (.mk (kd : Int) 0 [] x.1 x.2) p3) = RES) := Lib.hid (by rw [← HR.out]; rfl)
  clear HR
  generalize sk l p' = q1 at hsq hwq hcal HR1
  generalize wd l q1 = W at hwq hcal HR1
  go_wp2_with fail
  refine hcal.mono ?_; clear hcal
  rintro e w5 ⟨rfl, hg, hR5⟩
  have hg5 := grown_trans hgr hg
  have XB5 := XBr.grown' hg (by omega)
  have TB5 := TBr.grown' hg (by omega)
  have hrows5 := hrows.at hg (by omega)
  clear hg hRr hgr XBr TBr hrows
  clear wr
  go_wp2_with fail
  cases hi : isName W with
  | false =>
   have HI := Lib.hid hi
   have e1 : Rd.bad q1 = RES := by rw [← HR1.out, if_pos (by simp [labelOk, hi])]; rfl
   have H1 := Lib.hid e1
   clear hi e1 HR1
   refine (isName_any W _ (by omega)).mono ?_; rw [HI.out]; rintro e w6 ⟨rfl, hb6⟩
   have hR6 := hR5.keep hb6
   have hg6 := grown_belowB hg5 hb6
   obtain ⟨t0, t1, t2, t3, t4, t5, t6⟩ := TB5.keep hb6 TB5.lt
   go_wp2_with fail
   refine (fail_any l b q1 w6 hR6).mono ?_
   rintro e w7 ⟨rfl, hg7⟩
   exact ⟨rfl, grown_trans hg6 hg7, by rw [← H1.out]⟩
  | true =>
  have HI := Lib.hid hi
  by_cases h0 : ls.length = 0
  case pos =>
   have g0 : ¬ (0 : Int) < (ls.length : Int) := by omega
   have g00 : ¬ 0 < ls.length := by omega
   have g6 : ((ls.length : Int) == 6) = false := by rw [beq_eq_false_iff_ne]; omega
   have hok : labelOk ls W = true := by rw [List.eq_nil_of_length_eq_zero h0]; simp [labelOk, hi, behind]
   have hl6 : ls.length < 6 := by omega
   clear hi h0
   have HR2 : Hid (((rdSign l 58 (q1 + W.length)).seq fun _ p2 => (rdOne l n p2).seq fun t p3 =>
    if l[sk l p3]? = some 125 then .ok (ls ++ [W], ks ++ [t]) (sk l p3 + 1)
    else if l[sk l p3]? = some 44 then rdChoice l (rdOne l n) g' (sk l p3 + 1) (ls ++ [W]) (ks ++ [t])
    else .bad (sk l p3)).seq (fun x p3 => .ok (.mk (kd : Int) 0 [] x.1 x.2) p3) = RES) := Lib.hid (by rw [← HR1.out, hok, if_neg (by simp)])
   clear HR1 hok
   refine (isName_any W _ (by omega)).mono ?_; rw [HI.out]; rintro e w6 ⟨rfl, hb6⟩
   have hR6 := hR5.keep hb6
   have hg6 := grown_belowB hg5 hb6
   have TB6 := TB5.keep hb6 TB5.lt
   have XB6 := XB5.keep hb6 XB5.lt
   have rows6 := hrows5.below hb6
   clear hR5 hg5 TB5 XB5 hrows5 hb6
   obtain ⟨t0, t1, t2, t3, t4, t5, t6⟩ := id TB6
   obtain ⟨r0, r1, r2, r3⟩ := id hR6
   go_wp2_with fail
   obtain ⟨hg7, hR7, XB7⟩ := go_on hg6 hR6 XB6 hne2 W.length
   have TB7 := TB6.far (p := ⟨b, 1, none⟩) (show b ≠ T by omega) (.int .i64 ((q1 : Int) + W.length))
   have rows7 := rows6.set (a := ⟨b, 1, none⟩) (show b < T + 1 by omega) (.int .i64 ((q1 : Int) + W.length))
   generalize w6.setCell ⟨b, 1, none⟩ (.int .i64 ((q1 : Int) + W.length)) = w7 at hg7 hR7 XB7 TB7 rows7 ⊢
   clear hR6 hg6 TB6 XB6 rows6 t0 t1 t2 t3 t4 t5 t6 r0 r1 r2 r3 g0 g00 g6
   clear w6
   by_cases h58 : l[sk l (q1 + W.length)]? = some 58
   case neg =>
    refine (sign_bad l b (q1 + W.length) 58 w7 hl hwq hR7 h58).mono ?_
    rintro e w8 ⟨rfl, hg8⟩
    have e1 : Rd.bad (sk l (q1 + W.length)) = RES := by rw [← HR2.out, sign_seq_bad h58]; rfl
    exact ⟨rfl, grown_trans hg7 hg8, by rw [← e1]⟩
   case pos =>
   have hs2 := sk_le hwq
   have hlt2 := at_lt h58
   have HR3 : Hid (((rdOne l n (sk l (q1 + W.length) + 1)).seq fun t p3 =>
    if l[sk l p3]? = some 125 then .ok (ls ++ [W], ks ++ [t]) (sk l p3 + 1)
    else if l[sk l p3]? = some 44 then rdChoice l (rdOne l n) g' (sk l p3 + 1) (ls ++ [W]) (ks ++ [t])
    else .bad (sk l p3)).seq (fun x p3 => .ok (.mk (kd : Int) 0 [] x.1 x.2) p3) = RES) := Lib.hid (by rw [← HR2.out, sign_seq_ok h58])
   refine (sign_ok l b (q1 + W.length) 58 w7 hl hwq hR7 h58).mono ?_
   rintro e w8 ⟨rfl, hg, hR8⟩
   have hg8 := grown_trans hg7 hg
   have XB8 := XB7.grown' hg (by omega)
   have TB8 := TB7.grown' hg (by omega)
   have rows8 := rows7.at hg (by omega)
   clear hg hR7 hg7 XB7 TB7 rows7 HR2 h58
   clear w7
   generalize sk l (q1 + W.length) = q2 at hs2 hlt2 hR8 HR3
   go_wp2_with fail
   have HSd : Hid ((fun w' : World => w'.cell? ⟨T, 3, none⟩ = some (.slice Al ls.length cl) ∧ w'.cell? ⟨T, 4, none⟩ = some (.slice Ak ks.length ck)) w8.drew) := Lib.hid ⟨TB8.c3, TB8.c4⟩
   refine wp_region_T 12 (fun w' : World => w'.cell? ⟨T, 3, none⟩ = some (.slice Al ls.length cl) ∧ w'.cell? ⟨T, 4, none⟩ = some (.slice Ak ks.length ck)) (by kernel_rfl) ?_
   refine zT 0 ?_ rfl (Or.inl ⟨by rfl, ?_⟩) HSd.out ?_
   rotate_left
   ·(intro wq hSw; obtain ⟨_,_⟩ := hSw; go_simp; all_goals (first | (with_reducible rfl) | (rw [zI])))
   simp only [zA, zB, zC, Act.put, zD, zE, zF]
   refine zT 1 ?_ rfl (Or.inl ⟨by rfl, ?_⟩) HSd.out ?_
   rotate_left
   ·(intro wq hSw; obtain ⟨_,_⟩ := hSw; go_simp; all_goals (first | (with_reducible rfl) | (rw [zI])))
   simp only [zA, zB, zC, Act.put, zD, zE, zF]
   refine zT 2 ?_ rfl (Or.inl ⟨by rfl, ?_⟩) HSd.out ?_
   rotate_left
   ·(intro wq hSw; obtain ⟨_,_⟩ := hSw; go_simp; all_goals (first | (with_reducible rfl) | (rw [zI])))
   simp only [zA, zB, zC, Act.put, zD, zE, zF]
   refine zT 5 ?_ rfl (Or.inl ⟨by rfl, ?_⟩) HSd.out ?_
   rotate_left
   ·(intro wq hSw; obtain ⟨_,_⟩ := hSw; go_simp; all_goals (first | (with_reducible rfl) | (rw [zI])))
   simp only [zA, zB, zC, Act.put, zD, zE, zF]
   refine zT 6 ?_ rfl (Or.inl ⟨by rfl, ?_⟩) HSd.out ?_
   rotate_left
   ·(intro wq hSw; obtain ⟨_,_⟩ := hSw; go_simp; all_goals (first | (with_reducible rfl) | (rw [zI])))
   simp only [zA, zB, zC, Act.put, zD, zE, zF]
   refine wpT_takeT (i := 7) (v := ?_) rfl (by kernel_rfl) (by kernel_rfl) (by kernel_rfl) (by kernel_rfl) (by kernel_rfl) (fun _ _ _ h => h) (Or.inl ⟨by rfl, ?_⟩) HSd.out ?_
   rotate_left
   ·(intro wq hSw; obtain ⟨_,_⟩ := hSw; go_simp; all_goals (first | (with_reducible rfl) | (rw [zI])))
   simp only [zA, zB, zC, Act.put, zD, zE, zF]
   refine zO 3 fun K hK => ?_
   go_simp
   have hba : Below w8.heap.size w8 (w8.alloc (.cells #[.string ⟨W.toArray⟩] 9)).drew := ((Below.refl _ _).alloc (Nat.le_refl _) _).drew
   have hca : (w8.alloc (.cells #[.string ⟨W.toArray⟩] 9)).drew.cell? ⟨w8.heap.size, 0, none⟩ = some (.string ⟨W.toArray⟩) := by simp [go_sem]
   have hza : w8.heap.size < (w8.alloc (.cells #[.string ⟨W.toArray⟩] 9)).drew.heap.size := by simp
   have rows8a := rows8.below hba
   have hT8 := TB8.lt
   refine hK.out _ _ (fun _ => ⟨cell_keep TB8.c3 hba, cell_keep TB8.c4 hba⟩) ?_
   clear hK K rows8
   try simp only [zA, zB, zC, Act.put, zD, zE, zF]
   refine zO 4 fun K hK => ?_
   refine step_app rt_strs rfl (.tmp 61) (.tmp 63) rfl (T + 1) _ ls.length (strVals ls) rfl rows8a.labels ⟨w8.heap.size, 0, none⟩ 1 1 [.string ⟨W.toArray⟩] rfl rfl (fun j u hj => ?_) (by simp [Value.oneCell']) (by unfold maxLen; omega) (by omega) (by omega) (fun v' w9 k1 k2 k3 k4 => ?_)
   ·match j, hj with
    | 0, hj => simp at hj; subst hj; exact hca
    | j + 1, hj => simp at hj
   have rows9 := rows8a.label k1 k2 k3
   have hb89 : Below (T + 1) w8 w9 := (hba.mono (by omega)).trans k4
   obtain ⟨Av, cv, rfl⟩ := own_form k1
   clear k1 k2 k3 k4 hca hza rows8a hba
   refine hK.out _ _ (fun _ => ⟨(hb89.cell (p := ⟨T, 3, none⟩) (show T < T + 1 by omega)).trans TB8.c3, (hb89.cell (p := ⟨T, 4, none⟩) (show T < T + 1 by omega)).trans TB8.c4⟩) ?_
   clear hK K
   try simp only [zA, zB, zC, Act.put, zD, zE, zF]
   have hR9 : RBox w9 b l (q2 + 1) := hR8.keepB hb89 (by omega)
   have hg9 : w.grownBy w9 (some b) := grown_belowT hg8 hb89 (by omega)
   have XB9 := XB8.keep hb89 (by omega)
   have TB9 := TB8.keep hb89 (by omega)
   have HSd9 : Hid ((fun w' : World => w'.cell? ⟨T, 3, none⟩ = some (.slice Al ls.length cl) ∧ w'.cell? ⟨T, 4, none⟩ = some (.slice Ak ks.length ck)) w9) := Lib.hid ⟨TB9.c3, TB9.c4⟩
   clear hb89 hR8 hg8 XB8 TB8 HSd
   refine zT 11 ?_ rfl (Or.inl ⟨by rfl, ?_⟩) HSd9.out ?_
   rotate_left
   ·(intro wq hSw; obtain ⟨_,_⟩ := hSw; go_simp; all_goals (first | (with_reducible rfl) | (rw [zI])))
   simp only [zA, zB, zC, Act.put, zD, zE, zF]
   clear HSd9
   refine zO 8 fun K hK => ?_
   go_simp
   refine (ih (q2 + 1) w9 (by omega) (by omega) (hSk w w9 hS hg9) hR9).mono ?_
   rintro e w10 ⟨hg, hans⟩
   have hg10 := grown_trans hg9 hg
   have XB10 := XB9.grown' hg (by omega)
   have TB10 := TB9.grown' hg (by omega)
   have rows10 := rows9.at hg (by omega)
   have htook := rdOne_took (l := l) n (q2 + 1) (by omega)
   have hlab9 := fun k e => (rows9.labels.lt k e).2
   have hkid9 := fun k e => (rows9.kids.lt k e).2
   have hT9 := TB9.lt
   cases hr : rdOne l n (q2 + 1) with
   | bad q' =>
    rw [hr] at hans
    simp only at hans
    subst hans
    have e1 : Rd.bad q' = RES := by rw [← HR3.out, hr]; rfl
    exact ⟨rfl, hg10, by rw [← e1]⟩
   | ok t p3 =>
   rw [hr] at hans htook
   obtain ⟨v, rfl, hTt, hR10⟩ := hans
   obtain ⟨ht1, ht2⟩ : q2 + 1 ≤ p3 ∧ p3 ≤ l.length := htook
   have HR4 : Hid ((if l[sk l p3]? = some 125 then .ok (ls ++ [W], ks ++ [t]) (sk l p3 + 1)
    else if l[sk l p3]? = some 44 then rdChoice l (rdOne l n) g' (sk l p3 + 1) (ls ++ [W]) (ks ++ [t])
    else .bad (sk l p3) : Rd (List Str × List Ty)).seq (fun x p3 => .ok (.mk (kd : Int) 0 [] x.1 x.2) p3) = RES) := Lib.hid (by rw [← HR3.out, hr]; rfl)
   clear hg hR9 hg9 XB9 TB9 rows9 HR3 hr
   obtain ⟨lv, kv, rfl, m1, m2⟩ := hTt
   have hdis : ∀ k, w9.heap.size ≤ k → T + 1 ≤ k ∧ (Value.slice Av (ls.length + 1) cv).ownBlock ≠ some k ∧ (Value.slice Ak ks.length ck).ownBlock ≠ some k := fun k hk => ⟨by omega, fun e => by have := hlab9 k e; omega, fun e => by have := hkid9 k e; omega⟩
   have M1 := Lib.hid (m1.keep (D' := fun k => T + 1 ≤ k ∧ (Value.slice Av (ls.length + 1) cv).ownBlock ≠ some k ∧ (Value.slice Ak ks.length ck).ownBlock ≠ some k) (fun _ _ _ => rfl) (fun k hk _ => hdis k hk))
   have M2 := Lib.hid (m2.keep (D' := fun k => T + 1 ≤ k ∧ (Value.slice Av (ls.length + 1) cv).ownBlock ≠ some k ∧ (Value.slice Ak ks.length ck).ownBlock ≠ some k) (fun _ _ _ => rfl) (fun k hk _ => hdis k hk))
   clear hdis hlab9 hkid9
   obtain ⟨A3, c3, rfl, -, -⟩ := m1
   obtain ⟨A4, c4, rfl, -, -⟩ := m2
   clear hT9
   refine hK.out _ _ (fun _ => ⟨TB10.c3, TB10.c4⟩) ?_
   clear hK K
   try simp only [zA, zB, zC, Act.put, zD, zE, zF]
   refine zO 9 fun K hK => ?_
   go_simp
   have hb11 : Below w10.heap.size w10 (w10.alloc (.cells #[.int .i64 t.kind, .int .i64 t.sort, .string ⟨t.name.toArray⟩, .slice A3 t.labels.length c3, .slice A4 t.kids.length c4] 30)) := (Below.refl _ _).alloc (Nat.le_refl _) _
   have hz11 : w10.heap.size < (w10.alloc (.cells #[.int .i64 t.kind, .int .i64 t.sort, .string ⟨t.name.toArray⟩, .slice A3 t.labels.length c3, .slice A4 t.kids.length c4] 30)).heap.size := by simp
   have hT10 := TB10.lt
   have rows11 := rows10.below hb11
   have hc11 : Cells5D (fun k => T + 1 ≤ k ∧ (Value.slice Av (ls.length + 1) cv).ownBlock ≠ some k ∧ (Value.slice Ak ks.length ck).ownBlock ≠ some k) (w10.alloc (.cells #[.int .i64 t.kind, .int .i64 t.sort, .string ⟨t.name.toArray⟩, .slice A3 t.labels.length c3, .slice A4 t.kids.length c4] 30)) [.int .i64 t.kind, .int .i64 t.sort, .string ⟨t.name.toArray⟩, .slice A3 t.labels.length c3, .slice A4 t.kids.length c4] [t] :=
    .cons t _ _ [] [] (M1.out.keep (Same.below hb11) (fun _ h _ => h)) (M2.out.keep (Same.below hb11) (fun _ h _ => h)) .nil
   have HC11 := Lib.hid hc11
   refine hK.out _ _ (fun _ => ⟨cell_keep TB10.c3 hb11, cell_keep TB10.c4 hb11⟩) ?_
   clear hK K hc11 rows10 M1 M2
   try simp only [zA, zB, zC, Act.put, zD, zE, zF]
   refine zO 10 fun K hK => ?_
   refine step_app rt_types rfl (.tmp 66) (.tmp 69) rfl (T + 1) _ ks.length xs rfl rows11.kids ⟨w10.heap.size, 0, none⟩ 1 1 [.int .i64 t.kind, .int .i64 t.sort, .string ⟨t.name.toArray⟩, .slice A3 t.labels.length c3, .slice A4 t.kids.length c4] rfl rfl (five_new _ _ _ _ _ _ _) (by simp [Value.oneCell']) (by unfold maxLen; omega) (by omega) (by omega) (fun v' w12 k1 k2 k3 k4 => ?_)
   have rows12 := rows11.kid HC11.out k1 k2 k3
   have hb12 : Below (T + 1) w10 w12 := (hb11.mono (by omega)).trans k4
   obtain ⟨Ax, cx, rfl⟩ := own_form k1
   clear k1 k2 k3 k4 HC11 rows11 hb11 hz11
   refine hK.out _ _ (fun _ => ⟨(hb12.cell (p := ⟨T, 3, none⟩) (show T < T + 1 by omega)).trans TB10.c3, (hb12.cell (p := ⟨T, 4, none⟩) (show T < T + 1 by omega)).trans TB10.c4⟩) ?_
   clear hK K
   try simp only [zA, zB, zC, Act.put, zD, zE, zF]
   have hR12 : RBox w12 b l p3 := hR10.keepB hb12 (by omega)
   have hg12 : w.grownBy w12 (some b) := grown_belowT hg10 hb12 (by omega)
   have XB12 := XB10.keep hb12 (by omega)
   have TB12 := TB10.keep hb12 (by omega)
   clear hb12 hR10 hg10 XB10 TB10 hT10
   obtain ⟨t0, t1, t2, t3, t4, t5, t6⟩ := id TB12
   refine zO 12 fun K hK => ?_
   go_simp
   refine hK.out _ _ (fun h => absurd h (by decide)) ?_
   clear hK K
   try simp only [zA, zB, zC, Act.put, zD, zE, zF]
   refine zO 13 fun K hK => ?_
   go_simp
   refine hK.out _ _ (fun h => absurd h (by decide)) ?_
   clear hK K
   try simp only [zA, zB, zC, Act.put, zD, zE, zF]
   refine zO 14 fun K hK => ?_
   go_simp
   refine hK.out _ _ (fun h => absurd h (by decide)) ?_
   clear hK K
   try simp only [zA, zB, zC, Act.put, zD, zE, zF]
   refine wpT_done (by kernel_rfl) ?_
   have TB13 := TB12.set34 (.slice Av (ls.length + 1) cv) (.slice Ax (ks.length + 1) cx)
   have rows13 := (rows12.set (a := ⟨T, 3, none⟩) (show T < T + 1 by omega) (.slice Av (ls.length + 1) cv)).set (a := ⟨T, 4, none⟩) (show T < T + 1 by omega) (.slice Ax (ks.length + 1) cx)
   have hR13 := (hR12.far (a := ⟨T, 3, none⟩) (show T ≠ b by omega) (.slice Av (ls.length + 1) cv)).far (a := ⟨T, 4, none⟩) (show T ≠ b by omega) (.slice Ax (ks.length + 1) cx)
   have XB13 := (XB12.far (p := ⟨T, 3, none⟩) (show T ≠ w.heap.size by omega) (.slice Av (ls.length + 1) cv)).far (p := ⟨T, 4, none⟩) (show T ≠ w.heap.size by omega) (.slice Ax (ks.length + 1) cx)
   have hg13 := grown_in (a := ⟨T, 4, none⟩) (grown_in (a := ⟨T, 3, none⟩) hg12 (show w.heap.size ≤ T by omega) (.slice Av (ls.length + 1) cv)) (show w.heap.size ≤ T by omega) (.slice Ax (ks.length + 1) cx)
   generalize (w12.setCell ⟨T, 3, none⟩ (.slice Av (ls.length + 1) cv)).setCell ⟨T, 4, none⟩ (.slice Ax (ks.length + 1) cx) = w13 at TB13 rows13 hR13 XB13 hg13 ⊢
   clear TB12 rows12 hR12 XB12 hg12 t0 t1 t2 t3 t4 t5 t6
   clear w12
   have hs3 := sk_le ht2
   have hss3 := sk_sk l p3
   have hcal := is_any l b p3 125 w13 hl ht2 hR13
   go_wp2_with fail
   by_cases h125 : l[sk l p3]? = some 125
   case pos =>
    rw [decide_eq_true h125] at hcal
    have hlt3 := at_lt h125
    have HR5 : Hid (Rd.ok (.mk (kd : Int) 0 [] (ls ++ [W]) (ks ++ [t])) (sk l p3 + 1) = RES) := Lib.hid (by rw [← HR4.out, if_pos h125]; rfl)
    clear HR4 h125
    generalize sk l p3 = q3 at hs3 hss3 hlt3 hcal HR5
    refine hcal.mono ?_; clear hcal
    rintro e w14 ⟨rfl, hg, hR14⟩
    have hg14 := grown_trans hg13 hg
    have XB14 := XB13.grown' hg (by omega)
    have TB14 := TB13.grown' hg (by omega)
    have rows14 := rows13.at hg (by omega)
    clear hg hR13 hg13 XB13 TB13 rows13
    clear w13
    obtain ⟨r0, r1, r2, r3⟩ := id hR14
    obtain ⟨t0, t1, t2, t3, t4, t5, t6⟩ := id TB14
    obtain ⟨x0, x1, x2, x3, x4, x5, x6⟩ := id XB14
    simp only [Ty.kind, Ty.sort, Ty.name] at t0 t1 t2
    have hne3 : ¬ T = b := by omega
    have hne4 : ¬ b = T := by omega
    have hne5 : ¬ T = w.heap.size := by omega
    have hne6 : ¬ w.heap.size = T := by omega
    go_wp2_with fail
    obtain ⟨hg15, hR15, XB15⟩ := go_on hg14 hR14 XB14 hne2 1
    have rows15 := rows14.set (a := ⟨b, 1, none⟩) (show b < T + 1 by omega) (.int .i64 ((q3 : Int) + 1))
    rw [show ((1 : Nat) : Int) = 1 from rfl] at hg15 hR15 XB15
    generalize w14.setCell ⟨b, 1, none⟩ (.int .i64 ((q3 : Int) + 1)) = w15 at hg15 hR15 XB15 rows15 ⊢
    have e1 : (ls ++ [W]).length = ls.length + 1 := by simp
    have e2 : (ks ++ [t]).length = ks.length + 1 := by simp
    obtain ⟨hF, hgF, hRF, hT⟩ := finish hbw (Nat.le_refl _) hg15 hR15 XB15 (kd : Int) 0 [] (ls ++ [W]) (ks ++ [t]) (.slice Av (ls.length + 1) cv) (.slice Ax (ks.length + 1) cx) (rows15.strs (fun k hk => ⟨by omega, by omega⟩)) (rows15.tys (fun k hk => ⟨by omega, by omega⟩))
    generalize ((((w15.setCell ⟨w.heap.size, 0, none⟩ (.int .i64 (kd : Int))).setCell ⟨w.heap.size, 1, none⟩ (.int .i64 0)).setCell ⟨w.heap.size, 2, none⟩ (.string ⟨([] : Str).toArray⟩)).setCell ⟨w.heap.size, 3, none⟩ (.slice Av (ls.length + 1) cv)).setCell ⟨w.heap.size, 4, none⟩ (.slice Ax (ks.length + 1) cx) = w16 at hF hgF hRF hT ⊢
    obtain ⟨d0, d1, d2, d3, d4, d5, d6⟩ := hF
    refine bodyPost_ret (v := .agg #[.int .i64 (kd : Int), .int .i64 0, .string ⟨([] : Str).toArray⟩, (.slice Av (ls.length + 1) cv), (.slice Ax (ks.length + 1) cx)]) (by simp [results, Tryz.results168, go_sem, d0, d1, d2, d3, d4, Ty.kind, Ty.sort, Ty.name]) rfl ?_
    refine ⟨hgF, ?_⟩
    rw [← HR5.out]
    exact ⟨_, rfl, hT, hRF⟩
   case neg =>
   have hdn : decide (l[sk l p3]? = some 125) = false := by simpa using h125
   rw [hdn] at hcal
   have HR5 : Hid ((if l[sk l p3]? = some 44 then rdChoice l (rdOne l n) g' (sk l p3 + 1) (ls ++ [W]) (ks ++ [t]) else .bad (sk l p3) : Rd (List Str × List Ty)).seq (fun x p3 => .ok (.mk (kd : Int) 0 [] x.1 x.2) p3) = RES) := Lib.hid (by rw [← HR4.out, if_neg h125])
   clear HR4 h125 hdn
   refine hcal.mono ?_; clear hcal
   rintro e w14 ⟨rfl, hg, hR14⟩
   have hg14 := grown_trans hg13 hg
   have XB14 := XB13.grown' hg (by omega)
   have TB14 := TB13.grown' hg (by omega)
   have rows14 := rows13.at hg (by omega)
   clear hg hR13 hg13 XB13 TB13 rows13
   clear w13
   go_wp2_with fail
   by_cases h44 : l[sk l p3]? = some 44
   case neg =>
    have h44' : ¬ l[sk l (sk l p3)]? = some 44 := by rw [hss3]; exact h44
    have e1 : Rd.bad (sk l (sk l p3)) = RES := by rw [hss3, ← HR5.out, if_neg h44]; rfl
    refine (sign_bad l b (sk l p3) 44 w14 hl hs3.2 hR14 h44').mono ?_
    rintro e w15 ⟨rfl, hg15⟩
    exact ⟨rfl, grown_trans hg14 hg15, by rw [← e1]⟩
   case pos =>
   have hlt3 := at_lt h44
   have h44' : l[sk l (sk l p3)]? = some 44 := by rw [hss3]; exact h44
   have HR6 : Hid ((rdChoice l (rdOne l n) g' (sk l p3 + 1) (ls ++ [W]) (ks ++ [t])).seq (fun x p3 => .ok (.mk (kd : Int) 0 [] x.1 x.2) p3) = RES) := Lib.hid (by rw [← HR5.out, if_pos h44])
   refine (sign_ok l b (sk l p3) 44 w14 hl hs3.2 hR14 h44').mono ?_
   rintro e w15 ⟨rfl, hg, hR15⟩
   rw [hss3] at hR15
   have hg15 := grown_trans hg14 hg
   have XB15 := XB14.grown' hg (by omega)
   have TB15 := TB14.grown' hg (by omega)
   have rows15 := rows14.at hg (by omega)
   clear hg hR14 hg14 XB14 TB14 rows14 HR5 h44 h44'
   go_wp2_with fail
   go_roundg g'
   case measure => omega
   case rel =>
    have e1 : (ls ++ [W]).length = ls.length + 1 := by simp
    have e2 : (ks ++ [t]).length = ks.length + 1 := by simp
    exact ⟨sk l p3 + 1, ls ++ [W], ks ++ [t], _, _, _, by omega, by omega, by omega, by omega, by rw [e1, e2, HLEN.out], HR6, hR15, hg15, XB15, ⟨TB15.c0, TB15.c1, TB15.c2, TB15.c3, TB15.c4, TB15.fr, TB15.lt⟩, rows15⟩
  case neg =>
  have hstrs := hrows5.strs (D := fun _ => True) (fun _ _ => trivial)
  obtain ⟨_, _, e, hcl, hrow⟩ := hstrs
  injection e with e1 _ e3
  subst e1 e3
  obtain ⟨lb, lo, hAl, -, hrow⟩ := hrow (by omega)
  obtain ⟨q0, hq0⟩ : ∃ q0, ls[ls.length - 1]? = some q0 := ⟨_, List.getElem?_eq_getElem (by omega)⟩
  have hcell := hrow _ _ hq0
  have hlast : ls.getLast? = some q0 := by rw [List.getLast?_eq_getElem?]; exact hq0
  have hbe : labelOk ls W = (decide (ls.length < 6) && (!Op.bytesLess W q0 && !(W == q0))) := by simp [labelOk, hi, hlast, behind]
  clear hrow hq0 hlast hi
  have g0 : (0 : Int) < (ls.length : Int) := by omega
  have g1 : 0 ≤ (ls.length : Int) - 1 ∧ (ls.length : Int) - 1 < (ls.length : Int) := by omega
  cases hb1 : Op.bytesLess W q0 with
  | true =>
   have e1 : Rd.bad q1 = RES := by rw [← HR1.out, if_pos (by rw [hbe, hb1]; simp)]; rfl
   have H1 := Lib.hid e1
   clear e1 HR1 hbe
   subst hAl
   refine (isName_any W _ (by omega)).mono ?_; rw [HI.out]; rintro e w6 ⟨rfl, hb6⟩
   have hR6 := hR5.keep hb6
   have hg6 := grown_belowB hg5 hb6
   have TB6 := TB5.keep hb6 TB5.lt
   obtain ⟨t0, t1, t2, t3, t4, t5, t6⟩ := id TB6
   have hc6 := cell_keep hcell hb6
   go_wp2_with fail
   refine (fail_any l b q1 w6 hR6).mono ?_
   rintro e w7 ⟨rfl, hg7⟩
   exact ⟨rfl, grown_trans hg6 hg7, by rw [← H1.out]⟩
  | false =>
  by_cases hb2 : W = q0
  case pos =>
   have e1 : Rd.bad q1 = RES := by rw [← HR1.out, if_pos (by rw [hbe, hb2]; simp)]; rfl
   have H1 := Lib.hid e1
   have hb3' : (W == q0) = true := by simp [hb2]
   clear e1 HR1 hbe hb2
   subst hAl
   refine (isName_any W _ (by omega)).mono ?_; rw [HI.out]; rintro e w6 ⟨rfl, hb6⟩
   have hR6 := hR5.keep hb6
   have hg6 := grown_belowB hg5 hb6
   have TB6 := TB5.keep hb6 TB5.lt
   obtain ⟨t0, t1, t2, t3, t4, t5, t6⟩ := id TB6
   have hc6 := cell_keep hcell hb6
   go_wp2_with fail
   refine (fail_any l b q1 w6 hR6).mono ?_
   rintro e w7 ⟨rfl, hg7⟩
   exact ⟨rfl, grown_trans hg6 hg7, by rw [← H1.out]⟩
  case neg =>
  have hb3' : (W == q0) = false := by simpa using hb2
  by_cases h66 : ls.length = 6
  case pos =>
   have g6 : ((ls.length : Int) == 6) = true := by simp; omega
   have e1 : Rd.bad q1 = RES := by rw [← HR1.out, if_pos (by rw [hbe]; simp [h66])]; rfl
   have H1 := Lib.hid e1
   clear e1 HR1 hbe hb2 h66
   subst hAl
   refine (isName_any W _ (by omega)).mono ?_; rw [HI.out]; rintro e w6 ⟨rfl, hb6⟩
   have hR6 := hR5.keep hb6
   have hg6 := grown_belowB hg5 hb6
   have TB6 := TB5.keep hb6 TB5.lt
   obtain ⟨t0, t1, t2, t3, t4, t5, t6⟩ := id TB6
   have hc6 := cell_keep hcell hb6
   go_wp2_with fail
   refine (fail_any l b q1 w6 hR6).mono ?_
   rintro e w7 ⟨rfl, hg7⟩
   exact ⟨rfl, grown_trans hg6 hg7, by rw [← H1.out]⟩
  case neg =>
  have g6 : ((ls.length : Int) == 6) = false := by rw [beq_eq_false_iff_ne]; omega
  have hok : labelOk ls W = true := by rw [hbe, hb1, hb3']; simp; omega
  have hl6 : ls.length < 6 := by omega
  clear hbe hb2
  subst hAl
  have HR2 : Hid (((rdSign l 58 (q1 + W.length)).seq fun _ p2 => (rdOne l n p2).seq fun t p3 =>
   if l[sk l p3]? = some 125 then .ok (ls ++ [W], ks ++ [t]) (sk l p3 + 1)
   else if l[sk l p3]? = some 44 then rdChoice l (rdOne l n) g' (sk l p3 + 1) (ls ++ [W]) (ks ++ [t])
   else .bad (sk l p3)).seq (fun x p3 => .ok (.mk (kd : Int) 0 [] x.1 x.2) p3) = RES) := Lib.hid (by rw [← HR1.out, hok, if_neg (by simp)])
  clear HR1 hok
  refine (isName_any W _ (by omega)).mono ?_; rw [HI.out]; rintro e w6 ⟨rfl, hb6⟩
  have hR6 := hR5.keep hb6
  have hg6 := grown_belowB hg5 hb6
  have TB6 := TB5.keep hb6 TB5.lt
  have XB6 := XB5.keep hb6 XB5.lt
  have rows6 := hrows5.below hb6
  have hc6 := cell_keep hcell hb6
  clear hcell
  clear hR5 hg5 TB5 XB5 hrows5 hb6
  obtain ⟨t0, t1, t2, t3, t4, t5, t6⟩ := id TB6
  obtain ⟨r0, r1, r2, r3⟩ := id hR6
  go_wp2_with fail
  obtain ⟨hg7, hR7, XB7⟩ := go_on hg6 hR6 XB6 hne2 W.length
  have TB7 := TB6.far (p := ⟨b, 1, none⟩) (show b ≠ T by omega) (.int .i64 ((q1 : Int) + W.length))
  have rows7 := rows6.set (a := ⟨b, 1, none⟩) (show b < T + 1 by omega) (.int .i64 ((q1 : Int) + W.length))
  generalize w6.setCell ⟨b, 1, none⟩ (.int .i64 ((q1 : Int) + W.length)) = w7 at hg7 hR7 XB7 TB7 rows7 ⊢
  clear hR6 hg6 TB6 XB6 rows6 t0 t1 t2 t3 t4 t5 t6 r0 r1 r2 r3 g0 g1 g6 hb1 hb3' hc6
  clear w6
  by_cases h58 : l[sk l (q1 + W.length)]? = some 58
  case neg =>
   refine (sign_bad l b (q1 + W.length) 58 w7 hl hwq hR7 h58).mono ?_
   rintro e w8 ⟨rfl, hg8⟩
   have e1 : Rd.bad (sk l (q1 + W.length)) = RES := by rw [← HR2.out, sign_seq_bad h58]; rfl
   exact ⟨rfl, grown_trans hg7 hg8, by rw [← e1]⟩
  case pos =>
  have hs2 := sk_le hwq
  have hlt2 := at_lt h58
  have HR3 : Hid (((rdOne l n (sk l (q1 + W.length) + 1)).seq fun t p3 =>
   if l[sk l p3]? = some 125 then .ok (ls ++ [W], ks ++ [t]) (sk l p3 + 1)
   else if l[sk l p3]? = some 44 then rdChoice l (rdOne l n) g' (sk l p3 + 1) (ls ++ [W]) (ks ++ [t])
   else .bad (sk l p3)).seq (fun x p3 => .ok (.mk (kd : Int) 0 [] x.1 x.2) p3) = RES) := Lib.hid (by rw [← HR2.out, sign_seq_ok h58])
  refine (sign_ok l b (q1 + W.length) 58 w7 hl hwq hR7 h58).mono ?_
  rintro e w8 ⟨rfl, hg, hR8⟩
  have hg8 := grown_trans hg7 hg
  have XB8 := XB7.grown' hg (by omega)
  have TB8 := TB7.grown' hg (by omega)
  have rows8 := rows7.at hg (by omega)
  clear hg hR7 hg7 XB7 TB7 rows7 HR2 h58
  clear w7
  generalize sk l (q1 + W.length) = q2 at hs2 hlt2 hR8 HR3
  go_wp2_with fail
  have HSd : Hid ((fun w' : World => w'.cell? ⟨T, 3, none⟩ = some (.slice (some ⟨lb, lo, none⟩) ls.length cl) ∧ w'.cell? ⟨T, 4, none⟩ = some (.slice Ak ks.length ck)) w8.drew) := Lib.hid ⟨TB8.c3, TB8.c4⟩
  refine wp_region_T 12 (fun w' : World => w'.cell? ⟨T, 3, none⟩ = some (.slice (some ⟨lb, lo, none⟩) ls.length cl) ∧ w'.cell? ⟨T, 4, none⟩ = some (.slice Ak ks.length ck)) (by kernel_rfl) ?_
  refine zT 0 ?_ rfl (Or.inl ⟨by rfl, ?_⟩) HSd.out ?_
  rotate_left
  ·(intro wq hSw; obtain ⟨_,_⟩ := hSw; go_simp; all_goals (first | (with_reducible rfl) | (rw [zI])))
  simp only [zA, zB, zC, Act.put, zD, zE, zF]
  refine zT 1 ?_ rfl (Or.inl ⟨by rfl, ?_⟩) HSd.out ?_
  rotate_left
  ·(intro wq hSw; obtain ⟨_,_⟩ := hSw; go_simp; all_goals (first | (with_reducible rfl) | (rw [zI])))
  simp only [zA, zB, zC, Act.put, zD, zE, zF]
  refine zT 2 ?_ rfl (Or.inl ⟨by rfl, ?_⟩) HSd.out ?_
  rotate_left
  ·(intro wq hSw; obtain ⟨_,_⟩ := hSw; go_simp; all_goals (first | (with_reducible rfl) | (rw [zI])))
  simp only [zA, zB, zC, Act.put, zD, zE, zF]
  refine zT 5 ?_ rfl (Or.inl ⟨by rfl, ?_⟩) HSd.out ?_
  rotate_left
  ·(intro wq hSw; obtain ⟨_,_⟩ := hSw; go_simp; all_goals (first | (with_reducible rfl) | (rw [zI])))
  simp only [zA, zB, zC, Act.put, zD, zE, zF]
  refine zT 6 ?_ rfl (Or.inl ⟨by rfl, ?_⟩) HSd.out ?_
  rotate_left
  ·(intro wq hSw; obtain ⟨_,_⟩ := hSw; go_simp; all_goals (first | (with_reducible rfl) | (rw [zI])))
  simp only [zA, zB, zC, Act.put, zD, zE, zF]
  refine wpT_takeT (i := 7) (v := ?_) rfl (by kernel_rfl) (by kernel_rfl) (by kernel_rfl) (by kernel_rfl) (by kernel_rfl) (fun _ _ _ h => h) (Or.inl ⟨by rfl, ?_⟩) HSd.out ?_
  rotate_left
  ·(intro wq hSw; obtain ⟨_,_⟩ := hSw; go_simp; all_goals (first | (with_reducible rfl) | (rw [zI])))
  simp only [zA, zB, zC, Act.put, zD, zE, zF]
  refine zO 3 fun K hK => ?_
  go_simp
  have hba : Below w8.heap.size w8 (w8.alloc (.cells #[.string ⟨W.toArray⟩] 9)).drew := ((Below.refl _ _).alloc (Nat.le_refl _) _).drew
  have hca : (w8.alloc (.cells #[.string ⟨W.toArray⟩] 9)).drew.cell? ⟨w8.heap.size, 0, none⟩ = some (.string ⟨W.toArray⟩) := by simp [go_sem]
  have hza : w8.heap.size < (w8.alloc (.cells #[.string ⟨W.toArray⟩] 9)).drew.heap.size := by simp
  have rows8a := rows8.below hba
  have hT8 := TB8.lt
  refine hK.out _ _ (fun _ => ⟨cell_keep TB8.c3 hba, cell_keep TB8.c4 hba⟩) ?_
  clear hK K rows8
  try simp only [zA, zB, zC, Act.put, zD, zE, zF]
  refine zO 4 fun K hK => ?_
  refine step_app rt_strs rfl (.tmp 61) (.tmp 63) rfl (T + 1) _ ls.length (strVals ls) rfl rows8a.labels ⟨w8.heap.size, 0, none⟩ 1 1 [.string ⟨W.toArray⟩] rfl rfl (fun j u hj => ?_) (by simp [Value.oneCell']) (by unfold maxLen; omega) (by omega) (by omega) (fun v' w9 k1 k2 k3 k4 => ?_)
  ·match j, hj with
   | 0, hj => simp at hj; subst hj; exact hca
   | j + 1, hj => simp at hj
  have rows9 := rows8a.label k1 k2 k3
  have hb89 : Below (T + 1) w8 w9 := (hba.mono (by omega)).trans k4
  obtain ⟨Av, cv, rfl⟩ := own_form k1
  clear k1 k2 k3 k4 hca hza rows8a hba
  refine hK.out _ _ (fun _ => ⟨(hb89.cell (p := ⟨T, 3, none⟩) (show T < T + 1 by omega)).trans TB8.c3, (hb89.cell (p := ⟨T, 4, none⟩) (show T < T + 1 by omega)).trans TB8.c4⟩) ?_
  clear hK K
  try simp only [zA, zB, zC, Act.put, zD, zE, zF]
  have hR9 : RBox w9 b l (q2 + 1) := hR8.keepB hb89 (by omega)
  have hg9 : w.grownBy w9 (some b) := grown_belowT hg8 hb89 (by omega)
  have XB9 := XB8.keep hb89 (by omega)
  have TB9 := TB8.keep hb89 (by omega)
  have HSd9 : Hid ((fun w' : World => w'.cell? ⟨T, 3, none⟩ = some (.slice (some ⟨lb, lo, none⟩) ls.length cl) ∧ w'.cell? ⟨T, 4, none⟩ = some (.slice Ak ks.length ck)) w9) := Lib.hid ⟨TB9.c3, TB9.c4⟩
  clear hb89 hR8 hg8 XB8 TB8 HSd
  refine zT 11 ?_ rfl (Or.inl ⟨by rfl, ?_⟩) HSd9.out ?_
  rotate_left
  ·(intro wq hSw; obtain ⟨_,_⟩ := hSw; go_simp; all_goals (first | (with_reducible rfl) | (rw [zI])))
  simp only [zA, zB, zC, Act.put, zD, zE, zF]
  clear HSd9
  refine zO 8 fun K hK => ?_
  go_simp
  refine (ih (q2 + 1) w9 (by omega) (by omega) (hSk w w9 hS hg9) hR9).mono ?_
  rintro e w10 ⟨hg, hans⟩
  have hg10 := grown_trans hg9 hg
  have XB10 := XB9.grown' hg (by omega)
  have TB10 := TB9.grown' hg (by omega)
  have rows10 := rows9.at hg (by omega)
  have htook := rdOne_took (l := l) n (q2 + 1) (by omega)
  have hlab9 := fun k e => (rows9.labels.lt k e).2
  have hkid9 := fun k e => (rows9.kids.lt k e).2
  have hT9 := TB9.lt
  cases hr : rdOne l n (q2 + 1) with
  | bad q' =>
   rw [hr] at hans
   simp only at hans
   subst hans
   have e1 : Rd.bad q' = RES := by rw [← HR3.out, hr]; rfl
   exact ⟨rfl, hg10, by rw [← e1]⟩
  | ok t p3 =>
  rw [hr] at hans htook
  obtain ⟨v, rfl, hTt, hR10⟩ := hans
  obtain ⟨ht1, ht2⟩ : q2 + 1 ≤ p3 ∧ p3 ≤ l.length := htook
  have HR4 : Hid ((if l[sk l p3]? = some 125 then .ok (ls ++ [W], ks ++ [t]) (sk l p3 + 1)
   else if l[sk l p3]? = some 44 then rdChoice l (rdOne l n) g' (sk l p3 + 1) (ls ++ [W]) (ks ++ [t])
   else .bad (sk l p3) : Rd (List Str × List Ty)).seq (fun x p3 => .ok (.mk (kd : Int) 0 [] x.1 x.2) p3) = RES) := Lib.hid (by rw [← HR3.out, hr]; rfl)
  clear hg hR9 hg9 XB9 TB9 rows9 HR3 hr
  obtain ⟨lv, kv, rfl, m1, m2⟩ := hTt
  have hdis : ∀ k, w9.heap.size ≤ k → T + 1 ≤ k ∧ (Value.slice Av (ls.length + 1) cv).ownBlock ≠ some k ∧ (Value.slice Ak ks.length ck).ownBlock ≠ some k := fun k hk => ⟨by omega, fun e => by have := hlab9 k e; omega, fun e => by have := hkid9 k e; omega⟩
  have M1 := Lib.hid (m1.keep (D' := fun k => T + 1 ≤ k ∧ (Value.slice Av (ls.length + 1) cv).ownBlock ≠ some k ∧ (Value.slice Ak ks.length ck).ownBlock ≠ some k) (fun _ _ _ => rfl) (fun k hk _ => hdis k hk))
  have M2 := Lib.hid (m2.keep (D' := fun k => T + 1 ≤ k ∧ (Value.slice Av (ls.length + 1) cv).ownBlock ≠ some k ∧ (Value.slice Ak ks.length ck).ownBlock ≠ some k) (fun _ _ _ => rfl) (fun k hk _ => hdis k hk))
  clear hdis hlab9 hkid9
  obtain ⟨A3, c3, rfl, -, -⟩ := m1
  obtain ⟨A4, c4, rfl, -, -⟩ := m2
  clear hT9
  refine hK.out _ _ (fun _ => ⟨TB10.c3, TB10.c4⟩) ?_
  clear hK K
  try simp only [zA, zB, zC, Act.put, zD, zE, zF]
  refine zO 9 fun K hK => ?_
  go_simp
  have hb11 : Below w10.heap.size w10 (w10.alloc (.cells #[.int .i64 t.kind, .int .i64 t.sort, .string ⟨t.name.toArray⟩, .slice A3 t.labels.length c3, .slice A4 t.kids.length c4] 30)) := (Below.refl _ _).alloc (Nat.le_refl _) _
  have hz11 : w10.heap.size < (w10.alloc (.cells #[.int .i64 t.kind, .int .i64 t.sort, .string ⟨t.name.toArray⟩, .slice A3 t.labels.length c3, .slice A4 t.kids.length c4] 30)).heap.size := by simp
  have hT10 := TB10.lt
  have rows11 := rows10.below hb11
  have hc11 : Cells5D (fun k => T + 1 ≤ k ∧ (Value.slice Av (ls.length + 1) cv).ownBlock ≠ some k ∧ (Value.slice Ak ks.length ck).ownBlock ≠ some k) (w10.alloc (.cells #[.int .i64 t.kind, .int .i64 t.sort, .string ⟨t.name.toArray⟩, .slice A3 t.labels.length c3, .slice A4 t.kids.length c4] 30)) [.int .i64 t.kind, .int .i64 t.sort, .string ⟨t.name.toArray⟩, .slice A3 t.labels.length c3, .slice A4 t.kids.length c4] [t] :=
   .cons t _ _ [] [] (M1.out.keep (Same.below hb11) (fun _ h _ => h)) (M2.out.keep (Same.below hb11) (fun _ h _ => h)) .nil
  have HC11 := Lib.hid hc11
  refine hK.out _ _ (fun _ => ⟨cell_keep TB10.c3 hb11, cell_keep TB10.c4 hb11⟩) ?_
  clear hK K hc11 rows10 M1 M2
  try simp only [zA, zB, zC, Act.put, zD, zE, zF]
  refine zO 10 fun K hK => ?_
  refine step_app rt_types rfl (.tmp 66) (.tmp 69) rfl (T + 1) _ ks.length xs rfl rows11.kids ⟨w10.heap.size, 0, none⟩ 1 1 [.int .i64 t.kind, .int .i64 t.sort, .string ⟨t.name.toArray⟩, .slice A3 t.labels.length c3, .slice A4 t.kids.length c4] rfl rfl (five_new _ _ _ _ _ _ _) (by simp [Value.oneCell']) (by unfold maxLen; omega) (by omega) (by omega) (fun v' w12 k1 k2 k3 k4 => ?_)
  have rows12 := rows11.kid HC11.out k1 k2 k3
  have hb12 : Below (T + 1) w10 w12 := (hb11.mono (by omega)).trans k4
  obtain ⟨Ax, cx, rfl⟩ := own_form k1
  clear k1 k2 k3 k4 HC11 rows11 hb11 hz11
  refine hK.out _ _ (fun _ => ⟨(hb12.cell (p := ⟨T, 3, none⟩) (show T < T + 1 by omega)).trans TB10.c3, (hb12.cell (p := ⟨T, 4, none⟩) (show T < T + 1 by omega)).trans TB10.c4⟩) ?_
  clear hK K
  try simp only [zA, zB, zC, Act.put, zD, zE, zF]
  have hR12 : RBox w12 b l p3 := hR10.keepB hb12 (by omega)
  have hg12 : w.grownBy w12 (some b) := grown_belowT hg10 hb12 (by omega)
  have XB12 := XB10.keep hb12 (by omega)
  have TB12 := TB10.keep hb12 (by omega)
  clear hb12 hR10 hg10 XB10 TB10 hT10
  obtain ⟨t0, t1, t2, t3, t4, t5, t6⟩ := id TB12
  refine zO 12 fun K hK => ?_
  go_simp
  refine hK.out _ _ (fun h => absurd h (by decide)) ?_
  clear hK K
  try simp only [zA, zB, zC, Act.put, zD, zE, zF]
  refine zO 13 fun K hK => ?_
  go_simp
  refine hK.out _ _ (fun h => absurd h (by decide)) ?_
  clear hK K
  try simp only [zA, zB, zC, Act.put, zD, zE, zF]
  refine zO 14 fun K hK => ?_
  go_simp
  refine hK.out _ _ (fun h => absurd h (by decide)) ?_
  clear hK K
  try simp only [zA, zB, zC, Act.put, zD, zE, zF]
  refine wpT_done (by kernel_rfl) ?_
  have TB13 := TB12.set34 (.slice Av (ls.length + 1) cv) (.slice Ax (ks.length + 1) cx)
  have rows13 := (rows12.set (a := ⟨T, 3, none⟩) (show T < T + 1 by omega) (.slice Av (ls.length + 1) cv)).set (a := ⟨T, 4, none⟩) (show T < T + 1 by omega) (.slice Ax (ks.length + 1) cx)
  have hR13 := (hR12.far (a := ⟨T, 3, none⟩) (show T ≠ b by omega) (.slice Av (ls.length + 1) cv)).far (a := ⟨T, 4, none⟩) (show T ≠ b by omega) (.slice Ax (ks.length + 1) cx)
  have XB13 := (XB12.far (p := ⟨T, 3, none⟩) (show T ≠ w.heap.size by omega) (.slice Av (ls.length + 1) cv)).far (p := ⟨T, 4, none⟩) (show T ≠ w.heap.size by omega) (.slice Ax (ks.length + 1) cx)
  have hg13 := grown_in (a := ⟨T, 4, none⟩) (grown_in (a := ⟨T, 3, none⟩) hg12 (show w.heap.size ≤ T by omega) (.slice Av (ls.length + 1) cv)) (show w.heap.size ≤ T by omega) (.slice Ax (ks.length + 1) cx)
  generalize (w12.setCell ⟨T, 3, none⟩ (.slice Av (ls.length + 1) cv)).setCell ⟨T, 4, none⟩ (.slice Ax (ks.length + 1) cx) = w13 at TB13 rows13 hR13 XB13 hg13 ⊢
  clear TB12 rows12 hR12 XB12 hg12 t0 t1 t2 t3 t4 t5 t6
  clear w12
  have hs3 := sk_le ht2
  have hss3 := sk_sk l p3
  have hcal := is_any l b p3 125 w13 hl ht2 hR13
  go_wp2_with fail
  by_cases h125 : l[sk l p3]? = some 125
  case pos =>
   rw [decide_eq_true h125] at hcal
   have hlt3 := at_lt h125
   have HR5 : Hid (Rd.ok (.mk (kd : Int) 0 [] (ls ++ [W]) (ks ++ [t])) (sk l p3 + 1) = RES) := Lib.hid (by rw [← HR4.out, if_pos h125]; rfl)
   clear HR4 h125
   generalize sk l p3 = q3 at hs3 hss3 hlt3 hcal HR5
   refine hcal.mono ?_; clear hcal
   rintro e w14 ⟨rfl, hg, hR14⟩
   have hg14 := grown_trans hg13 hg
   have XB14 := XB13.grown' hg (by omega)
   have TB14 := TB13.grown' hg (by omega)
   have rows14 := rows13.at hg (by omega)
   clear hg hR13 hg13 XB13 TB13 rows13
   clear w13
   obtain ⟨r0, r1, r2, r3⟩ := id hR14
   obtain ⟨t0, t1, t2, t3, t4, t5, t6⟩ := id TB14
   obtain ⟨x0, x1, x2, x3, x4, x5, x6⟩ := id XB14
   simp only [Ty.kind, Ty.sort, Ty.name] at t0 t1 t2
   have hne3 : ¬ T = b := by omega
   have hne4 : ¬ b = T := by omega
   have hne5 : ¬ T = w.heap.size := by omega
   have hne6 : ¬ w.heap.size = T := by omega
   go_wp2_with fail
   obtain ⟨hg15, hR15, XB15⟩ := go_on hg14 hR14 XB14 hne2 1
   have rows15 := rows14.set (a := ⟨b, 1, none⟩) (show b < T + 1 by omega) (.int .i64 ((q3 : Int) + 1))
   rw [show ((1 : Nat) : Int) = 1 from rfl] at hg15 hR15 XB15
   generalize w14.setCell ⟨b, 1, none⟩ (.int .i64 ((q3 : Int) + 1)) = w15 at hg15 hR15 XB15 rows15 ⊢
   have e1 : (ls ++ [W]).length = ls.length + 1 := by simp
   have e2 : (ks ++ [t]).length = ks.length + 1 := by simp
   obtain ⟨hF, hgF, hRF, hT⟩ := finish hbw (Nat.le_refl _) hg15 hR15 XB15 (kd : Int) 0 [] (ls ++ [W]) (ks ++ [t]) (.slice Av (ls.length + 1) cv) (.slice Ax (ks.length + 1) cx) (rows15.strs (fun k hk => ⟨by omega, by omega⟩)) (rows15.tys (fun k hk => ⟨by omega, by omega⟩))
   generalize ((((w15.setCell ⟨w.heap.size, 0, none⟩ (.int .i64 (kd : Int))).setCell ⟨w.heap.size, 1, none⟩ (.int .i64 0)).setCell ⟨w.heap.size, 2, none⟩ (.string ⟨([] : Str).toArray⟩)).setCell ⟨w.heap.size, 3, none⟩ (.slice Av (ls.length + 1) cv)).setCell ⟨w.heap.size, 4, none⟩ (.slice Ax (ks.length + 1) cx) = w16 at hF hgF hRF hT ⊢
   obtain ⟨d0, d1, d2, d3, d4, d5, d6⟩ := hF
   refine bodyPost_ret (v := .agg #[.int .i64 (kd : Int), .int .i64 0, .string ⟨([] : Str).toArray⟩, (.slice Av (ls.length + 1) cv), (.slice Ax (ks.length + 1) cx)]) (by simp [results, Tryz.results168, go_sem, d0, d1, d2, d3, d4, Ty.kind, Ty.sort, Ty.name]) rfl ?_
   refine ⟨hgF, ?_⟩
   rw [← HR5.out]
   exact ⟨_, rfl, hT, hRF⟩
  case neg =>
  have hdn : decide (l[sk l p3]? = some 125) = false := by simpa using h125
  rw [hdn] at hcal
  have HR5 : Hid ((if l[sk l p3]? = some 44 then rdChoice l (rdOne l n) g' (sk l p3 + 1) (ls ++ [W]) (ks ++ [t]) else .bad (sk l p3) : Rd (List Str × List Ty)).seq (fun x p3 => .ok (.mk (kd : Int) 0 [] x.1 x.2) p3) = RES) := Lib.hid (by rw [← HR4.out, if_neg h125])
  clear HR4 h125 hdn
  refine hcal.mono ?_; clear hcal
  rintro e w14 ⟨rfl, hg, hR14⟩
  have hg14 := grown_trans hg13 hg
  have XB14 := XB13.grown' hg (by omega)
  have TB14 := TB13.grown' hg (by omega)
  have rows14 := rows13.at hg (by omega)
  clear hg hR13 hg13 XB13 TB13 rows13
  clear w13
  go_wp2_with fail
  by_cases h44 : l[sk l p3]? = some 44
  case neg =>
   have h44' : ¬ l[sk l (sk l p3)]? = some 44 := by rw [hss3]; exact h44
   have e1 : Rd.bad (sk l (sk l p3)) = RES := by rw [hss3, ← HR5.out, if_neg h44]; rfl
   refine (sign_bad l b (sk l p3) 44 w14 hl hs3.2 hR14 h44').mono ?_
   rintro e w15 ⟨rfl, hg15⟩
   exact ⟨rfl, grown_trans hg14 hg15, by rw [← e1]⟩
  case pos =>
  have hlt3 := at_lt h44
  have h44' : l[sk l (sk l p3)]? = some 44 := by rw [hss3]; exact h44
  have HR6 : Hid ((rdChoice l (rdOne l n) g' (sk l p3 + 1) (ls ++ [W]) (ks ++ [t])).seq (fun x p3 => .ok (.mk (kd : Int) 0 [] x.1 x.2) p3) = RES) := Lib.hid (by rw [← HR5.out, if_pos h44])
  refine (sign_ok l b (sk l p3) 44 w14 hl hs3.2 hR14 h44').mono ?_
  rintro e w15 ⟨rfl, hg, hR15⟩
  rw [hss3] at hR15
  have hg15 := grown_trans hg14 hg
  have XB15 := XB14.grown' hg (by omega)
  have TB15 := TB14.grown' hg (by omega)
  have rows15 := rows14.at hg (by omega)
  clear hg hR14 hg14 XB14 TB14 rows14 HR5 h44 h44'
  go_wp2_with fail
  go_roundg g'
  case measure => omega
  case rel =>
   have e1 : (ls ++ [W]).length = ls.length + 1 := by simp
   have e2 : (ks ++ [t]).length = ks.length + 1 := by simp
   exact ⟨sk l p3 + 1, ls ++ [W], ks ++ [t], _, _, _, by omega, by omega, by omega, by omega, by rw [e1, e2, HLEN.out], HR6, hR15, hg15, XB15, ⟨TB15.c0, TB15.c1, TB15.c2, TB15.c3, TB15.c4, TB15.fr, TB15.lt⟩, rows15⟩
end
end Go.Proofs.YtpidjanngbaiiaaGreatDoor
