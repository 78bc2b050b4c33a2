/-
  The program's reader of a type: what is passed.
-/
import Derived.Test.YtcacembpegoghaaDoorRdO2
import Derived.Test.YtcacembpegoghaaDoorTyM
namespace Go.Proofs.YtcacembpegoghaaDoor
open Go.RowKit Go.Proofs

set_option maxRecDepth 100000
/-- Two new boxes. -/
theorem two_boxes (w : World) (E : TypeId) :
    VBox ((w.alloc (.cells #[.int .i64 0, .int .i64 0, .string ⟨#[]⟩, .slice none 0 0, .slice none 0 0] E)).alloc (.cells #[.int .i64 0, .int .i64 0, .string ⟨#[]⟩, .slice none 0 0, .slice none 0 0] E)) w.heap.size zeroTy (.slice none 0 0) (.slice none 0 0) ∧
    VBox ((w.alloc (.cells #[.int .i64 0, .int .i64 0, .string ⟨#[]⟩, .slice none 0 0, .slice none 0 0] E)).alloc (.cells #[.int .i64 0, .int .i64 0, .string ⟨#[]⟩, .slice none 0 0, .slice none 0 0] E)) (w.heap.size + 1) zeroTy (.slice none 0 0) (.slice none 0 0) :=
  ⟨⟨by simp [go_sem]; rfl, by simp [go_sem]; rfl, by simp [go_sem]; rfl, by simp [go_sem], by simp [go_sem], fun j => by simp [go_sem], by simp; omega⟩,
   ⟨by simp [go_sem]; rfl, by simp [go_sem]; rfl, by simp [go_sem]; rfl, by simp [go_sem], by simp [go_sem], fun j => by simp [go_sem], by simp⟩⟩
def sortsL : List Str := [[], [105, 110, 116], [98, 111, 111, 108], [116, 101, 120, 116]]
/-- Where a word stands among the words of sorts. -/
def ixOf (W : Str) : Int := if W = [] then 0 else if sortIx W = 0 then -1 else sortIx W
theorem ixOf_lt {W : Str} (h : sortIx W = 0) : ixOf W < 1 := by
  unfold ixOf
  rw [h]
  split <;> decide
theorem ixOf_eq {W : Str} (h : ¬ sortIx W = 0) : ixOf W = sortIx W := by
  unfold ixOf
  rw [if_neg (sortIx_low h).1, if_neg h]
theorem ixOf_ge {W : Str} (h : ¬ sortIx W = 0) : ¬ ixOf W < 1 := by
  have := sortIx_nonneg W
  rw [ixOf_eq h]
  omega
theorem index_sorts {w : World} {gb go gc : Nat} (hrow : StrRow w gb go [[], [105, 110, 116], [98, 111, 111, 108], [116, 101, 120, 116]]) (W : Str) :
    Calls Tryd.prog 176 #[.slice (some ⟨gb, go, none⟩) 4 gc, .string ⟨W.toArray⟩] w fun e w' => e = .returned (.int .i64 (ixOf W)) ∧ w' = w := by
  have h := Tryd.slices_Index_string gb go 4 gc (sortsL.map fun s => ⟨s.toArray⟩) ⟨W.toArray⟩ w (by simp [sortsL]) (by decide) (by
    intro j hj
    have hj' : j < 4 := by simpa [sortsL] using hj
    rw [hrow j (sortsL[j]'(by simpa [sortsL] using hj')) (by rw [List.getElem?_eq_getElem]; rfl)]
    congr 2
    rw [List.getD_eq_getElem?_getD, List.getElem?_map, List.getElem?_eq_getElem (by simpa [sortsL] using hj')]
    rfl)
  rw [List.take_of_length_le (by simp [sortsL])] at h
  have e : Lib.idxOfS (sortsL.map fun s => (⟨s.toArray⟩ : ByteArray)) ⟨W.toArray⟩ = ixOf W := by
    unfold ixOf sortIx
    simp only [sortsL, List.map, Lib.idxOfS, Lib.idxFromS, mk_inj, @eq_comm _ _ W]
    repeat' split
    all_goals first | rfl | (subst_vars; simp_all) | simp_all
  rw [e] at h
  exact h
theorem sign_seq_ok {α : Type} {l : Str} {c : UInt8} {p : Nat} (h : l[sk l p]? = some c) (f : Unit → Nat → Rd α) : (rdSign l c p).seq f = f () (sk l p + 1) := by rw [rdSign, if_pos h]; rfl
theorem sign_seq_bad {α : Type} {l : Str} {c : UInt8} {p : Nat} (h : ¬ l[sk l p]? = some c) (f : Unit → Nat → Rd α) : (rdSign l c p).seq f = .bad (sk l p) := by rw [rdSign, if_neg h]; rfl
theorem grown_drew {a w : World} {row : Option Nat} (h : a.grownBy w row) : a.grownBy w.drew row := ⟨h.os, h.tape, h.output, h.size, h.block⟩
theorem drew_grown {w w' : World} {row : Option Nat} (h : w.drew.grownBy w' row) : w.grownBy w' row := ⟨h.os, h.tape, h.output, h.size, h.block⟩
theorem new_val (w : World) (t : Ty) (lv kv : Value) (E : TypeId) : VBox (w.alloc (.cells #[.int .i64 t.kind, .int .i64 t.sort, .string ⟨t.name.toArray⟩, lv, kv] E)) w.heap.size t lv kv :=
  ⟨by simp [go_sem], by simp [go_sem], by simp [go_sem], by simp [go_sem], by simp [go_sem], fun j => by simp [go_sem], by simp⟩

section
variable (l : Str) (b p : Nat) (w : World) (hl : l.length ≤ 2000) (hp : p + 1 ≤ l.length) (hR : RBox w b l p) (S : World → Prop) (hSk : ∀ w w' : World, S w → w.grownBy w' (some b) → S w') (hSo : ∀ w : World, S w → Sorts w) (hS : S w) (n : Nat)
  (ih : ∀ (p : Nat) (w : World), p ≤ l.length → l.length < n + p → S w → RBox w b l p → Calls Tryd.prog 106 #[.pointer (some ⟨b, 0, none⟩)] w (Ans w b l (rdOne l n p))) (hn : l.length < n + (p + 1))
include hl hp hR hSk hSo hS ih hn
set_option maxHeartbeats 4000000 in
theorem passed_any (add : Nat) (ha : add ≤ 1) : Calls Tryd.prog 190 #[.pointer (some ⟨b, 0, none⟩), .int .i64 ((2 : Int) + add), .int .i64 ((4 : Int) + add)] w (Ans w b l (rdPassed l (rdOne l n) add (p + 1))) := by
  obtain ⟨r0, r1, r2, r3⟩ := id hR
  have hbw := hR.lt
  have hs := sk_le hp
  have hw := wd_le hs.2
  obtain ⟨RES, hRES⟩ : ∃ r, rdPassed l (rdOne l n) add (p + 1) = r := ⟨_, rfl⟩
  rw [hRES]
  have HRES := Lib.hid hRES; clear hRES
  go_enter Tryd.func190, Tryd.ntmps190
  go_wp2_with fail
  have hg1 := grown_at w b 1 (.int .i64 ((p : Int) + 1))
  have hR1 : RBox (w.setCell ⟨b, 1, none⟩ (.int .i64 ((p : Int) + 1))) b l (p + 1) := by simpa using hR.set (p + 1)
  have hz1 : (w.setCell ⟨b, 1, none⟩ (.int .i64 ((p : Int) + 1))).heap.size = w.heap.size := by simp only [World.size_setCell]
  generalize w.setCell ⟨b, 1, none⟩ (.int .i64 ((p : Int) + 1)) = w1 at hg1 hR1 hz1 ⊢
  have XB := new_box w1 51
  rw [hz1] at XB
  have hb2 : Below w1.heap.size w1 (w1.alloc (.cells #[.int .i64 0, .int .i64 0, .string ⟨#[]⟩, .slice none 0 0, .slice none 0 0] 51)) := (Below.refl _ _).alloc (Nat.le_refl _) _
  have hR2 := hR1.keep hb2
  have hg2 := grown_belowB hg1 hb2
  generalize w1.alloc (.cells #[.int .i64 0, .int .i64 0, .string ⟨#[]⟩, .slice none 0 0, .slice none 0 0] 51) = w2 at XB hR2 hg2 ⊢
  clear hb2 hR1 hg1 hz1 r0 r1 r2 r3
  clear w1
  have hne1 : ¬ w.heap.size = b := by omega
  have hne2 : ¬ b = w.heap.size := by omega
  have hcal := is_any l b (p + 1) 123 w2 hl hp hR2
  by_cases h123 : l[sk l (p + 1)]? = some 123
  · rw [decide_eq_true h123] at hcal
    have hlt := at_lt h123
    have H123 := Lib.hid h123; clear h123
    have hres : (rdOne l n (sk l (p + 1) + 1)).seq (fun t p1 => (rdSign l 125 p1).seq fun _ p2 => (rdSign l 46 p2).seq fun _ p3 => (rdOne l n p3).seq fun u p4 => .ok (.mk (4 + add) 0 [] [] [t, u]) p4) = RES := by
      rw [← HRES.out, rdPassed, if_pos H123.out]
    have HR := Lib.hid hres; clear hres
    clear H123 HRES hw
    generalize sk l (p + 1) = q at hs hlt hcal HR
    refine hcal.mono ?_; clear hcal
    rintro e w3 ⟨rfl, hg, hR3⟩
    have hg3 := grown_trans hg2 hg
    have XB3 := XB.grown' hg (by omega)
    clear hg hR2 hg2 XB
    clear w2
    obtain ⟨r0, r1, r2, r3⟩ := id hR3
    obtain ⟨x0, x1, x2, x3, x4, x5, x6⟩ := id XB3
    go_wp2_with fail
    obtain ⟨hg4, hR4, XB4⟩ := go_on hg3 hR3 XB3 hne2 1
    rw [show ((1 : Nat) : Int) = 1 from rfl] at hg4 hR4 XB4
    generalize w3.setCell ⟨b, 1, none⟩ (.int .i64 ((q : Int) + 1)) = w4 at hg4 hR4 XB4 ⊢
    clear hg3 hR3 XB3 r0 r1 r2 r3 x0 x1 x2 x3 x4 x5 x6
    clear w3
    have htook := rdOne_took (l := l) n (q + 1) (by omega)
    refine (ih (q + 1) w4 (by omega) (by omega) (hSk w w4 hS hg4) hR4).mono ?_
    rintro e w5 ⟨hg, hans⟩
    have hg5 := grown_trans hg4 hg
    have XB5 := XB4.grown' hg (by omega)
    have hsz4 : w.heap.size < w4.heap.size := XB4.lt
    have hsz45 := hg.size
    cases hr : rdOne l n (q + 1) with
    | bad q' =>
      rw [hr] at hans
      simp only at hans
      subst hans
      have e1 : Rd.bad q' = RES := by rw [← HR.out, hr]; rfl
      exact ⟨rfl, hg5, by rw [← e1]⟩
    | ok t p1 =>
    rw [hr] at hans htook
    obtain ⟨v, rfl, hT, hR5⟩ := hans
    obtain ⟨ht1, ht2⟩ : q + 1 ≤ p1 ∧ p1 ≤ l.length := htook
    have HR1 : Hid ((rdSign l 125 p1).seq (fun _ p2 => (rdSign l 46 p2).seq fun _ p3 => (rdOne l n p3).seq fun u p4 => .ok (.mk (4 + add) 0 [] [] [t, u]) p4) = RES) := Lib.hid (by rw [← HR.out, hr]; rfl)
    clear hg hR4 hg4 XB4 HR hr
    obtain ⟨lv, kv, rfl, k1, k2⟩ := hT
    have K1 := Lib.hid k1; have K2 := Lib.hid k2
    obtain ⟨A1, c1, rfl, -, -⟩ := k1
    obtain ⟨A2, c2, rfl, -, -⟩ := k2
    go_wp2_with fail
    have TB6 := new_val w5 t (.slice A1 t.labels.length c1) (.slice A2 t.kids.length c2) 51
    have hb6 : Below w5.heap.size w5 (w5.alloc (.cells #[.int .i64 t.kind, .int .i64 t.sort, .string ⟨t.name.toArray⟩, .slice A1 t.labels.length c1, .slice A2 t.kids.length c2] 51)) := (Below.refl _ _).alloc (Nat.le_refl _) _
    have hR6 := hR5.keep hb6
    have hg6 := grown_belowB hg5 hb6
    have XB6 := XB5.keep hb6 XB5.lt
    replace K1 := Lib.hid (K1.out.keep (D' := fun k => w4.heap.size ≤ k) (Same.below hb6) (fun _ h _ => h))
    replace K2 := Lib.hid (K2.out.keep (D' := fun k => w4.heap.size ≤ k) (Same.below hb6) (fun _ h _ => h))
    have hb5 : b < w5.heap.size := hR5.lt
    generalize w5.alloc (.cells #[.int .i64 t.kind, .int .i64 t.sort, .string ⟨t.name.toArray⟩, .slice A1 t.labels.length c1, .slice A2 t.kids.length c2] 51) = w6 at TB6 hR6 hg6 XB6 K1 K2 ⊢
    clear hb6 hR5 hg5 XB5
    generalize w5.heap.size = T at TB6 hsz45 hb5 ⊢
    clear w5
    by_cases h125 : l[sk l p1]? = some 125
    case neg =>
      refine (sign_bad l b p1 125 w6 hl ht2 hR6 h125).mono ?_
      rintro e w7 ⟨rfl, hg7⟩
      have e1 : Rd.bad (sk l p1) = RES := (sign_seq_bad h125 _).symm.trans HR1.out
      exact ⟨rfl, grown_trans hg6 hg7, by rw [← e1]⟩
    case pos =>
    have hs1 := sk_le ht2
    have hlt1 := at_lt h125
    have HR2 : Hid ((rdSign l 46 (sk l p1 + 1)).seq (fun _ p3 => (rdOne l n p3).seq fun u p4 => .ok (.mk (4 + add) 0 [] [] [t, u]) p4) = RES) := Lib.hid ((sign_seq_ok h125 _).symm.trans HR1.out)
    refine (sign_ok l b p1 125 w6 hl ht2 hR6 h125).mono ?_
    rintro e w7 ⟨rfl, hg, hR7⟩
    have hg7 := grown_trans hg6 hg
    have XB7 := XB6.grown' hg (by omega)
    have TB7 := TB6.grown' hg (by omega)
    have hs67 : Same (· ≠ b) w6 w7 := Same.grown hg (fun k hk e => hk (by injection e))
    replace K1 := Lib.hid (K1.out.keep (D' := fun k => w4.heap.size ≤ k) (fun k hk hl => hs67 k (by omega) hl) (fun _ h _ => h))
    replace K2 := Lib.hid (K2.out.keep (D' := fun k => w4.heap.size ≤ k) (fun k hk hl => hs67 k (by omega) hl) (fun _ h _ => h))
    clear hg hR6 hg6 XB6 TB6 hs67 HR1 h125
    clear w6
    generalize sk l p1 = q1 at hs1 hlt1 hR7 HR2
    go_wp2_with fail
    by_cases h46 : l[sk l (q1 + 1)]? = some 46
    case neg =>
      refine (sign_bad l b (q1 + 1) 46 w7 hl (by omega) hR7 h46).mono ?_
      rintro e w8 ⟨rfl, hg8⟩
      have e1 : Rd.bad (sk l (q1 + 1)) = RES := (sign_seq_bad h46 _).symm.trans HR2.out
      exact ⟨rfl, grown_trans hg7 hg8, by rw [← e1]⟩
    case pos =>
    have hs2 := sk_le (l := l) (p := q1 + 1) (by omega)
    have hlt2 := at_lt h46
    have HR3 : Hid ((rdOne l n (sk l (q1 + 1) + 1)).seq (fun u p4 => .ok (.mk (4 + add) 0 [] [] [t, u]) p4) = RES) := Lib.hid ((sign_seq_ok h46 _).symm.trans HR2.out)
    refine (sign_ok l b (q1 + 1) 46 w7 hl (by omega) hR7 h46).mono ?_
    rintro e w8 ⟨rfl, hg, hR8⟩
    have hg8 := grown_trans hg7 hg
    have XB8 := XB7.grown' hg (by omega)
    have TB8 := TB7.grown' hg (by omega)
    have hs78 : Same (· ≠ b) w7 w8 := Same.grown hg (fun k hk e => hk (by injection e))
    replace K1 := Lib.hid (K1.out.keep (D' := fun k => w4.heap.size ≤ k) (fun k hk hl => hs78 k (by omega) hl) (fun _ h _ => h))
    replace K2 := Lib.hid (K2.out.keep (D' := fun k => w4.heap.size ≤ k) (fun k hk hl => hs78 k (by omega) hl) (fun _ h _ => h))
    clear hg hR7 hg7 XB7 TB7 hs78 HR2 h46
    clear w7
    generalize sk l (q1 + 1) = q2 at hs2 hlt2 hR8 HR3
    go_wp2_with fail
    have HSd : Hid ((fun w' : World => w'.cell? ⟨T, 0, none⟩ = some (.int .i64 t.kind) ∧ w'.cell? ⟨T, 1, none⟩ = some (.int .i64 t.sort) ∧ w'.cell? ⟨T, 2, none⟩ = some (.string ⟨t.name.toArray⟩) ∧ w'.cell? ⟨T, 3, none⟩ = some (.slice A1 t.labels.length c1) ∧ w'.cell? ⟨T, 4, none⟩ = some (.slice A2 t.kids.length c2)) w8.drew) := Lib.hid ⟨TB8.c0, TB8.c1, TB8.c2, TB8.c3, TB8.c4⟩
    refine wp_region_T 6 (fun w' : World => w'.cell? ⟨T, 0, none⟩ = some (.int .i64 t.kind) ∧ w'.cell? ⟨T, 1, none⟩ = some (.int .i64 t.sort) ∧ w'.cell? ⟨T, 2, none⟩ = some (.string ⟨t.name.toArray⟩) ∧ w'.cell? ⟨T, 3, none⟩ = some (.slice A1 t.labels.length c1) ∧ w'.cell? ⟨T, 4, none⟩ = some (.slice A2 t.kids.length c2)) (by kernel_rfl) ?_
    refine wpT_take (i := 0) (v := ?_) rfl (by kernel_rfl) (by kernel_rfl) (by kernel_rfl) (by kernel_rfl) (fun _ _ _ h => h) (Or.inl ⟨by rfl, ?_⟩) HSd.out ?_
    rotate_left
    · (intro wq hSw; obtain ⟨z0, z1, z2, z3, z4⟩ := hSw; go_simp; all_goals (first | (with_reducible rfl) | (rw [if_neg (by first | omega | (simp; omega) | (simp only [List.length_append, List.length_cons, List.length_nil]; omega))])))
    simp only [List.getElem_toArray, List.getElem_cons_succ, List.getElem_cons_zero, Act.put, List.setIfInBounds_toArray, List.set_cons_zero, List.set_cons_succ]
    refine wpT_take (i := 1) (v := ?_) rfl (by kernel_rfl) (by kernel_rfl) (by kernel_rfl) (by kernel_rfl) (fun _ _ _ h => h) (Or.inl ⟨by rfl, ?_⟩) HSd.out ?_
    rotate_left
    · (intro wq hSw; obtain ⟨z0, z1, z2, z3, z4⟩ := hSw; go_simp; all_goals (first | (with_reducible rfl) | (rw [if_neg (by first | omega | (simp; omega) | (simp only [List.length_append, List.length_cons, List.length_nil]; omega))])))
    simp only [List.getElem_toArray, List.getElem_cons_succ, List.getElem_cons_zero, Act.put, List.setIfInBounds_toArray, List.set_cons_zero, List.set_cons_succ]
    refine wpT_take (i := 2) (v := ?_) rfl (by kernel_rfl) (by kernel_rfl) (by kernel_rfl) (by kernel_rfl) (fun _ _ _ h => h) (Or.inl ⟨by rfl, ?_⟩) HSd.out ?_
    rotate_left
    · (intro wq hSw; obtain ⟨z0, z1, z2, z3, z4⟩ := hSw; go_simp; all_goals (first | (with_reducible rfl) | (rw [if_neg (by first | omega | (simp; omega) | (simp only [List.length_append, List.length_cons, List.length_nil]; omega))])))
    simp only [List.getElem_toArray, List.getElem_cons_succ, List.getElem_cons_zero, Act.put, List.setIfInBounds_toArray, List.set_cons_zero, List.set_cons_succ]
    refine wpT_one (i := 3) rfl (by kernel_rfl) fun K hK => ?_
    go_simp
    have htook2 := rdOne_took (l := l) n (q2 + 1) (by omega)
    have hgd : w.grownBy w8.drew (some b) := grown_drew hg8
    have hRd : RBox w8.drew b l (q2 + 1) := ⟨hR8.c0, hR8.c1, hR8.fr, hR8.lt⟩
    refine (ih (q2 + 1) w8.drew (by omega) (by omega) (hSk w w8.drew hS hgd) hRd).mono ?_
    rintro e w9 ⟨hg, hans⟩
    have hg9 := grown_trans hgd hg
    have hg' : w8.grownBy w9 (some b) := drew_grown hg
    have XB9 := XB8.grown' hg' (by omega)
    have TB9 := TB8.grown' hg' (by omega)
    have hs89 : Same (· ≠ b) w8 w9 := Same.grown hg' (fun k hk e => hk (by injection e))
    replace K1 := Lib.hid (K1.out.keep (D' := fun k => w4.heap.size ≤ k) (fun k hk hl => hs89 k (by omega) hl) (fun _ h _ => h))
    replace K2 := Lib.hid (K2.out.keep (D' := fun k => w4.heap.size ≤ k) (fun k hk hl => hs89 k (by omega) hl) (fun _ h _ => h))
    have hz8 : w4.heap.size ≤ w8.heap.size := by have := TB8.lt; omega
    have hz89 := hg'.size
    cases hr : rdOne l n (q2 + 1) with
    | bad q' =>
      rw [hr] at hans
      simp only at hans
      subst hans
      have e1 : Rd.bad q' = RES := by rw [← HR3.out, hr]; rfl
      exact ⟨rfl, hg9, by rw [← e1]⟩
    | ok u p4 =>
    rw [hr] at hans htook2
    obtain ⟨v, rfl, hU, hR9⟩ := hans
    have HR4 : Hid (.ok (.mk (4 + add) 0 [] [] [t, u]) p4 = RES) := Lib.hid (by rw [← HR3.out, hr]; rfl)
    clear hg hg' hR8 hRd hgd hg8 XB8 TB8 hs89 HR3 hr htook2
    obtain ⟨lv, kv, rfl, k3, k4⟩ := hU
    have K3 := Lib.hid (k3.keep (D' := fun k => w4.heap.size ≤ k) (fun _ _ _ => rfl) (fun k hk _ => by have : w8.drew.heap.size ≤ k := hk; have e : w8.drew.heap.size = w8.heap.size := rfl; omega))
    have K4 := Lib.hid (k4.keep (D' := fun k => w4.heap.size ≤ k) (fun _ _ _ => rfl) (fun k hk _ => by have : w8.drew.heap.size ≤ k := hk; have e : w8.drew.heap.size = w8.heap.size := rfl; omega))
    obtain ⟨A3, c3, rfl, -, -⟩ := k3
    obtain ⟨A4, c4, rfl, -, -⟩ := k4
    refine hK.out _ _ (fun _ => ⟨TB9.c0, TB9.c1, TB9.c2, TB9.c3, TB9.c4⟩) ?_
    clear hK K
    try simp only [List.getElem_toArray, List.getElem_cons_succ, List.getElem_cons_zero, Act.put, List.setIfInBounds_toArray, List.set_cons_zero, List.set_cons_succ]
    refine wpT_one (i := 4) rfl (by kernel_rfl) fun K hK => ?_
    go_simp
    have hb10 : Below w9.heap.size w9 (w9.alloc (.cells #[.int .i64 t.kind, .int .i64 t.sort, .string ⟨t.name.toArray⟩, .slice A1 t.labels.length c1, .slice A2 t.kids.length c2, .int .i64 u.kind, .int .i64 u.sort, .string ⟨u.name.toArray⟩, .slice A3 u.labels.length c3, .slice A4 u.kids.length c4] 51)) := (Below.refl _ _).alloc (Nat.le_refl _) _
    have TB10 := TB9.keep hb10 TB9.lt
    refine hK.out _ _ (fun _ => ⟨TB10.c0, TB10.c1, TB10.c2, TB10.c3, TB10.c4⟩) ?_
    clear hK K TB10 hb10
    try simp only [List.getElem_toArray, List.getElem_cons_succ, List.getElem_cons_zero, Act.put, List.setIfInBounds_toArray, List.set_cons_zero, List.set_cons_succ]
    refine wpT_one (i := 5) rfl (by kernel_rfl) fun K hK => ?_
    go_simp
    have hb10 : Below w9.heap.size w9 (w9.alloc (.cells #[.int .i64 t.kind, .int .i64 t.sort, .string ⟨t.name.toArray⟩, .slice A1 t.labels.length c1, .slice A2 t.kids.length c2, .int .i64 u.kind, .int .i64 u.sort, .string ⟨u.name.toArray⟩, .slice A3 u.labels.length c3, .slice A4 u.kids.length c4] 51)) := (Below.refl _ _).alloc (Nat.le_refl _) _
    have TB10 := TB9.keep hb10 TB9.lt
    refine hK.out _ _ (fun _ => ⟨TB10.c0, TB10.c1, TB10.c2, TB10.c3, TB10.c4⟩) ?_
    clear hK K TB10
    try simp only [List.getElem_toArray, List.getElem_cons_succ, List.getElem_cons_zero, Act.put, List.setIfInBounds_toArray, List.set_cons_zero, List.set_cons_succ]
    have hX9 := XB9.lt
    obtain ⟨x0, x1, x2, x3, x4, x5, x6⟩ := id XB9
    refine wpT_one (i := 6) rfl (by kernel_rfl) fun K hK => ?_
    go_simp
    refine hK.out _ _ (fun h => absurd h (by decide)) ?_
    clear hK K
    try simp only [List.getElem_toArray, List.getElem_cons_succ, List.getElem_cons_zero, Act.put, List.setIfInBounds_toArray, List.set_cons_zero, List.set_cons_succ]
    refine wpT_done (by kernel_rfl) ?_
    go_wp2_with fail
    obtain ⟨hF, hgF, hRF, hT⟩ := finishK hbw (Nat.le_refl _) (m := w4.heap.size) (by omega) (by omega) hg9 hR9 XB9 (4 + add) 0 [] _ [t, u] (.cons t _ _ _ [u] K1.out K2.out (.cons u _ _ [] [] K3.out K4.out .nil)) 51
    simp only [List.length_cons, List.length_nil] at hF hgF hRF hT
    generalize ((((((w9.setCell ⟨w.heap.size, 0, none⟩ (.int .i64 (4 + (add : Int)))).setCell ⟨w.heap.size, 1, none⟩ (.int .i64 0)).setCell ⟨w.heap.size, 2, none⟩ (.string ⟨([] : Str).toArray⟩)).setCell ⟨w.heap.size, 3, none⟩ (.slice none 0 0)).setCell ⟨w.heap.size, 4, none⟩ (.slice (some ⟨w9.heap.size, 0, none⟩) (0 + 1 + 1) (0 + 1 + 1))).alloc _) = w11 at hF hgF hRF hT ⊢
    obtain ⟨d0, d1, d2, d3, d4, d5, d6⟩ := hF
    refine bodyPost_ret (v := .agg #[.int .i64 (4 + (add : Int)), .int .i64 0, .string ⟨([] : Str).toArray⟩, .slice none 0 0, .slice (some ⟨w9.heap.size, 0, none⟩) 2 2]) (by simp [results, Tryd.results190, go_sem, d0, d1, d2, d3, d4, Ty.kind, Ty.sort, Ty.name]) rfl ?_
    refine ⟨hgF, ?_⟩
    rw [← HR4.out]
    exact ⟨_, rfl, hT, hRF⟩
  · have h123' : decide (l[sk l (p + 1)]? = some 123) = false := by simpa using h123
    rw [h123'] at hcal
    refine hcal.mono ?_; clear hcal
    rintro e w3 ⟨rfl, hg, hR3⟩
    have hg3 := grown_trans hg2 hg
    have XB3 := XB.grown' hg (by omega)
    clear hg hR2 hg2 XB
    clear w2
    have hres : (if sortIx (wd l (sk l (p + 1))) = 0 then .bad (sk l (p + 1)) else (rdSign l 46 (sk l (p + 1) + (wd l (sk l (p + 1))).length)).seq fun _ p2 => (rdOne l n p2).seq fun t p3 => .ok (.mk (2 + add) (sortIx (wd l (sk l (p + 1)))) [] [] [t]) p3 : Rd Ty) = RES := by
      rw [← HRES.out, rdPassed, if_neg h123]
    have HR := Lib.hid hres; clear hres
    clear HRES h123 h123'
    have hqq := sk_sk l (p + 1)
    have hcal := word_any l b (sk l (p + 1)) w3 hl hs.2 hR3
    rw [hqq] at hcal
    generalize sk l (p + 1) = q at hs hw hcal HR hR3
    generalize wd l q = W at hw hcal HR
    go_wp2_with fail
    refine hcal.mono ?_; clear hcal
    rintro e w4 ⟨rfl, hg, hR4⟩
    have hg4 := grown_trans hg3 hg
    have XB4 := XB3.grown' hg (by omega)
    clear hg hR3 hg3 XB3
    clear w3
    obtain ⟨gb, go, gc, eg0, hgc, hrow⟩ := hSo w4 (hSk w w4 hS hg4)
    have hidx := index_sorts (gc := gc) hrow W
    obtain ⟨X, hX⟩ : ∃ x, ixOf W = x := ⟨_, rfl⟩
    rw [hX] at hidx
    have HX := Lib.hid hX; clear hX
    clear hrow
    go_wp2_with fail
    refine hidx.mono ?_; clear hidx
    rintro e w5 ⟨rfl, hw5⟩
    rw [hw5]
    clear hw5
    clear w5
    by_cases h0 : sortIx W = 0
    case pos =>
      have hX1 : X < 1 := by rw [← HX.out]; exact ixOf_lt h0
      have e1 : Rd.bad q = RES := by rw [← HR.out, if_pos h0]
      have H1 := Lib.hid e1
      clear h0 e1 HR HX
      go_wp2_with fail
      refine (fail_any l b q w4 hR4).mono ?_
      rintro e w6 ⟨rfl, hg6⟩
      exact ⟨rfl, grown_trans hg4 hg6, by rw [← H1.out]⟩
    case neg =>
    have hX1 : ¬ X < 1 := by rw [← HX.out]; exact ixOf_ge h0
    have hXs : X = sortIx W := by rw [← HX.out]; exact ixOf_eq h0
    have HR1 : Hid ((rdSign l 46 (q + W.length)).seq (fun _ p2 => (rdOne l n p2).seq fun t p3 => .ok (.mk (2 + add) X [] [] [t]) p3) = RES) := Lib.hid (by rw [hXs, ← HR.out, if_neg h0])
    clear HR HX h0 hXs eg0
    obtain ⟨r0, r1, r2, r3⟩ := id hR4
    go_wp2_with fail
    obtain ⟨hg5, hR5, XB5⟩ := go_on hg4 hR4 XB4 hne2 W.length
    generalize w4.setCell ⟨b, 1, none⟩ (.int .i64 ((q : Int) + W.length)) = w5 at hg5 hR5 XB5 ⊢
    clear r0 r1 r2 r3 hg4 hR4 XB4
    clear w4
    by_cases h46 : l[sk l (q + W.length)]? = some 46
    case neg =>
      refine (sign_bad l b (q + W.length) 46 w5 hl hw hR5 h46).mono ?_
      rintro e w6 ⟨rfl, hg6⟩
      have e1 : Rd.bad (sk l (q + W.length)) = RES := (sign_seq_bad h46 _).symm.trans HR1.out
      exact ⟨rfl, grown_trans hg5 hg6, by rw [← e1]⟩
    case pos =>
    have hs2 := sk_le hw
    have hlt2 := at_lt h46
    have HR3 : Hid ((rdOne l n (sk l (q + W.length) + 1)).seq (fun t p3 => .ok (.mk (2 + add) X [] [] [t]) p3) = RES) := Lib.hid ((sign_seq_ok h46 _).symm.trans HR1.out)
    refine (sign_ok l b (q + W.length) 46 w5 hl hw hR5 h46).mono ?_
    rintro e w6 ⟨rfl, hg, hR6⟩
    have hg6 := grown_trans hg5 hg
    have XB6 := XB5.grown' hg (by omega)
    clear hg hR5 hg5 XB5 HR1 h46
    clear w5
    generalize sk l (q + W.length) = q2 at hs2 hlt2 hR6 HR3
    go_wp2_with fail
    have htook2 := rdOne_took (l := l) n (q2 + 1) (by omega)
    refine (ih (q2 + 1) w6 (by omega) (by omega) (hSk w w6 hS hg6) hR6).mono ?_
    rintro e w7 ⟨hg, hans⟩
    have hg7 := grown_trans hg6 hg
    have XB7 := XB6.grown' hg (by omega)
    have hlt6 := XB6.lt
    have hz67 := hg.size
    cases hr : rdOne l n (q2 + 1) with
    | bad q' =>
      rw [hr] at hans
      simp only at hans
      subst hans
      have e1 : Rd.bad q' = RES := by rw [← HR3.out, hr]; rfl
      exact ⟨rfl, hg7, by rw [← e1]⟩
    | ok t p3 =>
    rw [hr] at hans
    obtain ⟨v, rfl, hT, hR7⟩ := hans
    have HR4 : Hid (.ok (.mk (2 + add) X [] [] [t]) p3 = RES) := Lib.hid (by rw [← HR3.out, hr]; rfl)
    clear hg hR6 hg6 XB6 HR3 hr htook2
    obtain ⟨lv, kv, rfl, k1, k2⟩ := hT
    have K1 := Lib.hid k1; have K2 := Lib.hid k2
    obtain ⟨A1, c1, rfl, -, -⟩ := k1
    obtain ⟨A2, c2, rfl, -, -⟩ := k2
    obtain ⟨x0, x1, x2, x3, x4, x5, x6⟩ := id XB7
    go_wp2_with fail
    obtain ⟨hF, hgF, hRF, hT⟩ := finishK hbw (Nat.le_refl _) (m := w6.heap.size) hlt6 hz67 hg7 hR7 XB7 (2 + add) X [] _ [t] (.cons t _ _ [] [] K1.out K2.out .nil) 51
    simp only [List.length_cons, List.length_nil] at hF hgF hRF hT
    generalize ((((((w7.setCell ⟨w.heap.size, 0, none⟩ (.int .i64 (2 + (add : Int)))).setCell ⟨w.heap.size, 1, none⟩ (.int .i64 X)).setCell ⟨w.heap.size, 2, none⟩ (.string ⟨([] : Str).toArray⟩)).setCell ⟨w.heap.size, 3, none⟩ (.slice none 0 0)).setCell ⟨w.heap.size, 4, none⟩ (.slice (some ⟨w7.heap.size, 0, none⟩) (0 + 1) (0 + 1))).alloc _) = w11 at hF hgF hRF hT ⊢
    obtain ⟨d0, d1, d2, d3, d4, d5, d6⟩ := hF
    refine bodyPost_ret (v := .agg #[.int .i64 (2 + (add : Int)), .int .i64 X, .string ⟨([] : Str).toArray⟩, .slice none 0 0, .slice (some ⟨w7.heap.size, 0, none⟩) 1 1]) (by simp [results, Tryd.results190, go_sem, d0, d1, d2, d3, d4, Ty.kind, Ty.sort, Ty.name]) rfl ?_
    refine ⟨hgF, ?_⟩
    rw [← HR4.out]
    exact ⟨_, rfl, hT, hRF⟩
end
end Go.Proofs.YtcacembpegoghaaDoor
