/-
  The program's Begin: reading, and how what is thrown is caught.
  The reference's reader of a type whole, and its BeginType.
-/
import Derived.Test.YtpidjanngbaiiaaGreatDoorRdO4
import Derived.Test.YtpidjanngbaiiaaGreatDoorM9
import Derived.Test.YtpidjanngbaiiaaGreatDoorM6
import Derived.Recover
import Derived.Test.YtpidjanngbaiiaaGreatDoorRdR4
import Derived.Test.YtpidjanngbaiiaaGreatDoorRdR5
import Derived.Test.YtpidjanngbaiiaaGreatDoorM7
namespace Go.Proofs.YtpidjanngbaiiaaGreatDoor
open Go.RowKit Go.Proofs

set_option maxRecDepth 100000
theorem one_any (l : Str) (b : Nat) (hl : l.length ≤ 2000) (S : World → Prop) (hSk : ∀ w w' : World, S w → w.grownBy w' (some b) → S w') (hSo : ∀ w : World, S w → Sorts w) : ∀ (n p : Nat) (w : World), p ≤ l.length → l.length < n + p → S w → RBox w b l p →
  Calls Tryz.prog 136 #[.pointer (some ⟨b, 0, none⟩)] w (Ans w b l (rdOne l n p)) := by
 intro n
 induction n with
 | zero => intro p w hp hlt; omega
 | succ n ih =>
  intro p w hp hn hS hR
  have hs := sk_le hp
  unfold rdOne
  by_cases h1 : wd l (sk l p) = endW
  ·rw [if_pos h1]; exact one_end l b p w hl hp hR h1
  rw [if_neg h1]
  by_cases h2 : wd l (sk l p) = recW
  ·rw [if_pos h2]; exact one_rec l b p w hl hp hR S hSk hS n ih (by omega) h2
  rw [if_neg h2]
  cases h3 : isVar (wd l (sk l p)) with
  | true => rw [if_pos rfl]; exact one_var l b p w hl hp hR _ rfl h1 h2 h3
  | false =>
   rw [if_neg (by simp)]
   by_cases h4 : wd l (sk l p) = []
   ·rw [if_neg (by simpa using h4)]
    exact one_sign l b p w hl hp hR S hSk hS h4 _ _ _ _
     (fun h w' hS' hR' => by simpa using passed_any l b (sk l p) w' hl (at_lt h) hR' S hSk hSo hS' n ih (by omega) 0 (by omega))
     (fun h w' hS' hR' => by simpa using passed_any l b (sk l p) w' hl (at_lt h) hR' S hSk hSo hS' n ih (by omega) 1 (by omega))
     (fun h w' hS' hR' => by simpa using choice_any l b (sk l p) w' hl (at_lt h) hR' S hSk hS' n ih (by omega) 6)
     (fun h w' hS' hR' => by simpa using choice_any l b (sk l p) w' hl (at_lt h) hR' S hSk hS' n ih (by omega) 7)
   ·rw [if_pos h4]; exact one_stuck l b p w hl hp hR _ rfl h4 h1 h2 h3

def caught (q : Nat) : FrameMode := .panicking [{ v := .iface 198 (.agg #[.int .i64 3, .int .i64 q]), recovered := true }]
theorem catch_thrown (tb eb fb q : Nat) {t0 : Ty} {lv0 kv0 x y z : Value} (w : World) (TB : VBox w tb t0 lv0 kv0) (he : w.cell? ⟨eb, 0, none⟩ = some x) (hez : w.frozen? ⟨eb, 0, none⟩ = false) (hf0 : w.cell? ⟨fb, 0, none⟩ = some y) (hf1 : w.cell? ⟨fb, 1, none⟩ = some z) (hfz0 : w.frozen? ⟨fb, 0, none⟩ = false) (hfz1 : w.frozen? ⟨fb, 1, none⟩ = false)
  (h12 : ¬ tb = eb) (h13 : ¬ tb = fb) (h23 : ¬ eb = fb) (h21 : ¬ eb = tb) (h31 : ¬ fb = tb) (h32 : ¬ fb = eb) :
  CallsD Tryz.prog 135 #[.pointer (some ⟨tb, 0, none⟩), .pointer (some ⟨eb, 0, none⟩), .pointer (some ⟨fb, 0, none⟩)] (.panicking (thrown q)) w fun e u' w' =>
   e = .returned (.tuple #[]) ∧ u' = caught q ∧ w' = (((((((((w.setCell ⟨tb, 0, none⟩ (.int .i64 0)).setCell ⟨tb, 1, none⟩ (.int .i64 0)).setCell ⟨tb, 2, none⟩ (.string ⟨#[]⟩)).setCell ⟨tb, 3, none⟩ (.slice none 0 0)).setCell ⟨tb, 4, none⟩ (.slice none 0 0)).setCell ⟨eb, 0, none⟩ (.int .i64 0)).setCell ⟨fb, 0, none⟩ (.int .i64 3)).setCell ⟨fb, 1, none⟩ (.int .i64 q)).drew) := by
 obtain ⟨x0, x1, x2, x3, x4, x5, x6⟩ := TB
 refine callsD_of_wpS Tryz.func135 rfl fun c₀ cs hu => ?_
 apply wpS_seq
 apply wpS_region
 simp [wpOpsS, go_sem, recoverD, hu, thrown, Tryz.ntmps135, Exit.thenS]
 apply wpS_seq
 apply wpS_region
 simp [wpOpsS, go_sem, Exit.thenS]
 refine wpS_cond (t := true) (by simp [Act.eval]) ?_
 simp only [if_true]
 refine wpS_of_wp ?_
 simp only [List.size_toArray, List.length_cons, List.length_nil, Nat.reduceAdd, Nat.reduceSub, Array.replicate_succ, Array.replicate_zero, List.push_toArray, List.append_toArray, List.nil_append, List.cons_append, List.setIfInBounds_toArray, List.set_cons_zero, List.set_cons_succ]
 have hta : ∀ (v : Value) (w : World), (Instr.typeAssert (.iface 198 v) 20 198 false).run Tryz.prog w = .ok v w := fun _ _ => by kernel_rfl
 have hfl : ∀ (c : Int) (w : World), (Instr.field 198 (.agg #[.int .i64 3, .int .i64 c]) 0).run Tryz.prog w = .ok (.agg #[.int .i64 3, .int .i64 c]) w := fun _ _ => by kernel_rfl
 go_region
 cases c₀
 simp [bodyPostS, results, Tryz.results135, caught]
theorem caught_facts (tb eb fb q : Nat) {t0 : Ty} {lv0 kv0 x y z : Value} (w w' : World) (TB : VBox w tb t0 lv0 kv0) (he : w.cell? ⟨eb, 0, none⟩ = some x) (hf0 : w.cell? ⟨fb, 0, none⟩ = some y) (hf1 : w.cell? ⟨fb, 1, none⟩ = some z)
  (h12 : ¬ tb = eb) (h13 : ¬ tb = fb) (h23 : ¬ eb = fb) (h21 : ¬ eb = tb) (h31 : ¬ fb = tb) (h32 : ¬ fb = eb) (hw : w' = (((((((((w.setCell ⟨tb, 0, none⟩ (.int .i64 0)).setCell ⟨tb, 1, none⟩ (.int .i64 0)).setCell ⟨tb, 2, none⟩ (.string ⟨#[]⟩)).setCell ⟨tb, 3, none⟩ (.slice none 0 0)).setCell ⟨tb, 4, none⟩ (.slice none 0 0)).setCell ⟨eb, 0, none⟩ (.int .i64 0)).setCell ⟨fb, 0, none⟩ (.int .i64 3)).setCell ⟨fb, 1, none⟩ (.int .i64 q)).drew)) :
  VBox w' tb zeroTy (.slice none 0 0) (.slice none 0 0) ∧ w'.cell? ⟨eb, 0, none⟩ = some (.int .i64 0) ∧ w'.cell? ⟨fb, 0, none⟩ = some (.int .i64 3) ∧ w'.cell? ⟨fb, 1, none⟩ = some (.int .i64 q) ∧ ∀ B a, Below B a w → B ≤ tb → B ≤ eb → B ≤ fb → Below B a w' := by
 subst hw
 have V1 := TB.fill zeroTy (.slice none 0 0) (.slice none 0 0)
 simp only [zeroTy, Ty.kind, Ty.sort, Ty.name] at V1
 have hc : ∀ (k o : Nat), ¬ tb = k → (((((w.setCell ⟨tb, 0, none⟩ (.int .i64 0)).setCell ⟨tb, 1, none⟩ (.int .i64 0)).setCell ⟨tb, 2, none⟩ (.string ⟨([] : Str).toArray⟩)).setCell ⟨tb, 3, none⟩ (.slice none 0 0)).setCell ⟨tb, 4, none⟩ (.slice none 0 0)).cell? ⟨k, o, none⟩ = w.cell? ⟨k, o, none⟩ := by
  intro k o hk
  rw [World.cell?_setCell_far _ _ _ _ hk, World.cell?_setCell_far _ _ _ _ hk, World.cell?_setCell_far _ _ _ _ hk, World.cell?_setCell_far _ _ _ _ hk, World.cell?_setCell_far _ _ _ _ hk]
 have e1 := hc eb 0 h12
 have e2 := hc fb 0 h13
 have e3 := hc fb 1 h13
 have hb : ∀ B a, Below B a w → B ≤ tb → Below B a (((((w.setCell ⟨tb, 0, none⟩ (.int .i64 0)).setCell ⟨tb, 1, none⟩ (.int .i64 0)).setCell ⟨tb, 2, none⟩ (.string ⟨([] : Str).toArray⟩)).setCell ⟨tb, 3, none⟩ (.slice none 0 0)).setCell ⟨tb, 4, none⟩ (.slice none 0 0)) := fun B a h hB => below_fill h hB _ _ _ _ _
 rw [he] at e1
 rw [hf0] at e2
 rw [hf1] at e3
 clear hc
 change VBox ((((((((((w.setCell ⟨tb, 0, none⟩ (.int .i64 0)).setCell ⟨tb, 1, none⟩ (.int .i64 0)).setCell ⟨tb, 2, none⟩ (.string ⟨([] : Str).toArray⟩)).setCell ⟨tb, 3, none⟩ (.slice none 0 0)).setCell ⟨tb, 4, none⟩ (.slice none 0 0)).setCell ⟨eb, 0, none⟩ (.int .i64 0)).setCell ⟨fb, 0, none⟩ (.int .i64 3)).setCell ⟨fb, 1, none⟩ (.int .i64 q))).drew) _ _ _ _ ∧ World.cell? ((((((((((w.setCell ⟨tb, 0, none⟩ (.int .i64 0)).setCell ⟨tb, 1, none⟩ (.int .i64 0)).setCell ⟨tb, 2, none⟩ (.string ⟨([] : Str).toArray⟩)).setCell ⟨tb, 3, none⟩ (.slice none 0 0)).setCell ⟨tb, 4, none⟩ (.slice none 0 0)).setCell ⟨eb, 0, none⟩ (.int .i64 0)).setCell ⟨fb, 0, none⟩ (.int .i64 3)).setCell ⟨fb, 1, none⟩ (.int .i64 q))).drew) _ = _ ∧ World.cell? ((((((((((w.setCell ⟨tb, 0, none⟩ (.int .i64 0)).setCell ⟨tb, 1, none⟩ (.int .i64 0)).setCell ⟨tb, 2, none⟩ (.string ⟨([] : Str).toArray⟩)).setCell ⟨tb, 3, none⟩ (.slice none 0 0)).setCell ⟨tb, 4, none⟩ (.slice none 0 0)).setCell ⟨eb, 0, none⟩ (.int .i64 0)).setCell ⟨fb, 0, none⟩ (.int .i64 3)).setCell ⟨fb, 1, none⟩ (.int .i64 q))).drew) _ = _ ∧ World.cell? ((((((((((w.setCell ⟨tb, 0, none⟩ (.int .i64 0)).setCell ⟨tb, 1, none⟩ (.int .i64 0)).setCell ⟨tb, 2, none⟩ (.string ⟨([] : Str).toArray⟩)).setCell ⟨tb, 3, none⟩ (.slice none 0 0)).setCell ⟨tb, 4, none⟩ (.slice none 0 0)).setCell ⟨eb, 0, none⟩ (.int .i64 0)).setCell ⟨fb, 0, none⟩ (.int .i64 3)).setCell ⟨fb, 1, none⟩ (.int .i64 q))).drew) _ = _ ∧ ∀ B a, Below B a w → B ≤ tb → B ≤ eb → B ≤ fb → Below B a ((((((((((w.setCell ⟨tb, 0, none⟩ (.int .i64 0)).setCell ⟨tb, 1, none⟩ (.int .i64 0)).setCell ⟨tb, 2, none⟩ (.string ⟨([] : Str).toArray⟩)).setCell ⟨tb, 3, none⟩ (.slice none 0 0)).setCell ⟨tb, 4, none⟩ (.slice none 0 0)).setCell ⟨eb, 0, none⟩ (.int .i64 0)).setCell ⟨fb, 0, none⟩ (.int .i64 3)).setCell ⟨fb, 1, none⟩ (.int .i64 q))).drew)
 generalize (((((w.setCell ⟨tb, 0, none⟩ (.int .i64 0)).setCell ⟨tb, 1, none⟩ (.int .i64 0)).setCell ⟨tb, 2, none⟩ (.string ⟨([] : Str).toArray⟩)).setCell ⟨tb, 3, none⟩ (.slice none 0 0)).setCell ⟨tb, 4, none⟩ (.slice none 0 0)) = w1 at V1 e1 e2 e3 hb ⊢
 have V2 := ((V1.far (p := ⟨eb, 0, none⟩) h21 (.int .i64 0)).far (p := ⟨fb, 0, none⟩) h31 (.int .i64 3)).far (p := ⟨fb, 1, none⟩) h31 (.int .i64 q)
 have ne : ∀ {w : World} {i j : Nat} {u : Value}, i ≠ j → (w.setCell ⟨fb, i, none⟩ u).cell? ⟨fb, j, none⟩ = w.cell? ⟨fb, j, none⟩ := fun h => World.cell?_setCell_other _ _ _ _ (fun e => h (by injection e))
 refine ⟨⟨V2.c0, V2.c1, V2.c2, V2.c3, V2.c4, V2.fr, V2.lt⟩, ?_, ?_, ?_, fun B a h h1 h2 h3 => ((((hb B a h h1).setCell h2 _).setCell h3 _).setCell h3 _).drew⟩
 ·show World.cell? (((w1.setCell ⟨eb, 0, none⟩ (.int .i64 0)).setCell ⟨fb, 0, none⟩ (.int .i64 3)).setCell ⟨fb, 1, none⟩ (.int .i64 q)) ⟨eb, 0, none⟩ = _
  rw [World.cell?_setCell_far _ _ _ _ h32, World.cell?_setCell_far _ _ _ _ h32]
  exact World.cell?_setCell_same' _ _ _ (by rw [e1]; rfl)
 ·show World.cell? (((w1.setCell ⟨eb, 0, none⟩ (.int .i64 0)).setCell ⟨fb, 0, none⟩ (.int .i64 3)).setCell ⟨fb, 1, none⟩ (.int .i64 q)) ⟨fb, 0, none⟩ = _
  rw [ne (by decide)]
  exact World.cell?_setCell_same' _ _ _ (by rw [World.cell?_setCell_far _ _ _ _ h23, e2]; rfl)
 ·show World.cell? (((w1.setCell ⟨eb, 0, none⟩ (.int .i64 0)).setCell ⟨fb, 0, none⟩ (.int .i64 3)).setCell ⟨fb, 1, none⟩ (.int .i64 q)) ⟨fb, 1, none⟩ = _
  exact World.cell?_setCell_same' _ _ _ (by rw [ne (by decide), World.cell?_setCell_far _ _ _ _ h23, e3]; rfl)
theorem laid_facts (tb eb fb : Nat) {t0 : Ty} {lv0 kv0 x y z : Value} (w : World) (TB : VBox w tb t0 lv0 kv0) (he : w.cell? ⟨eb, 0, none⟩ = some x) (hf0 : w.cell? ⟨fb, 0, none⟩ = some y) (hf1 : w.cell? ⟨fb, 1, none⟩ = some z)
  (h12 : ¬ tb = eb) (h13 : ¬ tb = fb) (h23 : ¬ eb = fb) (h21 : ¬ eb = tb) (h31 : ¬ fb = tb) (h32 : ¬ fb = eb) (t : Ty) (lv kv : Value) (n c a : Int) :
  VBox ((((((((w.setCell ⟨tb, 0, none⟩ (.int .i64 t.kind)).setCell ⟨tb, 1, none⟩ (.int .i64 t.sort)).setCell ⟨tb, 2, none⟩ (.string ⟨t.name.toArray⟩)).setCell ⟨tb, 3, none⟩ lv).setCell ⟨tb, 4, none⟩ kv).setCell ⟨eb, 0, none⟩ (.int .i64 n)).setCell ⟨fb, 0, none⟩ (.int .i64 c)).setCell ⟨fb, 1, none⟩ (.int .i64 a)) tb t lv kv ∧ (((((((((w.setCell ⟨tb, 0, none⟩ (.int .i64 t.kind)).setCell ⟨tb, 1, none⟩ (.int .i64 t.sort)).setCell ⟨tb, 2, none⟩ (.string ⟨t.name.toArray⟩)).setCell ⟨tb, 3, none⟩ lv).setCell ⟨tb, 4, none⟩ kv).setCell ⟨eb, 0, none⟩ (.int .i64 n)).setCell ⟨fb, 0, none⟩ (.int .i64 c)).setCell ⟨fb, 1, none⟩ (.int .i64 a))).cell? ⟨eb, 0, none⟩ = some (.int .i64 n) ∧ (((((((((w.setCell ⟨tb, 0, none⟩ (.int .i64 t.kind)).setCell ⟨tb, 1, none⟩ (.int .i64 t.sort)).setCell ⟨tb, 2, none⟩ (.string ⟨t.name.toArray⟩)).setCell ⟨tb, 3, none⟩ lv).setCell ⟨tb, 4, none⟩ kv).setCell ⟨eb, 0, none⟩ (.int .i64 n)).setCell ⟨fb, 0, none⟩ (.int .i64 c)).setCell ⟨fb, 1, none⟩ (.int .i64 a))).cell? ⟨fb, 0, none⟩ = some (.int .i64 c) ∧ (((((((((w.setCell ⟨tb, 0, none⟩ (.int .i64 t.kind)).setCell ⟨tb, 1, none⟩ (.int .i64 t.sort)).setCell ⟨tb, 2, none⟩ (.string ⟨t.name.toArray⟩)).setCell ⟨tb, 3, none⟩ lv).setCell ⟨tb, 4, none⟩ kv).setCell ⟨eb, 0, none⟩ (.int .i64 n)).setCell ⟨fb, 0, none⟩ (.int .i64 c)).setCell ⟨fb, 1, none⟩ (.int .i64 a))).cell? ⟨fb, 1, none⟩ = some (.int .i64 a) ∧ (∀ B v, Below B v w → B ≤ tb → B ≤ eb → B ≤ fb → Below B v ((((((((w.setCell ⟨tb, 0, none⟩ (.int .i64 t.kind)).setCell ⟨tb, 1, none⟩ (.int .i64 t.sort)).setCell ⟨tb, 2, none⟩ (.string ⟨t.name.toArray⟩)).setCell ⟨tb, 3, none⟩ lv).setCell ⟨tb, 4, none⟩ kv).setCell ⟨eb, 0, none⟩ (.int .i64 n)).setCell ⟨fb, 0, none⟩ (.int .i64 c)).setCell ⟨fb, 1, none⟩ (.int .i64 a))) ∧ Same (fun k => k ≠ tb ∧ k ≠ eb ∧ k ≠ fb) w ((((((((w.setCell ⟨tb, 0, none⟩ (.int .i64 t.kind)).setCell ⟨tb, 1, none⟩ (.int .i64 t.sort)).setCell ⟨tb, 2, none⟩ (.string ⟨t.name.toArray⟩)).setCell ⟨tb, 3, none⟩ lv).setCell ⟨tb, 4, none⟩ kv).setCell ⟨eb, 0, none⟩ (.int .i64 n)).setCell ⟨fb, 0, none⟩ (.int .i64 c)).setCell ⟨fb, 1, none⟩ (.int .i64 a)) := by
 have V1 := TB.fill t lv kv
 have hc : ∀ (k o : Nat), ¬ tb = k → ((((((w.setCell ⟨tb, 0, none⟩ (.int .i64 t.kind)).setCell ⟨tb, 1, none⟩ (.int .i64 t.sort)).setCell ⟨tb, 2, none⟩ (.string ⟨t.name.toArray⟩)).setCell ⟨tb, 3, none⟩ lv).setCell ⟨tb, 4, none⟩ kv)).cell? ⟨k, o, none⟩ = w.cell? ⟨k, o, none⟩ := by
  intro k o hk
  rw [World.cell?_setCell_far _ _ _ _ hk, World.cell?_setCell_far _ _ _ _ hk, World.cell?_setCell_far _ _ _ _ hk, World.cell?_setCell_far _ _ _ _ hk, World.cell?_setCell_far _ _ _ _ hk]
 have e1 := (hc eb 0 h12).trans he
 have e2 := (hc fb 0 h13).trans hf0
 have e3 := (hc fb 1 h13).trans hf1
 have hb : ∀ B v, Below B v w → B ≤ tb → Below B v (((((w.setCell ⟨tb, 0, none⟩ (.int .i64 t.kind)).setCell ⟨tb, 1, none⟩ (.int .i64 t.sort)).setCell ⟨tb, 2, none⟩ (.string ⟨t.name.toArray⟩)).setCell ⟨tb, 3, none⟩ lv).setCell ⟨tb, 4, none⟩ kv) := fun B v h hB => below_fill h hB _ _ _ _ _
 have hs : Same (fun k => k ≠ tb ∧ k ≠ eb ∧ k ≠ fb) w (((((w.setCell ⟨tb, 0, none⟩ (.int .i64 t.kind)).setCell ⟨tb, 1, none⟩ (.int .i64 t.sort)).setCell ⟨tb, 2, none⟩ (.string ⟨t.name.toArray⟩)).setCell ⟨tb, 3, none⟩ lv).setCell ⟨tb, 4, none⟩ kv) := Same.fill (fun h => h.1 rfl) _ _ _ _ _
 have hz : ((((((w.setCell ⟨tb, 0, none⟩ (.int .i64 t.kind)).setCell ⟨tb, 1, none⟩ (.int .i64 t.sort)).setCell ⟨tb, 2, none⟩ (.string ⟨t.name.toArray⟩)).setCell ⟨tb, 3, none⟩ lv).setCell ⟨tb, 4, none⟩ kv)).heap.size = w.heap.size := by simp only [World.size_setCell]
 clear hc
 generalize (((((w.setCell ⟨tb, 0, none⟩ (.int .i64 t.kind)).setCell ⟨tb, 1, none⟩ (.int .i64 t.sort)).setCell ⟨tb, 2, none⟩ (.string ⟨t.name.toArray⟩)).setCell ⟨tb, 3, none⟩ lv).setCell ⟨tb, 4, none⟩ kv) = w1 at V1 e1 e2 e3 hb hs hz ⊢
 have V2 := ((V1.far (p := ⟨eb, 0, none⟩) h21 (.int .i64 n)).far (p := ⟨fb, 0, none⟩) h31 (.int .i64 c)).far (p := ⟨fb, 1, none⟩) h31 (.int .i64 a)
 have ne : ∀ {w : World} {i j : Nat} {u : Value}, i ≠ j → (w.setCell ⟨fb, i, none⟩ u).cell? ⟨fb, j, none⟩ = w.cell? ⟨fb, j, none⟩ := fun h => World.cell?_setCell_other _ _ _ _ (fun e => h (by injection e))
 refine ⟨V2, ?_, ?_, ?_, fun B v h h1 h2 h3 => (((hb B v h h1).setCell h2 _).setCell h3 _).setCell h3 _, ?_⟩
 ·rw [World.cell?_setCell_far _ _ _ _ h32, World.cell?_setCell_far _ _ _ _ h32]
  exact World.cell?_setCell_same' _ _ _ (by rw [e1]; rfl)
 ·rw [ne (by decide)]
  exact World.cell?_setCell_same' _ _ _ (by rw [World.cell?_setCell_far _ _ _ _ h23, e2]; rfl)
 ·exact World.cell?_setCell_same' _ _ _ (by rw [ne (by decide), World.cell?_setCell_far _ _ _ _ h23, e3]; rfl)
 ·refine ((hs.trans (by omega) (Same.set (fun h => h.2.1 rfl))).trans ?_ (Same.set (fun h => h.2.2 rfl))).trans ?_ (Same.set (fun h => h.2.2 rfl))
  ·simp only [World.size_setCell]; omega
  ·simp only [World.size_setCell]; omega
theorem catch_idle (tb eb fb : Nat) (w : World) :
  CallsD Tryz.prog 135 #[.pointer (some ⟨tb, 0, none⟩), .pointer (some ⟨eb, 0, none⟩), .pointer (some ⟨fb, 0, none⟩)] .returning w fun e u' w' => e = .returned (.tuple #[]) ∧ u' = .returning ∧ w' = w := by
 refine callsD_of_wpS Tryz.func135 rfl fun c₀ cs hu => ?_
 apply wpS_seq
 apply wpS_region
 simp [wpOpsS, go_sem, recoverD, hu, Tryz.ntmps135, Exit.thenS]
 apply wpS_seq
 apply wpS_region
 simp [wpOpsS, go_sem, Exit.thenS]
 refine wpS_cond (t := false) (by simp [Act.eval]) ?_
 simp only [Bool.false_eq_true, if_false]
 refine wpS_of_wp (wp_skip ?_)
 cases c₀
 simp_all [bodyPostS, results, Tryz.results135]
theorem grown_cell {w w' : World} {b k o : Nat} {v : Value} (hg : w.grownBy w' (some b)) (hk : k ≠ b) (h : w.cell? ⟨k, o, none⟩ = some v) : w'.cell? ⟨k, o, none⟩ = some v :=
 (World.cell?_of_block (a := ⟨k, o, none⟩) (hg.block k (cell_lt h) (fun e => hk (by injection e)))).trans h
theorem grown_frozen {w w' : World} {b k o : Nat} {v : Value} {z : Bool} (hg : w.grownBy w' (some b)) (hk : k ≠ b) (h : w.cell? ⟨k, o, none⟩ = some v) (hz : w.frozen? ⟨k, o, none⟩ = z) : w'.frozen? ⟨k, o, none⟩ = z :=
 (World.frozen?_of_block (a := ⟨k, o, none⟩) (hg.block k (cell_lt h) (fun e => hk (by injection e)))).trans hz
set_option maxHeartbeats 4000000 in
theorem Begin_any (l : Str) (at_ : Int) (p : Nat) (hp : p ≤ l.length) (hpc : (p : Int) = max 0 (min at_ l.length)) (w : World) (hS : Sorts w) (hl : l.length ≤ 9223372036854775807) :
  Calls Tryz.prog 104 #[.string ⟨l.toArray⟩, .int .i64 at_] w fun e w' => Below w.heap.size w w' ∧ ∃ v, e = .returned (.tuple #[v, .int .i64 (rdBegin l p).2.1, .agg #[.int .i64 (rdBegin l p).2.2.1, .int .i64 (rdBegin l p).2.2.2]]) ∧ TyD (fun k => w.heap.size ≤ k) w' v (rdBegin l p).1 := by
 have hmf : ∀ (fn : Fn) (first cap : Array Value) (w : World), (Instr.makeFunc fn first cap).run Tryz.prog w = .ok (.func fn first cap) w := fun _ _ _ _ => rfl
 obtain ⟨TT, EE, CC, AA, hA⟩ : ∃ t e c a, rdBegin l p = (t, e, c, a) := ⟨_, _, _, _, rfl⟩
 rw [hA]
 simp only
 have HA := Lib.hid hA; clear hA
 by_cases h2000 : l.length ≤ 2000
 ·have hd : decide ((2000 : Int) < (l.length : Int)) = false := by simp; omega
  go_enter_defers Tryz.func104, Tryz.ntmps104
  go_wp2_with fail
  rw [← hpc]
  obtain ⟨W, hW⟩ : ∃ x, (((w.alloc (.cells #[.int .i64 0, .int .i64 0, .string ⟨#[]⟩, .slice none 0 0, .slice none 0 0] 30)).alloc (.cells #[.int .i64 0] 3)).alloc (.cells #[.int .i64 0, .int .i64 0] 37)).alloc (.cells #[.string ⟨l.toArray⟩, .int .i64 (p : Int)] 197) = x := ⟨_, rfl⟩
  have hbW : Below w.heap.size w W := by subst hW; go_grown
  have TB : VBox W w.heap.size zeroTy (.slice none 0 0) (.slice none 0 0) := by subst hW; exact ⟨by simp [go_sem]; rfl, by simp [go_sem]; rfl, by simp [go_sem]; rfl, by simp [go_sem], by simp [go_sem], fun j => by simp [go_sem], by simp; omega⟩
  have e0 : W.cell? ⟨w.heap.size + 1, 0, none⟩ = some (.int .i64 0) := by subst hW; simp [go_sem]
  have ez : W.frozen? ⟨w.heap.size + 1, 0, none⟩ = false := by subst hW; simp [go_sem]
  have f0 : W.cell? ⟨w.heap.size + 1 + 1, 0, none⟩ = some (.int .i64 0) := by subst hW; simp [go_sem]
  have f1 : W.cell? ⟨w.heap.size + 1 + 1, 1, none⟩ = some (.int .i64 0) := by subst hW; simp [go_sem]
  have fz0 : W.frozen? ⟨w.heap.size + 1 + 1, 0, none⟩ = false := by subst hW; simp [go_sem]
  have fz1 : W.frozen? ⟨w.heap.size + 1 + 1, 1, none⟩ = false := by subst hW; simp [go_sem]
  have RB : RBox W (w.heap.size + 1 + 1 + 1) l p := by subst hW; exact ⟨by simp [go_sem], by simp [go_sem], fun j => by simp [go_sem], by simp⟩
  rw [hW]
  clear hW
  refine (one_any l (w.heap.size + 1 + 1 + 1) h2000 (fun w' => Below w.heap.size w w') (fun a b hab hg => hab.grown hg hab.size (fun k e => by have := Option.some.inj e; omega)) (fun a ha => hS.keep ha) (l.length + 1) p W hp (by omega) hbW RB).mono ?_
  rintro e w5 ⟨hg, hans⟩
  have hb5 : Below w.heap.size w w5 := hbW.grown hg hbW.size (fun k e => by have := Option.some.inj e; omega)
  have TB5 := TB.grown' hg (by omega)
  have e05 := grown_cell hg (by omega) e0
  have f05 := grown_cell hg (by omega) f0
  have f15 := grown_cell hg (by omega) f1
  have ez5 := grown_frozen hg (by omega) e0 ez
  have fz05 := grown_frozen hg (by omega) f0 fz0
  have fz15 := grown_frozen hg (by omega) f1 fz1
  have htook := rdOne_took (l := l) (l.length + 1) p hp
  cases hr : rdOne l (l.length + 1) p with
  | bad q =>
   rw [hr] at hans
   simp only at hans
   subst hans
   have hres : rdBegin l p = (zeroTy, 0, 3, q) := by unfold rdBegin; rw [if_neg (by omega), hr]
   have hq := hres.symm.trans HA.out
   simp only [Prod.mk.injEq] at hq
   obtain ⟨rfl, rfl, rfl, rfl⟩ := hq
   refine leaves_cons (f := 135) (args := #[.pointer (some ⟨w.heap.size, 0, none⟩), .pointer (some ⟨w.heap.size + 1, 0, none⟩), .pointer (some ⟨w.heap.size + 1 + 1, 0, none⟩)]) (by simp) (by simp [go_sem]) ?_
   refine (catch_thrown w.heap.size (w.heap.size + 1) (w.heap.size + 1 + 1) q w5 TB5 e05 ez5 f05 f15 fz05 fz15 (by omega) (by omega) (by omega) (by omega) (by omega) (by omega)).mono ?_
   rintro e u' w6 ⟨rfl, rfl, hw6⟩
   obtain ⟨TB6, e6, f06, f16, hb6⟩ := caught_facts w.heap.size (w.heap.size + 1) (w.heap.size + 1 + 1) q w5 w6 TB5 e05 f05 f15 (by omega) (by omega) (by omega) (by omega) (by omega) (by omega) hw6
   have hb6 := hb6 _ _ hb5 (Nat.le_refl _) (by omega) (by omega)
   clear hw6
   obtain ⟨x0, x1, x2, x3, x4, x5, x6⟩ := id TB6
   simp only [zeroTy, Ty.kind, Ty.sort, Ty.name] at x0 x1 x2
   refine ⟨.tuple #[.agg #[.int .i64 0, .int .i64 0, .string ⟨#[]⟩, .slice none 0 0, .slice none 0 0], .int .i64 0, .agg #[.int .i64 3, .int .i64 q]], by simp [results, Tryz.results104, go_sem, x0, x1, x2, x3, x4, e6, f06, f16], hb6, _, rfl, ⟨_, _, rfl, no_strs _ _, no_tys _ _⟩⟩
  | ok t q =>
   rw [hr] at hans htook
   obtain ⟨v, rfl, hT, hR5⟩ := hans
   obtain ⟨ht1, ht2⟩ : p ≤ q ∧ q ≤ l.length := htook
   have hWlt : w.heap.size + 1 + 1 + 1 < W.heap.size := RB.lt
   have hfit : Fit t := by have := rdOne_fit (l := l) (by unfold maxLen; omega) (l.length + 1) p; rw [hr] at this; exact this
   have HRR := Lib.hid hr
   clear hr hg TB e0 ez f0 f1 fz0 fz1 RB hbW
   obtain ⟨lv, kv, rfl, k1, k2⟩ := hT
   have K1 := Lib.hid k1; have K2 := Lib.hid k2
   obtain ⟨A1, c1, rfl, -, -⟩ := k1
   obtain ⟨A2, c2, rfl, -, -⟩ := k2
   obtain ⟨x0, x1, x2, x3, x4, x5, x6⟩ := id TB5
   have n1 : ¬ w.heap.size = w.heap.size + 1 := by omega
   have n2 : ¬ w.heap.size = w.heap.size + 1 + 1 := by omega
   have n3 : ¬ w.heap.size = w.heap.size + 1 + 1 + 1 := by omega
   go_wp2_with fail
   have TB6 := TB5.fill t (.slice A1 t.labels.length c1) (.slice A2 t.kids.length c2)
   have hb6 := below_fill hb5 (Nat.le_refl _) (.int .i64 t.kind) (.int .i64 t.sort) (.string ⟨t.name.toArray⟩) (.slice A1 t.labels.length c1) (.slice A2 t.kids.length c2)
   have hsm : Same (· ≠ w.heap.size) w5 (((((w5.setCell ⟨w.heap.size, 0, none⟩ (.int .i64 t.kind)).setCell ⟨w.heap.size, 1, none⟩ (.int .i64 t.sort)).setCell ⟨w.heap.size, 2, none⟩ (.string ⟨t.name.toArray⟩)).setCell ⟨w.heap.size, 3, none⟩ (.slice A1 t.labels.length c1)).setCell ⟨w.heap.size, 4, none⟩ (.slice A2 t.kids.length c2)) := Same.fill (fun h => h rfl) _ _ _ _ _
   have RB6 : RBox (((((w5.setCell ⟨w.heap.size, 0, none⟩ (.int .i64 t.kind)).setCell ⟨w.heap.size, 1, none⟩ (.int .i64 t.sort)).setCell ⟨w.heap.size, 2, none⟩ (.string ⟨t.name.toArray⟩)).setCell ⟨w.heap.size, 3, none⟩ (.slice A1 t.labels.length c1)).setCell ⟨w.heap.size, 4, none⟩ (.slice A2 t.kids.length c2)) (w.heap.size + 1 + 1 + 1) l q := ((((hR5.far n3 _).far n3 _).far n3 _).far n3 _).far n3 _
   have e06 := hsm.cell (by omega) e05
   have f06 := hsm.cell (by omega) f05
   have f16 := hsm.cell (by omega) f15
   have hz : ∀ (k o : Nat), (((((w5.setCell ⟨w.heap.size, 0, none⟩ (.int .i64 t.kind)).setCell ⟨w.heap.size, 1, none⟩ (.int .i64 t.sort)).setCell ⟨w.heap.size, 2, none⟩ (.string ⟨t.name.toArray⟩)).setCell ⟨w.heap.size, 3, none⟩ (.slice A1 t.labels.length c1)).setCell ⟨w.heap.size, 4, none⟩ (.slice A2 t.kids.length c2)).frozen? ⟨k, o, none⟩ = w5.frozen? ⟨k, o, none⟩ := fun k o => by simp only [World.frozen?_setCell]
   have ez6 := (hz (w.heap.size + 1) 0).trans ez5
   have fz06 := (hz (w.heap.size + 1 + 1) 0).trans fz05
   have fz16 := (hz (w.heap.size + 1 + 1) 1).trans fz15
   replace K1 := Lib.hid (K1.out.keep (D' := fun k => w.heap.size + 1 + 1 + 1 < k) (fun k hk hl => hsm k (by have : W.heap.size ≤ k := hk; omega) hl) (fun k hk _ => by have : W.heap.size ≤ k := hk; omega))
   replace K2 := Lib.hid (K2.out.keep (D' := fun k => w.heap.size + 1 + 1 + 1 < k) (fun k hk hl => hsm k (by have : W.heap.size ≤ k := hk; omega) hl) (fun k hk _ => by have : W.heap.size ≤ k := hk; omega))
   generalize (((((w5.setCell ⟨w.heap.size, 0, none⟩ (.int .i64 t.kind)).setCell ⟨w.heap.size, 1, none⟩ (.int .i64 t.sort)).setCell ⟨w.heap.size, 2, none⟩ (.string ⟨t.name.toArray⟩)).setCell ⟨w.heap.size, 3, none⟩ (.slice A1 t.labels.length c1)).setCell ⟨w.heap.size, 4, none⟩ (.slice A2 t.kids.length c2)) = w6 at TB6 hb6 RB6 e06 f06 f16 ez6 fz06 fz16 K1 K2 ⊢
   clear hsm hz TB5 hb5 hR5 e05 f05 f15 ez5 fz05 fz15 x0 x1 x2 x3 x4 x5 x6
   clear w5
   clear hWlt
   refine (blanks_any l (w.heap.size + 1 + 1 + 1) q w6 h2000 ht2 RB6).mono ?_
   rintro e w7 ⟨rfl, hg, RB7⟩
   have hb7 : Below w.heap.size w w7 := hb6.grown hg hb6.size (fun k e => by have := Option.some.inj e; omega)
   have TB7 := TB6.grown' hg (by omega)
   have e07 := grown_cell hg (by omega) e06
   have f07 := grown_cell hg (by omega) f06
   have f17 := grown_cell hg (by omega) f16
   have ez7 := grown_frozen hg (by omega) e06 ez6
   have fz07 := grown_frozen hg (by omega) f06 fz06
   have fz17 := grown_frozen hg (by omega) f16 fz16
   have hsm : Same (fun k => w.heap.size + 1 + 1 + 1 < k) w6 w7 := Same.grown hg (fun k hk e => by have := Option.some.inj e; omega)
   replace K1 := Lib.hid (K1.out.keep (D' := fun k => w.heap.size + 1 + 1 + 1 < k) hsm (fun _ h _ => h))
   replace K2 := Lib.hid (K2.out.keep (D' := fun k => w.heap.size + 1 + 1 + 1 < k) hsm (fun _ h _ => h))
   clear hsm hg TB6 hb6 RB6 e06 f06 f16 ez6 fz06 fz16
   clear w6
   obtain ⟨x0, x1, x2, x3, x4, x5, x6⟩ := id TB7
   go_wp2_with fail
   refine (Check_any t _ w7 (tyD_of K1.out K2.out).is hfit).mono ?_
   obtain ⟨E, hE⟩ : ∃ x, tyErr t = x := ⟨_, rfl⟩
   rw [hE]
   have HE := Lib.hid hE; clear hE
   rintro e w8 ⟨rfl, hb8⟩
   have TB8 := TB7.keep hb8 TB7.lt
   have RB8 := RB7.keep hb8
   have e08 := cell_keep e07 hb8
   have f08 := cell_keep f07 hb8
   have f18 := cell_keep f17 hb8
   have ez8 := (hb8.frozen (p := ⟨w.heap.size + 1, 0, none⟩) (cell_lt e07)).trans ez7
   have fz08 := (hb8.frozen (p := ⟨w.heap.size + 1 + 1, 0, none⟩) (cell_lt f07)).trans fz07
   have fz18 := (hb8.frozen (p := ⟨w.heap.size + 1 + 1, 1, none⟩) (cell_lt f07)).trans fz17
   have hb9 := chain hb7 hb8
   replace K1 := Lib.hid (K1.out.keep (D' := fun k => w.heap.size + 1 + 1 + 1 < k) (Same.below hb8) (fun _ h _ => h))
   replace K2 := Lib.hid (K2.out.keep (D' := fun k => w.heap.size + 1 + 1 + 1 < k) (Same.below hb8) (fun _ h _ => h))
   clear TB7 RB7 e07 f07 f17 ez7 fz07 fz17 hb7 hb8 x0 x1 x2 x3 x4 x5 x6
   clear w7
   obtain ⟨x0, x1, x2, x3, x4, x5, x6⟩ := id TB8
   obtain ⟨r0, r1, r2, r3⟩ := id RB8
   by_cases hE0 : E = 0
   ·subst hE0
    go_wp2_with fail
    have hres : rdBegin l p = (t, sk l q, 0, 0) := by unfold rdBegin; rw [if_neg (by omega), HRR.out]; simp only; rw [HE.out, if_pos rfl]
    have hq := hres.symm.trans HA.out
    simp only [Prod.mk.injEq] at hq
    obtain ⟨rfl, rfl, rfl, rfl⟩ := hq
    go_region
    go_wp2_with fail
    obtain ⟨TB9, e09, f09, f19, hbl, hsm⟩ := laid_facts w.heap.size (w.heap.size + 1) (w.heap.size + 1 + 1) w8 TB8 e08 f08 f18 (by omega) (by omega) (by omega) (by omega) (by omega) (by omega) t (.slice A1 t.labels.length c1) (.slice A2 t.kids.length c2) (sk l q : Int) 0 0
    have hb10 := (hbl _ _ hb9 (Nat.le_refl _) (by omega) (by omega)).drew
    have K3 := K1.out.keep (D' := fun k => w.heap.size ≤ k) (fun k hk hl => hsm k (by have : w.heap.size + 1 + 1 + 1 < k := hk; omega) hl) (fun k hk _ => by have : w.heap.size + 1 + 1 + 1 < k := hk; omega)
    have K4 := K2.out.keep (D' := fun k => w.heap.size ≤ k) (fun k hk hl => hsm k (by have : w.heap.size + 1 + 1 + 1 < k := hk; omega) hl) (fun k hk _ => by have : w.heap.size + 1 + 1 + 1 < k := hk; omega)
    generalize hw9 : ((((((((w8.setCell ⟨w.heap.size, 0, none⟩ (.int .i64 t.kind)).setCell ⟨w.heap.size, 1, none⟩ (.int .i64 t.sort)).setCell ⟨w.heap.size, 2, none⟩ (.string ⟨t.name.toArray⟩)).setCell ⟨w.heap.size, 3, none⟩ (.slice A1 t.labels.length c1)).setCell ⟨w.heap.size, 4, none⟩ (.slice A2 t.kids.length c2)).setCell ⟨w.heap.size + 1, 0, none⟩ (.int .i64 (sk l q : Int))).setCell ⟨w.heap.size + 1 + 1, 0, none⟩ (.int .i64 0)).setCell ⟨w.heap.size + 1 + 1, 1, none⟩ (.int .i64 0)) = w9 at TB9 e09 f09 f19 hb10 K3 K4 ⊢
    have TB10 : VBox w9.drew w.heap.size t (.slice A1 t.labels.length c1) (.slice A2 t.kids.length c2) := ⟨TB9.c0, TB9.c1, TB9.c2, TB9.c3, TB9.c4, TB9.fr, TB9.lt⟩
    have e10 : w9.drew.cell? ⟨w.heap.size + 1, 0, none⟩ = some (.int .i64 (sk l q : Int)) := e09
    have f10 : w9.drew.cell? ⟨w.heap.size + 1 + 1, 0, none⟩ = some (.int .i64 0) := f09
    have f110 : w9.drew.cell? ⟨w.heap.size + 1 + 1, 1, none⟩ = some (.int .i64 0) := f19
    have K5 := K3.keep (D' := fun k => w.heap.size ≤ k) (w' := w9.drew) (fun _ _ _ => rfl) (fun _ h _ => h)
    have K6 := K4.keep (D' := fun k => w.heap.size ≤ k) (w' := w9.drew) (fun _ _ _ => rfl) (fun _ h _ => h)
    generalize w9.drew = w11 at TB10 e10 f10 f110 hb10 K5 K6 ⊢
    refine leaves_cons (f := 135) (args := #[.pointer (some ⟨w.heap.size, 0, none⟩), .pointer (some ⟨w.heap.size + 1, 0, none⟩), .pointer (some ⟨w.heap.size + 1 + 1, 0, none⟩)]) (by simp) (by simp [go_sem]) ?_
    refine (catch_idle w.heap.size (w.heap.size + 1) (w.heap.size + 1 + 1) w11).mono ?_
    rintro e u' w12 ⟨rfl, rfl, hw⟩
    rw [hw]
    obtain ⟨y0, y1, y2, y3, y4, y5, y6⟩ := id TB10
    refine ⟨.tuple #[.agg #[.int .i64 t.kind, .int .i64 t.sort, .string ⟨t.name.toArray⟩, .slice A1 t.labels.length c1, .slice A2 t.kids.length c2], .int .i64 (sk l q : Int), .agg #[.int .i64 0, .int .i64 0]], by simp [results, Tryz.results104, go_sem, y0, y1, y2, y3, y4, e10, f10, f110], hb10, _, rfl, ⟨_, _, rfl, K5, K6⟩⟩
   ·have hbe : (E != 0) = true := by rw [bne_iff_ne]; exact hE0
    have hres : rdBegin l p = (zeroTy, 0, E, 0) := by unfold rdBegin; rw [if_neg (by omega), HRR.out]; simp only; rw [HE.out, if_neg hE0]
    have hq := hres.symm.trans HA.out
    simp only [Prod.mk.injEq] at hq
    obtain ⟨rfl, rfl, rfl, rfl⟩ := hq
    go_wp2_with fail
    obtain ⟨TB9, e09, f09, f19, hbl, hsm⟩ := laid_facts w.heap.size (w.heap.size + 1) (w.heap.size + 1 + 1) w8 TB8 e08 f08 f18 (by omega) (by omega) (by omega) (by omega) (by omega) (by omega) zeroTy (.slice none 0 0) (.slice none 0 0) 0 E 0
    have hb10 := hbl _ _ hb9 (Nat.le_refl _) (by omega) (by omega)
    simp only [zeroTy, Ty.kind, Ty.sort, Ty.name] at TB9 e09 f09 f19 hb10
    generalize ((((((((w8.setCell ⟨w.heap.size, 0, none⟩ (.int .i64 0)).setCell ⟨w.heap.size, 1, none⟩ (.int .i64 0)).setCell ⟨w.heap.size, 2, none⟩ (.string ⟨([] : Str).toArray⟩)).setCell ⟨w.heap.size, 3, none⟩ (.slice none 0 0)).setCell ⟨w.heap.size, 4, none⟩ (.slice none 0 0)).setCell ⟨w.heap.size + 1, 0, none⟩ (.int .i64 0)).setCell ⟨w.heap.size + 1 + 1, 0, none⟩ (.int .i64 E)).setCell ⟨w.heap.size + 1 + 1, 1, none⟩ (.int .i64 0)) = w9 at TB9 e09 f09 f19 hb10 ⊢
    refine leaves_cons (f := 135) (args := #[.pointer (some ⟨w.heap.size, 0, none⟩), .pointer (some ⟨w.heap.size + 1, 0, none⟩), .pointer (some ⟨w.heap.size + 1 + 1, 0, none⟩)]) (by simp) (by simp [go_sem]) ?_
    refine (catch_idle w.heap.size (w.heap.size + 1) (w.heap.size + 1 + 1) w9).mono ?_
    rintro e u' w10 ⟨rfl, rfl, hw⟩
    rw [hw]
    obtain ⟨y0, y1, y2, y3, y4, y5, y6⟩ := id TB9
    simp only [Ty.kind, Ty.sort, Ty.name] at y0 y1 y2
    refine ⟨.tuple #[.agg #[.int .i64 0, .int .i64 0, .string ⟨#[]⟩, .slice none 0 0, .slice none 0 0], .int .i64 0, .agg #[.int .i64 E, .int .i64 0]], by simp [results, Tryz.results104, go_sem, y0, y1, y2, y3, y4, e09, f09, f19], hb10, _, rfl, ⟨_, _, rfl, no_strs _ _, no_tys _ _⟩⟩
 ·have hd : (2000 : Int) < (l.length : Int) := by omega
  go_enter_defers Tryz.func104, Tryz.ntmps104
  go_wp2_with fail
  have hres : rdBegin l p = (zeroTy, 0, 2, 0) := by unfold rdBegin; rw [if_pos (by omega)]
  have hq := hres.symm.trans HA.out
  simp only [Prod.mk.injEq] at hq
  obtain ⟨rfl, rfl, rfl, rfl⟩ := hq
  refine ⟨.tuple #[.agg #[.int .i64 0, .int .i64 0, .string ⟨#[]⟩, .slice none 0 0, .slice none 0 0], .int .i64 0, .agg #[.int .i64 2, .int .i64 0]], by simp [results, Tryz.results104, go_sem], by go_grown, _, rfl, ⟨_, _, rfl, no_strs _ _, no_tys _ _⟩⟩
set_option maxRecDepth 100000
theorem scan_any (l : Str) (b : Nat) (hl : l.length ≤ 2000) : ∀ (n : Nat) (s : St) (w : World), s.p ≤ l.length → (s.bad = none → l.length < n + s.p) → SBox w b l s → Calls Tryz.prog 106 #[.pointer (some ⟨b, 0, none⟩)] w (AnsR w b l (scanF l n s)) := by
 intro n
 induction n with
 | zero =>
  intro s w hp hn hR
  obtain ⟨p, bad⟩ := s
  cases bad with
  | none => have := hn rfl; simp only at this hp; omega
  | some q => exact scan_bad l b p w q hR
 | succ n ih =>
  intro s w hp hn hR
  obtain ⟨p, bad⟩ := s
  cases bad with
  | some q => rw [scanF_bad]; exact scan_bad l b p w q hR
  | none =>
   have hn' : l.length < n + 1 + p := hn rfl
   have hp' : p ≤ l.length := hp
   obtain ⟨W, p1, bad1, hM⟩ : ∃ W p1 bad1, must l startOk ⟨p, none⟩ = (W, ⟨p1, bad1⟩) := ⟨_, _, _, rfl⟩
   unfold scanF
   simp only [hM]
   by_cases h1 : W = endW
   ·rw [if_pos h1]; exact scan_end l b p w hl hp' hR W p1 bad1 hM h1
   rw [if_neg h1]
   by_cases h2 : W = recW
   ·rw [if_pos h2]; exact scan_rec l b p w hl hp' hR W p1 bad1 hM h2 n ih hn'
   rw [if_neg h2]
   by_cases h3 : W = [33]
   ·rw [if_pos h3]; exact scan_bang l b p w hl hp' hR W p1 bad1 hM h3 n ih hn'
   rw [if_neg h3]
   by_cases h4 : W = [63]
   ·rw [if_pos h4]; exact scan_ask l b p w hl hp' hR W p1 bad1 hM h4 n ih hn'
   rw [if_neg h4]
   by_cases h5 : W = [43]
   ·rw [if_pos h5]; exact scan_plus l b p w hl hp' hR W p1 bad1 hM h5 n ih hn'
   rw [if_neg h5]
   by_cases h6 : W = [38]
   ·rw [if_pos h6]; exact scan_amp l b p w hl hp' hR W p1 bad1 hM h6 n ih hn'
   rw [if_neg h6]
   exact scan_var l b p w hl hp' hR W p1 bad1 hM h1 h2 h3 h4 h5 h6

theorem laid2_facts (tb fb : Nat) {t0 : Ty} {lv0 kv0 y z : Value} (w : World) (TB : VBox w tb t0 lv0 kv0) (hf0 : w.cell? ⟨fb, 0, none⟩ = some y) (hf1 : w.cell? ⟨fb, 1, none⟩ = some z)
  (h13 : ¬ tb = fb) (h31 : ¬ fb = tb) (t : Ty) (lv kv : Value) (c a : Int) :
  VBox (((((((w.setCell ⟨tb, 0, none⟩ (.int .i64 t.kind)).setCell ⟨tb, 1, none⟩ (.int .i64 t.sort)).setCell ⟨tb, 2, none⟩ (.string ⟨t.name.toArray⟩)).setCell ⟨tb, 3, none⟩ lv).setCell ⟨tb, 4, none⟩ kv).setCell ⟨fb, 0, none⟩ (.int .i64 c)).setCell ⟨fb, 1, none⟩ (.int .i64 a)) tb t lv kv ∧ ((((((((w.setCell ⟨tb, 0, none⟩ (.int .i64 t.kind)).setCell ⟨tb, 1, none⟩ (.int .i64 t.sort)).setCell ⟨tb, 2, none⟩ (.string ⟨t.name.toArray⟩)).setCell ⟨tb, 3, none⟩ lv).setCell ⟨tb, 4, none⟩ kv).setCell ⟨fb, 0, none⟩ (.int .i64 c)).setCell ⟨fb, 1, none⟩ (.int .i64 a))).cell? ⟨fb, 0, none⟩ = some (.int .i64 c) ∧ ((((((((w.setCell ⟨tb, 0, none⟩ (.int .i64 t.kind)).setCell ⟨tb, 1, none⟩ (.int .i64 t.sort)).setCell ⟨tb, 2, none⟩ (.string ⟨t.name.toArray⟩)).setCell ⟨tb, 3, none⟩ lv).setCell ⟨tb, 4, none⟩ kv).setCell ⟨fb, 0, none⟩ (.int .i64 c)).setCell ⟨fb, 1, none⟩ (.int .i64 a))).cell? ⟨fb, 1, none⟩ = some (.int .i64 a) ∧ (∀ B v, Below B v w → B ≤ tb → B ≤ fb → Below B v (((((((w.setCell ⟨tb, 0, none⟩ (.int .i64 t.kind)).setCell ⟨tb, 1, none⟩ (.int .i64 t.sort)).setCell ⟨tb, 2, none⟩ (.string ⟨t.name.toArray⟩)).setCell ⟨tb, 3, none⟩ lv).setCell ⟨tb, 4, none⟩ kv).setCell ⟨fb, 0, none⟩ (.int .i64 c)).setCell ⟨fb, 1, none⟩ (.int .i64 a))) ∧ Same (fun k => k ≠ tb ∧ k ≠ fb) w (((((((w.setCell ⟨tb, 0, none⟩ (.int .i64 t.kind)).setCell ⟨tb, 1, none⟩ (.int .i64 t.sort)).setCell ⟨tb, 2, none⟩ (.string ⟨t.name.toArray⟩)).setCell ⟨tb, 3, none⟩ lv).setCell ⟨tb, 4, none⟩ kv).setCell ⟨fb, 0, none⟩ (.int .i64 c)).setCell ⟨fb, 1, none⟩ (.int .i64 a)) := by
 have V1 := TB.fill t lv kv
 have hc : ∀ (k o : Nat), ¬ tb = k → ((((((w.setCell ⟨tb, 0, none⟩ (.int .i64 t.kind)).setCell ⟨tb, 1, none⟩ (.int .i64 t.sort)).setCell ⟨tb, 2, none⟩ (.string ⟨t.name.toArray⟩)).setCell ⟨tb, 3, none⟩ lv).setCell ⟨tb, 4, none⟩ kv)).cell? ⟨k, o, none⟩ = w.cell? ⟨k, o, none⟩ := by
  intro k o hk
  rw [World.cell?_setCell_far _ _ _ _ hk, World.cell?_setCell_far _ _ _ _ hk, World.cell?_setCell_far _ _ _ _ hk, World.cell?_setCell_far _ _ _ _ hk, World.cell?_setCell_far _ _ _ _ hk]
 have e2 := (hc fb 0 h13).trans hf0
 have e3 := (hc fb 1 h13).trans hf1
 have hb : ∀ B v, Below B v w → B ≤ tb → Below B v (((((w.setCell ⟨tb, 0, none⟩ (.int .i64 t.kind)).setCell ⟨tb, 1, none⟩ (.int .i64 t.sort)).setCell ⟨tb, 2, none⟩ (.string ⟨t.name.toArray⟩)).setCell ⟨tb, 3, none⟩ lv).setCell ⟨tb, 4, none⟩ kv) := fun B v h hB => below_fill h hB _ _ _ _ _
 have hs : Same (fun k => k ≠ tb ∧ k ≠ fb) w (((((w.setCell ⟨tb, 0, none⟩ (.int .i64 t.kind)).setCell ⟨tb, 1, none⟩ (.int .i64 t.sort)).setCell ⟨tb, 2, none⟩ (.string ⟨t.name.toArray⟩)).setCell ⟨tb, 3, none⟩ lv).setCell ⟨tb, 4, none⟩ kv) := Same.fill (fun h => h.1 rfl) _ _ _ _ _
 have hz : ((((((w.setCell ⟨tb, 0, none⟩ (.int .i64 t.kind)).setCell ⟨tb, 1, none⟩ (.int .i64 t.sort)).setCell ⟨tb, 2, none⟩ (.string ⟨t.name.toArray⟩)).setCell ⟨tb, 3, none⟩ lv).setCell ⟨tb, 4, none⟩ kv)).heap.size = w.heap.size := by simp only [World.size_setCell]
 clear hc
 generalize (((((w.setCell ⟨tb, 0, none⟩ (.int .i64 t.kind)).setCell ⟨tb, 1, none⟩ (.int .i64 t.sort)).setCell ⟨tb, 2, none⟩ (.string ⟨t.name.toArray⟩)).setCell ⟨tb, 3, none⟩ lv).setCell ⟨tb, 4, none⟩ kv) = w1 at V1 e2 e3 hb hs hz ⊢
 have V2 := (V1.far (p := ⟨fb, 0, none⟩) h31 (.int .i64 c)).far (p := ⟨fb, 1, none⟩) h31 (.int .i64 a)
 have ne : ∀ {w : World} {i j : Nat} {u : Value}, i ≠ j → (w.setCell ⟨fb, i, none⟩ u).cell? ⟨fb, j, none⟩ = w.cell? ⟨fb, j, none⟩ := fun h => World.cell?_setCell_other _ _ _ _ (fun e => h (by injection e))
 refine ⟨V2, ?_, ?_, fun B v h h1 h3 => ((hb B v h h1).setCell h3 _).setCell h3 _, ?_⟩
 ·rw [ne (by decide)]
  exact World.cell?_setCell_same' _ _ _ (by rw [e2]; rfl)
 ·exact World.cell?_setCell_same' _ _ _ (by rw [ne (by decide), e3]; rfl)
 ·refine (hs.trans (by omega) (Same.set (fun h => h.2 rfl))).trans ?_ (Same.set (fun h => h.2 rfl))
  simp only [World.size_setCell]; omega
set_option maxHeartbeats 4000000 in
theorem BeginType_any (l : Str) (at_ : Int) (p : Nat) (hp : p ≤ l.length) (hpc : (p : Int) = max 0 (min at_ l.length)) (w : World) (hl : l.length ≤ 9223372036854775807) :
  Calls Tryz.prog 73 #[.string ⟨l.toArray⟩, .int .i64 at_] w fun e w' => Below w.heap.size w w' ∧ ∃ v, e = .returned (.tuple #[v, .int .i64 (rdBegin l p).2.1, .agg #[.int .i64 (rdBegin l p).2.2.1, .int .i64 (rdBegin l p).2.2.2]]) ∧ TyD (fun k => w.heap.size ≤ k) w' v (rdBegin l p).1 := by
 rw [← begin_agree]
 obtain ⟨TT, EE, CC, AA, hA⟩ : ∃ t e c a, scBegin l p = (t, e, c, a) := ⟨_, _, _, _, rfl⟩
 rw [hA]
 simp only
 have HA := Lib.hid hA; clear hA
 by_cases h2000 : l.length ≤ 2000
 ·have hd : decide ((2000 : Int) < (l.length : Int)) = false := by simp; omega
  go_enter Tryz.func73, Tryz.ntmps73
  go_wp2_with fail
  rw [← hpc]
  obtain ⟨W, hW⟩ : ∃ x, ((w.alloc (.cells #[.int .i64 0, .int .i64 0, .string ⟨#[]⟩, .slice none 0 0, .slice none 0 0] 30)).alloc (.cells #[.int .i64 0, .int .i64 0] 37)).alloc (.cells #[.string ⟨l.toArray⟩, .int .i64 (p : Int), .bool false, .int .i64 0, .int .i64 0] 162) = x := ⟨_, rfl⟩
  have hbW : Below w.heap.size w W := by subst hW; go_grown
  have XB : VBox W w.heap.size zeroTy (.slice none 0 0) (.slice none 0 0) := by subst hW; exact ⟨by simp [go_sem]; rfl, by simp [go_sem]; rfl, by simp [go_sem]; rfl, by simp [go_sem], by simp [go_sem], fun j => by simp [go_sem], by simp; omega⟩
  have f0 : W.cell? ⟨w.heap.size + 1, 0, none⟩ = some (.int .i64 0) := by subst hW; simp [go_sem]
  have f1 : W.cell? ⟨w.heap.size + 1, 1, none⟩ = some (.int .i64 0) := by subst hW; simp [go_sem]
  have fz : ∀ j, W.frozen? ⟨w.heap.size + 1, j, none⟩ = false := by subst hW; intro j; simp [go_sem]
  have RB : SBox W (w.heap.size + 1 + 1) l ⟨p, none⟩ := by subst hW; exact ⟨by simp [go_sem], by simp [go_sem], by simp [go_sem], by simp [go_sem]; rfl, by simp [go_sem]; rfl, fun j => by simp [go_sem], by simp⟩
  rw [hW]
  clear hW
  have hWlt : w.heap.size + 1 + 1 < W.heap.size := RB.lt
  have hFlt := cell_lt f0
  refine (scan_any l (w.heap.size + 1 + 1) h2000 (l.length + 1) ⟨p, none⟩ W hp (fun _ => by show l.length < l.length + 1 + p; omega) RB).mono ?_
  have hon := scan_on (l := l) (l.length + 1) ⟨p, none⟩ hp
  have hfit : (scanF l (l.length + 1) ⟨p, none⟩).2.bad = none → Fit (scanF l (l.length + 1) ⟨p, none⟩).1 := fun h => by
   have h1 := scan_agree (l := l) (l.length + 1) p
   have h2 := rdOne_fit (l := l) (by unfold maxLen; omega) (l.length + 1) p
   cases hr : rdOne l (l.length + 1) p with
   | bad q => rw [hr] at h1; have h1' : (scanF l (l.length + 1) ⟨p, none⟩).2.bad = some q := h1; rw [h1'] at h; cases h
   | ok t q => rw [hr] at h1 h2; have h1' : scanF l (l.length + 1) ⟨p, none⟩ = (t, ⟨q, none⟩) := h1; rw [h1']; exact h2
  have HB : Hid ((match (scanF l (l.length + 1) ⟨p, none⟩).2.bad with
   | some q => (zeroTy, 0, 3, q)
   | none => if tyErr (scanF l (l.length + 1) ⟨p, none⟩).1 = 0 then ((scanF l (l.length + 1) ⟨p, none⟩).1, sk l (scanF l (l.length + 1) ⟨p, none⟩).2.p, 0, 0) else (zeroTy, 0, tyErr (scanF l (l.length + 1) ⟨p, none⟩).1, 0) : Ty × Nat × Int × Nat) = (TT, EE, CC, AA)) := Lib.hid (by rw [← HA.out]; unfold scBegin; rw [if_neg (show ¬ 2000 < l.length by omega)]; rfl)
  clear HA
  generalize scanF l (l.length + 1) ⟨p, none⟩ = RS at *
  obtain ⟨t, q, bd⟩ := RS
  simp only at hon hfit HB
  rintro e w5 ⟨hg, v, rfl, hT, RB5⟩
  have hb5 : Below w.heap.size w w5 := hbW.grown hg hbW.size (fun k e => by have := Option.some.inj e; omega)
  have XB5 := XB.grown' hg (by omega)
  have f05 := grown_cell hg (by omega) f0
  have f15 := grown_cell hg (by omega) f1
  have fz5 : ∀ j, w5.frozen? ⟨w.heap.size + 1, j, none⟩ = false := fun j => (World.frozen?_of_block (a := ⟨w.heap.size + 1, j, none⟩) (hg.block (w.heap.size + 1) hFlt (fun e => by have := Option.some.inj e; omega))).trans (fz j)
  obtain ⟨lv, kv, rfl, k1, k2⟩ := hT
  simp only at k1 k2 RB5
  have K1 := Lib.hid (k1.keep (D' := fun k => w.heap.size + 1 + 1 < k) (fun _ _ _ => rfl) (fun k hk _ => by have : W.heap.size ≤ k := hk; omega))
  have K2 := Lib.hid (k2.keep (D' := fun k => w.heap.size + 1 + 1 < k) (fun _ _ _ => rfl) (fun k hk _ => by have : W.heap.size ≤ k := hk; omega))
  obtain ⟨A1, c1, rfl, -, -⟩ := k1
  obtain ⟨A2, c2, rfl, -, -⟩ := k2
  have hR5 := RB5.lt
  clear hg XB f0 f1 fz RB hbW hFlt
  obtain ⟨r0, r1, r2, r3, r4, r5, r6⟩ := id RB5
  cases bd with
  | some q0 =>
   simp only [codeOf, placeOf] at r3 r4
   have hq := HB.out
   simp only [Prod.mk.injEq] at hq
   obtain ⟨rfl, rfl, rfl, rfl⟩ := hq
   go_wp2_with fail
   have hb6 : Below w5.heap.size w5 (w5.alloc (.cells #[.int .i64 t.kind, .int .i64 t.sort, .string ⟨t.name.toArray⟩, .slice A1 t.labels.length c1, .slice A2 t.kids.length c2] 30)) := (Below.refl _ _).alloc (Nat.le_refl _) _
   have TB6 := new_val w5 t (.slice A1 t.labels.length c1) (.slice A2 t.kids.length c2) 30
   have XB6 := XB5.keep hb6 XB5.lt
   have RB6 := RB5.keep hb6
   have f06 := cell_keep f05 hb6
   have f16 := cell_keep f15 hb6
   have fz60 := (hb6.frozen (p := ⟨w.heap.size + 1, 0, none⟩) (cell_lt f05)).trans (fz5 0)
   have fz61 := (hb6.frozen (p := ⟨w.heap.size + 1, 1, none⟩) (cell_lt f05)).trans (fz5 1)
   have hb7 := chain hb5 hb6
   replace K1 := Lib.hid (K1.out.keep (D' := fun k => w.heap.size + 1 + 1 < k) (Same.below hb6) (fun _ h _ => h))
   replace K2 := Lib.hid (K2.out.keep (D' := fun k => w.heap.size + 1 + 1 < k) (Same.below hb6) (fun _ h _ => h))
   have hTw := hR5
   clear hR5
   generalize (w5.alloc (.cells #[.int .i64 t.kind, .int .i64 t.sort, .string ⟨t.name.toArray⟩, .slice A1 t.labels.length c1, .slice A2 t.kids.length c2] 30)) = w6 at TB6 XB6 RB6 f06 f16 fz60 fz61 hb7 K1 K2 ⊢
   clear hb6 XB5 RB5 f05 f15 fz5 hb5
   generalize w5.heap.size = T at TB6 hTw ⊢
   clear r0 r1 r2 r3 r4 r5 r6
   clear w5
   obtain ⟨x0, x1, x2, x3, x4, x5, x6⟩ := id XB6
   obtain ⟨r0, r1, r2, r3, r4, r5, r6⟩ := id RB6
   simp only [codeOf, placeOf] at r3 r4
   go_region
   go_wp2_with fail
   obtain ⟨TB9, f09, f19, hbl, hsm⟩ := laid2_facts w.heap.size (w.heap.size + 1) w6 XB6 f06 f16 (by omega) (by omega) zeroTy (.slice none 0 0) (.slice none 0 0) 3 (q0 : Int)
   have hbN := (hbl _ _ hb7 (Nat.le_refl _) (by omega)).drew
   simp only [zeroTy, Ty.kind, Ty.sort, Ty.name] at TB9 f09 f19 hbN
   generalize (((((((w6.setCell ⟨w.heap.size, 0, none⟩ (.int .i64 0)).setCell ⟨w.heap.size, 1, none⟩ (.int .i64 0)).setCell ⟨w.heap.size, 2, none⟩ (.string ⟨([] : Str).toArray⟩)).setCell ⟨w.heap.size, 3, none⟩ (.slice none 0 0)).setCell ⟨w.heap.size, 4, none⟩ (.slice none 0 0)).setCell ⟨w.heap.size + 1, 0, none⟩ (.int .i64 3)).setCell ⟨w.heap.size + 1, 1, none⟩ (.int .i64 q0)) = w9 at TB9 f09 f19 hbN ⊢
   have TB10 : VBox w9.drew w.heap.size (.mk 0 0 [] [] []) (.slice none 0 0) (.slice none 0 0) := ⟨TB9.c0, TB9.c1, TB9.c2, TB9.c3, TB9.c4, TB9.fr, TB9.lt⟩
   have f10 : w9.drew.cell? ⟨w.heap.size + 1, 0, none⟩ = some (.int .i64 3) := f09
   have f11 : w9.drew.cell? ⟨w.heap.size + 1, 1, none⟩ = some (.int .i64 (q0 : Int)) := f19
   generalize w9.drew = w11 at TB10 f10 f11 hbN ⊢
   obtain ⟨y0, y1, y2, y3, y4, y5, y6⟩ := id TB10
   simp only [Ty.kind, Ty.sort, Ty.name] at y0 y1 y2
   refine bodyPost_ret (v := .tuple #[.agg #[.int .i64 0, .int .i64 0, .string ⟨#[]⟩, (.slice none 0 0), (.slice none 0 0)], .int .i64 0, .agg #[.int .i64 3, .int .i64 (q0 : Int)]]) (by simp [results, Tryz.results73, go_sem, y0, y1, y2, y3, y4, f10, f11]) rfl ?_
   exact ⟨hbN, _, rfl, ⟨_, _, rfl, no_strs _ _, no_tys _ _⟩⟩
  | none =>
   simp only [codeOf, placeOf] at r3 r4
   go_wp2_with fail
   have hb6 : Below w5.heap.size w5 (w5.alloc (.cells #[.int .i64 t.kind, .int .i64 t.sort, .string ⟨t.name.toArray⟩, .slice A1 t.labels.length c1, .slice A2 t.kids.length c2] 30)) := (Below.refl _ _).alloc (Nat.le_refl _) _
   have TB6 := new_val w5 t (.slice A1 t.labels.length c1) (.slice A2 t.kids.length c2) 30
   have XB6 := XB5.keep hb6 XB5.lt
   have RB6 := RB5.keep hb6
   have f06 := cell_keep f05 hb6
   have f16 := cell_keep f15 hb6
   have fz60 := (hb6.frozen (p := ⟨w.heap.size + 1, 0, none⟩) (cell_lt f05)).trans (fz5 0)
   have fz61 := (hb6.frozen (p := ⟨w.heap.size + 1, 1, none⟩) (cell_lt f05)).trans (fz5 1)
   have hb7 := chain hb5 hb6
   replace K1 := Lib.hid (K1.out.keep (D' := fun k => w.heap.size + 1 + 1 < k) (Same.below hb6) (fun _ h _ => h))
   replace K2 := Lib.hid (K2.out.keep (D' := fun k => w.heap.size + 1 + 1 < k) (Same.below hb6) (fun _ h _ => h))
   have hTw := hR5
   clear hR5
   generalize (w5.alloc (.cells #[.int .i64 t.kind, .int .i64 t.sort, .string ⟨t.name.toArray⟩, .slice A1 t.labels.length c1, .slice A2 t.kids.length c2] 30)) = w6 at TB6 XB6 RB6 f06 f16 fz60 fz61 hb7 K1 K2 ⊢
   clear hb6 XB5 RB5 f05 f15 fz5 hb5
   generalize w5.heap.size = T at TB6 hTw ⊢
   clear r0 r1 r2 r3 r4 r5 r6
   clear w5
   refine (skip_any l (w.heap.size + 1 + 1) q none w6 h2000 hon.2.1 RB6).mono ?_
   rintro e w7 ⟨rfl, hg, RB7⟩
   have hb8 : Below w.heap.size w w7 := hb7.grown hg hb7.size (fun k e => by have := Option.some.inj e; omega)
   have XB7 := XB6.grown' hg (by omega)
   have TB7 := TB6.grown' hg (by omega)
   have f07 := grown_cell hg (by omega) f06
   have f17 := grown_cell hg (by omega) f16
   have fz70 := grown_frozen hg (by omega) f06 fz60
   have fz71 := grown_frozen hg (by omega) f16 fz61
   have hsm : Same (fun k => w.heap.size + 1 + 1 < k) w6 w7 := Same.grown hg (fun k hk e => by have := Option.some.inj e; omega)
   replace K1 := Lib.hid (K1.out.keep (D' := fun k => w.heap.size + 1 + 1 < k) hsm (fun _ h _ => h))
   replace K2 := Lib.hid (K2.out.keep (D' := fun k => w.heap.size + 1 + 1 < k) hsm (fun _ h _ => h))
   clear hsm hg XB6 TB6 RB6 f06 f16 fz60 fz61 hb7
   clear w6
   obtain ⟨t0, t1, t2, t3, t4, t5, t6⟩ := id TB7
   go_wp2_with fail
   refine (refType_any t _ w7 (tyD_of K1.out K2.out).is (hfit trivial)).mono ?_
   obtain ⟨E, hE⟩ : ∃ x, tyErr t = x := ⟨_, rfl⟩
   rw [hE] at HB ⊢
   clear hE
   rintro e w8 ⟨rfl, hb9⟩
   have XB8 := XB7.keep hb9 XB7.lt
   have TB8 := TB7.keep hb9 TB7.lt
   have RB8 := RB7.keep hb9
   have f08 := cell_keep f07 hb9
   have f18 := cell_keep f17 hb9
   have fz80 := (hb9.frozen (p := ⟨w.heap.size + 1, 0, none⟩) (cell_lt f07)).trans fz70
   have fz81 := (hb9.frozen (p := ⟨w.heap.size + 1, 1, none⟩) (cell_lt f07)).trans fz71
   have hb10 := chain hb8 hb9
   replace K1 := Lib.hid (K1.out.keep (D' := fun k => w.heap.size + 1 + 1 < k) (Same.below hb9) (fun _ h _ => h))
   replace K2 := Lib.hid (K2.out.keep (D' := fun k => w.heap.size + 1 + 1 < k) (Same.below hb9) (fun _ h _ => h))
   clear XB7 TB7 RB7 f07 f17 fz70 fz71 hb8 hb9 t0 t1 t2 t3 t4 t5 t6
   clear w7
   obtain ⟨x0, x1, x2, x3, x4, x5, x6⟩ := id XB8
   obtain ⟨t0, t1, t2, t3, t4, t5, t6⟩ := id TB8
   obtain ⟨r0, r1, r2, r3, r4, r5, r6⟩ := id RB8
   simp only [codeOf, placeOf] at r3 r4
   by_cases hE0 : E = 0
   ·subst hE0
    have hq := HB.out
    simp only [if_true, Prod.mk.injEq] at hq
    obtain ⟨rfl, rfl, rfl, rfl⟩ := hq
    go_wp2_with fail
    go_region
    go_wp2_with fail
    obtain ⟨TB9, f09, f19, hbl, hsm⟩ := laid2_facts w.heap.size (w.heap.size + 1) w8 XB8 f08 f18 (by omega) (by omega) t (.slice A1 t.labels.length c1) (.slice A2 t.kids.length c2) 0 0
    have hbN := (hbl _ _ hb10 (Nat.le_refl _) (by omega)).drew
    have K3 := K1.out.keep (D' := fun k => w.heap.size ≤ k) (fun k hk hl => hsm k (by have : w.heap.size + 1 + 1 < k := hk; omega) hl) (fun k hk _ => by have : w.heap.size + 1 + 1 < k := hk; omega)
    have K4 := K2.out.keep (D' := fun k => w.heap.size ≤ k) (fun k hk hl => hsm k (by have : w.heap.size + 1 + 1 < k := hk; omega) hl) (fun k hk _ => by have : w.heap.size + 1 + 1 < k := hk; omega)
    generalize (((((((w8.setCell ⟨w.heap.size, 0, none⟩ (.int .i64 t.kind)).setCell ⟨w.heap.size, 1, none⟩ (.int .i64 t.sort)).setCell ⟨w.heap.size, 2, none⟩ (.string ⟨t.name.toArray⟩)).setCell ⟨w.heap.size, 3, none⟩ (.slice A1 t.labels.length c1)).setCell ⟨w.heap.size, 4, none⟩ (.slice A2 t.kids.length c2)).setCell ⟨w.heap.size + 1, 0, none⟩ (.int .i64 0)).setCell ⟨w.heap.size + 1, 1, none⟩ (.int .i64 0)) = w9 at TB9 f09 f19 hbN K3 K4 ⊢
    have TB10 : VBox w9.drew w.heap.size t (.slice A1 t.labels.length c1) (.slice A2 t.kids.length c2) := ⟨TB9.c0, TB9.c1, TB9.c2, TB9.c3, TB9.c4, TB9.fr, TB9.lt⟩
    have f10 : w9.drew.cell? ⟨w.heap.size + 1, 0, none⟩ = some (.int .i64 0) := f09
    have f11 : w9.drew.cell? ⟨w.heap.size + 1, 1, none⟩ = some (.int .i64 0) := f19
    have K5 := K3.keep (D' := fun k => w.heap.size ≤ k) (w' := w9.drew) (fun _ _ _ => rfl) (fun _ h _ => h)
    have K6 := K4.keep (D' := fun k => w.heap.size ≤ k) (w' := w9.drew) (fun _ _ _ => rfl) (fun _ h _ => h)
    generalize w9.drew = w11 at TB10 f10 f11 hbN K5 K6 ⊢
    obtain ⟨y0, y1, y2, y3, y4, y5, y6⟩ := id TB10
    refine bodyPost_ret (v := .tuple #[.agg #[.int .i64 t.kind, .int .i64 t.sort, .string ⟨t.name.toArray⟩, (.slice A1 t.labels.length c1), (.slice A2 t.kids.length c2)], .int .i64 (sk l q : Int), .agg #[.int .i64 0, .int .i64 0]]) (by simp [results, Tryz.results73, go_sem, y0, y1, y2, y3, y4, f10, f11]) rfl ?_
    exact ⟨hbN, _, rfl, ⟨_, _, rfl, K5, K6⟩⟩
   ·have hbe : (E != 0) = true := by rw [bne_iff_ne]; exact hE0
    have hq := HB.out
    simp only [hE0, if_false, Prod.mk.injEq] at hq
    obtain ⟨rfl, rfl, rfl, rfl⟩ := hq
    go_wp2_with fail
    obtain ⟨TB9, f09, f19, hbl, hsm⟩ := laid2_facts w.heap.size (w.heap.size + 1) w8 XB8 f08 f18 (by omega) (by omega) zeroTy (.slice none 0 0) (.slice none 0 0) E 0
    have hbN := (hbl _ _ hb10 (Nat.le_refl _) (by omega))
    simp only [zeroTy, Ty.kind, Ty.sort, Ty.name] at TB9 f09 f19 hbN
    generalize (((((((w8.setCell ⟨w.heap.size, 0, none⟩ (.int .i64 0)).setCell ⟨w.heap.size, 1, none⟩ (.int .i64 0)).setCell ⟨w.heap.size, 2, none⟩ (.string ⟨([] : Str).toArray⟩)).setCell ⟨w.heap.size, 3, none⟩ (.slice none 0 0)).setCell ⟨w.heap.size, 4, none⟩ (.slice none 0 0)).setCell ⟨w.heap.size + 1, 0, none⟩ (.int .i64 E)).setCell ⟨w.heap.size + 1, 1, none⟩ (.int .i64 0)) = w9 at TB9 f09 f19 hbN ⊢
    have TB10 : VBox w9 w.heap.size (.mk 0 0 [] [] []) (.slice none 0 0) (.slice none 0 0) := ⟨TB9.c0, TB9.c1, TB9.c2, TB9.c3, TB9.c4, TB9.fr, TB9.lt⟩
    have f10 : w9.cell? ⟨w.heap.size + 1, 0, none⟩ = some (.int .i64 E) := f09
    have f11 : w9.cell? ⟨w.heap.size + 1, 1, none⟩ = some (.int .i64 0) := f19
    obtain ⟨y0, y1, y2, y3, y4, y5, y6⟩ := id TB10
    simp only [Ty.kind, Ty.sort, Ty.name] at y0 y1 y2
    refine bodyPost_ret (v := .tuple #[.agg #[.int .i64 0, .int .i64 0, .string ⟨#[]⟩, (.slice none 0 0), (.slice none 0 0)], .int .i64 0, .agg #[.int .i64 E, .int .i64 0]]) (by simp [results, Tryz.results73, go_sem, y0, y1, y2, y3, y4, f10, f11]) rfl ?_
    exact ⟨hbN, _, rfl, ⟨_, _, rfl, no_strs _ _, no_tys _ _⟩⟩
 ·have hd : (2000 : Int) < (l.length : Int) := by omega
  have hres : scBegin l p = (zeroTy, 0, 2, 0) := by unfold scBegin; rw [if_pos (by omega)]
  have hq := hres.symm.trans HA.out
  simp only [Prod.mk.injEq] at hq
  obtain ⟨rfl, rfl, rfl, rfl⟩ := hq
  go_enter Tryz.func73, Tryz.ntmps73
  go_wp2_with fail
  refine bodyPost_ret (v := .tuple #[.agg #[.int .i64 0, .int .i64 0, .string ⟨#[]⟩, .slice none 0 0, .slice none 0 0], .int .i64 0, .agg #[.int .i64 2, .int .i64 0]]) (by simp [results, Tryz.results73, go_sem]) rfl ?_
  exact ⟨by go_grown, _, rfl, ⟨_, _, rfl, no_strs _ _, no_tys _ _⟩⟩
end Go.Proofs.YtpidjanngbaiiaaGreatDoor
