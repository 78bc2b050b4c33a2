/-
  Regions that draw their order, hold calls, and end in a store that waits for all the rest: what a load yields is told once; the condition S on the world is asked for no longer than till the tail begins.
  Boxes and rows: what several walks share.
  types.check answers 'chk'.
  types.check answers 'chk': the quick cases, a Var.
-/
import Derived.Test.YtpidjanngbaiiaaGreatDoorM2
import Derived.Deep.RegionHeld3
import Derived.Deep.DrawnRows
import Derived.Laws.AppendOwnNone
import Derived.Test.YtpidjanngbaiiaaGreatDoorM4
namespace Go.Proofs.YtpidjanngbaiiaaGreatDoor
open Go.RowKit Go.Proofs

section
variable {P : Program} {ops : Array Oper} {Q : Exit → Act → World → Prop} {md : Region.Mode} {S : World → Prop} {n : Nat}

def wpT (P : Program) (md : Region.Mode) (ops : Array Oper) (Q : Exit → Act → World → Prop) (S : World → Prop) (n : Nat) : Nat → Array Bool → Act → World → Prop
 | 0, L, a, w => Region.ready md ops L = [] ∧ Q .normal a w
 | g + 1, L, a, w => (Region.ready md ops L = [] → Q .normal a w) ∧ ∀ i ∈ Region.ready md ops L, wpOp P ops Q i (fun a' w' => (i < n → S w') ∧ wpT P md ops Q S n g (L.setIfInBounds i true) a' w') a w

theorem wpAny_of_T : ∀ (g : Nat) (L : Array Bool) (a : Act) (w : World), wpT P md ops Q S n g L a w → wpAny P md ops Q g L a w
 | 0, _, _, _, h => h
 | g + 1, _, _, _, h => ⟨h.1, fun i hi => wpOp_mono (fun a' w' h' => wpAny_of_T g _ a' w' h'.2) (h.2 i hi)⟩

def tailWaits (md : Region.Mode) (ops : Array Oper) (n i : Nat) : Bool :=
 (List.range ops.size).all fun j => decide (j < n) || (match ops[j]? with | some o => o.after.any fun e => Region.binds md e && e.on == i | none => true)
theorem tailWaits_lt {i j : Nat} {L : Array Bool} (h : tailWaits md ops n i = true) (hi : L.getD i true = false) (hj : j ∈ Region.ready md ops L) : j < n := by
 obtain ⟨hu, o, ho, hall⟩ := mem_ready.1 hj
 have hjs : j < ops.size := (Array.getElem?_eq_some_iff.1 ho).1
 have h1 := List.all_eq_true.1 h j (List.mem_range.2 hjs)
 simp only [ho, Bool.or_eq_true, decide_eq_true_eq] at h1
 rcases h1 with h1 | h1
 ·exact h1
 ·obtain ⟨k, hk, he⟩ := Array.any_eq_true.1 h1
  simp only [Bool.and_eq_true, beq_iff_eq] at he
  have h2 := hall _ (Array.getElem_mem hk) he.1
  rw [he.2] at h2
  rcases Nat.lt_or_ge i L.size with h' | h'
  ·simp only [Array.getD, h', dite_true] at hi h2
   exact absurd (hi.symm.trans h2) (by simp)
  ·simp [Array.getD, Nat.not_lt.2 h'] at hi

theorem wpT_first {i : Nat} {oi : Oper} {v : Value} (hi : ops[i]? = some oi) (hsel : ∀ (j : Nat) (o : Oper) cs b, ops[j]? = some o → o.op ≠ .select cs b) (htail : tailWaits md ops n i = true)
  (hQ : ∀ c a w, Q (.panic c) (a.put oi.dst v) w → Q (.panic c) a w) :
  ∀ (g : Nat) (L : Array Bool) (a : Act) (w : World),
   (∀ j oj, ops[j]? = some oj → j ≠ i → L.getD j true = false → (∀ e ∈ oj.after, Region.binds md e = true → e.on ≠ i) → oi.apart ops oj = true) →
   i ∈ Region.ready md ops L → YieldsIf P ops S oi v a → S w → wpT P md ops Q S n g (L.setIfInBounds i true) (a.put oi.dst v) w → wpT P md ops Q S n (g + 1) L a w := by
 intro g
 induction g with
 | zero =>
  intro L a w _ hr hy hS H
  refine ⟨fun h => (by rw [h] at hr; cases hr), fun j hj => ?_⟩
  by_cases hji : j = i
  ·subst hji
   exact hy.wpOp hi hS ⟨fun _ => hS, H⟩
  ·have h1 := ready_mono hj hji
   rw [H.1] at h1
   cases h1
 | succ g ih =>
  intro L a w hfree hr hy hS H
  refine ⟨fun h => (by rw [h] at hr; cases hr), fun j hj => ?_⟩
  by_cases hji : j = i
  ·subst hji
   exact hy.wpOp hi hS ⟨fun _ => hS, H⟩
  have hiL := (mem_ready.1 hr).1
  have hjn : j < n := tailWaits_lt htail hiL hj
  have h1 := H.2 j (ready_mono hj hji)
  obtain ⟨hju, oj, hoj, hall⟩ := mem_ready.1 hj
  have hno : ∀ e ∈ oj.after, Region.binds md e = true → e.on ≠ i := by
   intro e he hb hei
   have h2 := hall e he hb
   rw [hei] at h2
   rcases Nat.lt_or_ge i L.size with h' | h'
   ·simp only [Array.getD, h', dite_true] at hiL h2
    exact absurd (hiL.symm.trans h2) (by simp)
   ·simp [Array.getD, Nat.not_lt.2 h'] at hiL
  have h2 := wpOp_putIf hoj (hfree j oj hoj hji hju hno) (fun cs b => hsel i oi cs b hi) (fun cs b => hsel j oj cs b hoj) hQ hy h1
  refine wpOp_mono (fun a' w' h3 => ⟨h3.2.1, ?_⟩) h2
  refine ih (L.setIfInBounds j true) a' w' (fun k ok hk hki hun hno' => ?_) (ready_mono hr (Ne.symm hji)) h3.1 (h3.2.1 hjn) ?_
  ·refine hfree k ok hk hki ?_ hno'
   by_cases hjk : j = k
   ·subst hjk; exact hju
   ·rw [getD_set_ne true hjk] at hun; exact hun
  ·rw [Array.setIfInBounds_comm _ _ hji]
   exact h3.2.2

theorem wpT_take {i : Nat} {oi : Oper} {v : Value} {g : Nat} {L : Array Bool} {a : Act} {w : World} (hi : ops[i]? = some oi)
  (hs : Region.noSelect ops = true) (hf : Region.free md ops L i = true) (hr : (Region.ready md ops L).contains i = true) (ht : tailWaits md ops n i = true)
  (hQ : ∀ c a w, Q (.panic c) (a.put oi.dst v) w → Q (.panic c) a w) (hy : YieldsIf P ops S oi v a) (hS : S w)
  (h : wpT P md ops Q S n g (L.setIfInBounds i true) (a.put oi.dst v) w) : wpT P md ops Q S n (g + 1) L a w :=
 wpT_first hi (Region.noSelect_spec hs) ht hQ g L a w (Region.free_spec hi hf) (by simpa using hr) hy hS h

theorem zT (i : Nat) (v : Value) {oi : Oper} {g : Nat} {L : Array Bool} {a : Act} {w : World} (hi : ops[i]? = some oi) (hy : YieldsIf P ops S oi v a) (hS : S w)
  (h : wpT P md ops Q S n g (L.setIfInBounds i true) (a.put oi.dst v) w)
  (hs : Region.noSelect ops = true := by kernel_rfl) (hf : Region.free md ops L i = true := by kernel_rfl) (hr : (Region.ready md ops L).contains i = true := by kernel_rfl) (ht : tailWaits md ops n i = true := by kernel_rfl)
  (hQ : ∀ c a w, Q (.panic c) (a.put oi.dst v) w → Q (.panic c) a w := by exact fun _ _ _ h => h) : wpT P md ops Q S n (g + 1) L a w :=
 wpT_take hi hs hf hr ht hQ hy hS h

theorem wpT_one {i : Nat} {o : Oper} {g : Nat} {L : Array Bool} {a : Act} {w : World} (ho : ops[i]? = some o) (hr : Region.ready md ops L = [i])
  (h : ∀ K' : Act → World → Prop, Shut (∀ a w, (i < n → S w) → wpT P md ops Q S n g (L.setIfInBounds i true) a w → K' a w) → if Region.wanted o (yielded ops a.tmps) = true then Oper.wp P o a w K' Q else K' (a.put o.dst undef) w) : wpT P md ops Q S n (g + 1) L a w := by
 refine ⟨fun h0 => (by rw [hr] at h0; cases h0), fun j hj => ?_⟩
 rw [hr] at hj
 obtain rfl : j = i := by simpa using hj
 exact wpOp_step ho fun K' hK => h K' fun a w hS hW => hK a w ⟨hS, hW⟩
theorem zO (i : Nat) {o : Oper} {g : Nat} {L : Array Bool} {a : Act} {w : World}
  (h : ∀ K' : Act → World → Prop, Shut (∀ a w, (i < n → S w) → wpT P md ops Q S n g (L.setIfInBounds i true) a w → K' a w) → if Region.wanted o (yielded ops a.tmps) = true then Oper.wp P o a w K' Q else K' (a.put o.dst undef) w)
  (ho : ops[i]? = some o := by rfl) (hr : Region.ready md ops L = [i] := by kernel_rfl) : wpT P md ops Q S n (g + 1) L a w := wpT_one ho hr h
theorem wpT_two {i j : Nat} {o p : Oper} {g : Nat} {L : Array Bool} {a : Act} {w : World} (ho : ops[i]? = some o) (hp : ops[j]? = some p) (hr : Region.ready md ops L = [i, j])
  (h : ∀ K' : Act → World → Prop, Shut (∀ a w, (i < n → S w) → wpT P md ops Q S n g (L.setIfInBounds i true) a w → K' a w) → if Region.wanted o (yielded ops a.tmps) = true then Oper.wp P o a w K' Q else K' (a.put o.dst undef) w)
  (h' : ∀ K' : Act → World → Prop, Shut (∀ a w, (j < n → S w) → wpT P md ops Q S n g (L.setIfInBounds j true) a w → K' a w) → if Region.wanted p (yielded ops a.tmps) = true then Oper.wp P p a w K' Q else K' (a.put p.dst undef) w) : wpT P md ops Q S n (g + 1) L a w := by
 refine ⟨fun h0 => (by rw [hr] at h0; cases h0), fun k hk => ?_⟩
 rw [hr] at hk
 rcases (by simpa using hk : k = i ∨ k = j) with rfl | rfl
 ·exact wpOp_step ho fun K' hK => h K' fun a w hS hW => hK a w ⟨hS, hW⟩
 ·exact wpOp_step hp fun K' hK => h' K' fun a w hS hW => hK a w ⟨hS, hW⟩
theorem wpT_done {g : Nat} {L : Array Bool} {a : Act} {w : World} (hr : Region.ready md ops L = []) (h : Q .normal a w) : wpT P md ops Q S n g L a w := by
 cases g with
 | zero => exact ⟨hr, h⟩
 | succ g => exact ⟨fun _ => h, by rw [hr]; simp⟩
theorem wp_region_T (n : Nat) (S : World → Prop) {id : Nat} {a : Act} {w : World} (hm : P.follows .mixedOrders = true) (h : wpT P .any ops Q S n ops.size (Array.replicate ops.size false) a w.drew) : (Code.region id ops true).wp P Q a w :=
 wp_region_any hm (wpAny_of_T _ _ _ _ h)

theorem step_app {T E : TypeId} {size bytes : Nat} (R : RowType P T E size bytes) {o : Oper} {a : Act} {w : World} {K : Act → World → Prop} {X : Prop} (hgd : o.guard = none) (s x : Operand)
  (ho : o.op = .call { callee := .builtin .append, args := #[s, x], argTypes := #[T, T] })
  (base : Nat) (v : Value) (m : Nat) (xs : List Value) (hs : a.eval s = v) (hown : w.ownsRow base E size v m xs)
  (ad : Addr) (k c : Nat) (news : List Value) (hx : a.eval x = .slice (some ad) k c) (hl : news.length = k * size) (hnews : ∀ j u, news[j]? = some u → w.cell? (ad.add j) = some u) (h1 : ∀ u ∈ news, u.oneCell' = true)
  (h63 : m + k ≤ maxLen) (hbytes : (m + k) * bytes ≤ 140737488355328) (hbase : base ≤ w.heap.size)
  (h : ∀ v' w', w'.ownsRow base E size v' (m + k) (xs ++ news) → w.grownBy w' v.ownBlock → (v'.ownBlock = v.ownBlock ∨ v'.ownBlock = some w.heap.size) → Below base w w' → K (a.put o.dst v') w') :
  if Region.wanted o (yielded ops a.tmps) = true then Oper.wp P o a w K Q else X := by
 have hw : Region.wanted o (yielded ops a.tmps) = true := by simp [Region.wanted, hgd]
 rw [if_pos hw]
 obtain ⟨i, z, hi, hz, hsize, hby, hzs⟩ := R.ex
 obtain ⟨v', w', hr, h2, h3, _, h5⟩ := run_append_own_at (P := P) w base T o.type E i z size bytes R.ht hi hz hsize hby hzs R.pos v m xs hown ad k c news hl hnews h1 h63 hbytes hbase
 unfold Oper.wp execOp
 simp only [ho, resolve, invoke, builtin, Sem.run_bind, Sem.run_pure, Result.andThen_ok, List.map_toArray, List.map_cons, List.map_nil, hs, hx, hr]
 exact h _ _ h2 h3 h5 ((Below.refl _ _).grown h3 hbase (fun k hk => (hown.lt k hk).1))
theorem step_app_any {T E : TypeId} {size bytes : Nat} (R : RowType P T E size bytes) {o : Oper} {a : Act} {w : World} {K : Act → World → Prop} {X : Prop} (hgd : o.guard = none) (s x : Operand)
  (ho : o.op = .call { callee := .builtin .append, args := #[s, x], argTypes := #[T, T] })
  (base : Nat) (v : Value) (m : Nat) (xs : List Value) (hs : a.eval s = v) (hown : w.ownsRow base E size v m xs)
  (A : Option Addr) (k c : Nat) (hx : a.eval x = .slice A k c) (ys : List Value) (hl : ys.length = k * size) (hA : A = none → k = 0 ∧ c = 0) (hsrc : ∀ ad, A = some ad → ∀ j u, ys[j]? = some u → w.cell? (ad.add j) = some u) (h1 : ∀ u ∈ ys, u.oneCell' = true)
  (h63 : m + k ≤ maxLen) (hbytes : (m + k) * bytes ≤ 140737488355328) (hbase : base ≤ w.heap.size)
  (h : ∀ v' w', w'.ownsRow base E size v' (m + k) (xs ++ ys) → Below base w w' → K (a.put o.dst v') w') :
  if Region.wanted o (yielded ops a.tmps) = true then Oper.wp P o a w K Q else X := by
 cases A with
 | none =>
  obtain ⟨rfl, rfl⟩ := hA rfl
  obtain ⟨i, z, hi, hz, hsize, hby, hzs⟩ := R.ex
  have hw : Region.wanted o (yielded ops a.tmps) = true := by simp [Region.wanted, hgd]
  rw [if_pos hw]
  have hrun := run_append_owned_none (P := P) (w := w) base T o.type E i size R.ht hi v m xs hown
  have hys : ys = [] := List.eq_nil_of_length_eq_zero (by omega)
  subst hys
  unfold Oper.wp
  simp [execOp, ho, resolve, invoke, builtin, hs, hx, hrun, Result.andThen]
  exact h v w (by simpa using hown) (Below.refl _ _)
 | some ad => exact step_app R hgd s x ho base v m xs hs hown ad k c ys hx hl (hsrc ad rfl) h1 h63 hbytes hbase fun v' w' k1 _ _ k4 => h v' w' k1 k4
end
end Go.Proofs.YtpidjanngbaiiaaGreatDoor
namespace Go.Proofs.YtpidjanngbaiiaaGreatDoor
open Go.RowKit Go.Proofs

set_option maxRecDepth 100000
theorem VBox.grown {w w' : World} {b p : Nat} {t : Ty} {lv kv : Value} (h : VBox w b t lv kv) (hg : w.grownBy w' (some p)) (hb : b ≠ p) : VBox w' b t lv kv := by
 have hne : some b ≠ some p := fun e => hb (by injection e)
 have hc : ∀ j, w'.cell? ⟨b, j, none⟩ = w.cell? ⟨b, j, none⟩ := fun j => hg.cell_far ⟨b, j, none⟩ h.lt hne
 have hf : ∀ j, w'.frozen? ⟨b, j, none⟩ = w.frozen? ⟨b, j, none⟩ := fun j => hg.frozen_far ⟨b, j, none⟩ h.lt hne
 exact ⟨(hc 0).trans h.c0, (hc 1).trans h.c1, (hc 2).trans h.c2, (hc 3).trans h.c3, (hc 4).trans h.c4, fun j => (hf j).trans (h.fr j), Nat.lt_of_lt_of_le h.lt hg.size⟩
theorem VBox.far5 {w : World} {b q : Nat} {t : Ty} {lv kv : Value} (h : VBox w b t lv kv) (hq : q ≠ b) (x0 x1 x2 x3 x4 : Value) :
  VBox (((((w.setCell ⟨q, 0, none⟩ x0).setCell ⟨q, 1, none⟩ x1).setCell ⟨q, 2, none⟩ x2).setCell ⟨q, 3, none⟩ x3).setCell ⟨q, 4, none⟩ x4) b t lv kv := by
 have h0 := h.far (p := ⟨q, 0, none⟩) hq x0
 have h1 := h0.far (p := ⟨q, 1, none⟩) hq x1
 have h2 := h1.far (p := ⟨q, 2, none⟩) hq x2
 have h3 := h2.far (p := ⟨q, 3, none⟩) hq x3
 exact h3.far (p := ⟨q, 4, none⟩) hq x4
theorem clone_own {D : Blocks} {w : World} {v : Value} {l : List Str} (h : StrsD D w v l) (hl : l.length ≤ 1000) :
  Calls Tryz.prog 115 #[v] w fun e w' => ∃ v', e = .returned v' ∧ w'.ownsRow w.heap.size 9 1 v' l.length (l.map fun s => .string ⟨s.toArray⟩) ∧ Below w.heap.size w w' := by
 obtain ⟨A, cap, rfl, hc, h3⟩ := h
 cases A with
 | none =>
  have h0 : l = [] := by
   rcases Nat.eq_zero_or_pos l.length with h | h
   ·exact List.eq_nil_of_length_eq_zero h
   ·obtain ⟨b, off, e, _⟩ := h3 h
    cases e
  subst h0
  refine (Tryz.slices_Clone_string_nil _ _ w).mono ?_
  rintro e w' ⟨rfl, rfl⟩
  exact ⟨_, rfl, World.ownsRow_nil _ _ _ _, Below.refl _ _⟩
 | some a =>
  rcases Nat.eq_zero_or_pos l.length with h | h
  ·have h0 := List.eq_nil_of_length_eq_zero h
   subst h0
   refine (Tryz.slices_Clone_string_zero a cap w).mono ?_
   rintro e w' ⟨v', rfl, hown, _, hb⟩
   exact ⟨_, rfl, hown, hb⟩
  ·obtain ⟨b, off, e, _, hr⟩ := h3 h
   cases e
   refine (Tryz.slices_Clone_string b off l.length cap (l.map fun s => ⟨s.toArray⟩) w (by simp) (by omega) ?_).mono ?_
   ·intro j hj
    have hj' : j < l.length := by simpa using hj
    rw [hr j l[j] (by simp [hj'])]
    simp [List.getD, hj']
   ·rintro e w' ⟨v', rfl, hown, _, hb⟩
    rw [List.take_of_length_le (by simp), List.map_map] at hown
    exact ⟨_, rfl, hown, hb⟩
theorem IsTodos.form {w : World} {ad : Addr} {n c : Nat} {st : List Todo} (h : IsTodos w (.slice (some ad) n c) st) : n = st.length ∧ ∃ xs, Cells6 w xs st ∧ ∀ j u, xs[j]? = some u → w.cell? (ad.add j) = some u := by
 obtain ⟨A, cap, xs, e, _, h3, _, h5⟩ := h
 injection e with e1 e2 e3
 subst e1 e2 e3
 exact ⟨rfl, xs, h3, (h5 _ rfl).2⟩
set_option maxRecDepth 100000
def CheckSays (t : Ty) (v bv : Value) (bound : List Str) (p : Nat) (left : Int) (w : World) : Prop :=
 Calls Tryz.prog 83 #[v, bv, .pointer (some ⟨p, 0, none⟩)] w fun e w' => e = .returned (.int .i64 (chk t bound left).1) ∧ w.grownBy w' (some p) ∧ w'.cell? ⟨p, 0, none⟩ = some (.int .i64 (chk t bound left).2) ∧ w'.frozen? ⟨p, 0, none⟩ = false


theorem chkKids_drop {ks : List Ty} {b : List Str} {l : Int} {k : Nat} {c : Ty} (h : ks[k]? = some c) : chkKids (ks.drop k) b l = if (chk c b l).1 ≠ 0 then chk c b l else chkKids (ks.drop (k + 1)) b (chk c b l).2 := by
 obtain ⟨h1, h2⟩ := List.getElem?_eq_some_iff.1 h
 rw [List.drop_eq_getElem_cons h1, h2]
 rfl

set_option maxHeartbeats 2000000 in
theorem check_o (m : Nat) (ih : ∀ (t : Ty) (v bv : Value) (bound : List Str) (p : Nat) (left : Int) (w : World), parts t ≤ m → TyD (· ≠ p) w v t → Fit t → StrsD (· ≠ p) w bv bound → (∀ s ∈ bound, s.length ≤ maxLen) → 0 ≤ left → (bound.length : Int) + left ≤ 60 → w.cell? ⟨p, 0, none⟩ = some (.int .i64 left) → w.frozen? ⟨p, 0, none⟩ = false → CheckSays t v bv bound p left w)
  (t : Ty) (v bv : Value) (bound : List Str) (p : Nat) (left : Int) (w : World) (hm : parts t ≤ m + 1) (hv : TyD (· ≠ p) w v t) (hf : Fit t) (hbv : StrsD (· ≠ p) w bv bound) (hbl : ∀ s ∈ bound, s.length ≤ maxLen) (hl0 : 0 ≤ left) (hl : (bound.length : Int) + left ≤ 60) (hc : w.cell? ⟨p, 0, none⟩ = some (.int .i64 left)) (hfr : w.frozen? ⟨p, 0, none⟩ = false)
  (hans : chk t bound left = chkKids t.kids bound (left - 1)) (hpos : 1 ≤ left) (hsh : shapeOk t.kind t.sort t.name t.labels t.kids.length = true) (h9 : (t.kind == 9) = false) (h8 : (t.kind == 8) = false) :
  CheckSays t v bv bound p left w := by
 unfold CheckSays
 rw [hans]
 clear hans
 have HT := Lib.hid hv
 have HB := Lib.hid hbv
 obtain ⟨lv, kv, rfl, h1, h2⟩ := hv
 have HK := Lib.hid h2
 obtain ⟨A0, p0, rfl, -, -⟩ := h1
 obtain ⟨A, cap, rfl, -, -⟩ := h2
 have HF := Lib.hid hf
 have HBL := Lib.hid hbl
 have HC := Lib.hid hc
 have hp := cell_lt hc
 obtain ⟨ks, hks⟩ : ∃ x, t.kids = x := ⟨_, rfl⟩
 have HFK : Hid (∀ c ∈ ks, Fit c) := by have := HF.out.parts.2.2.2.2; rw [hks] at this; exact this
 have HP : Hid (1 + partss ks ≤ m + 1) := by cases t; subst hks; exact hm
 have hkl : ks.length ≤ maxLen := by rw [← hks]; exact hf.parts.2.2.2.1
 unfold maxLen at hkl
 have HKS := Lib.hid hks
 rw [hks] at HK hsh ⊢
 obtain ⟨L, hL⟩ : ∃ x, ks.length = x := ⟨_, rfl⟩
 have HL := Lib.hid hL
 rw [hL] at HK hkl hsh ⊢
 clear hks hL
 go_enter Tryz.func83, Tryz.ntmps83
 go_wp2_with fail
 obtain ⟨W, hW⟩ : ∃ W, (w.setCell ⟨p, 0, none⟩ (.int .i64 (left - 1))).alloc (.cells #[.int .i64 t.kind, .int .i64 t.sort, .string ⟨t.name.toArray⟩, .slice A0 t.labels.length p0, .slice A L cap] 30) = W := ⟨_, rfl⟩
 have hl1 : Left W p (left - 1) := by subst hW; exact ((⟨hc, hfr⟩ : Left w p left).set (left - 1)).keep ((Below.refl _ _).alloc (Nat.le_refl _) _)
 have hgW : w.grownBy W (some p) := by subst hW; exact (grown_set w p _).trans (World.grownBy_alloc _ _ _)
 have hTB : VBox W w.heap.size t (.slice A0 t.labels.length p0) (.slice A L cap) := by subst hW; exact ⟨by simp [go_sem], by simp [go_sem], by simp [go_sem], by simp [go_sem], by simp [go_sem], fun j => by simp [go_sem], by simp⟩
 try rw [hW]
 clear hW
 refine (shaped_any t _ W (by have := (HT.out.keep (D' := (· ≠ p)) (same_p hgW) (fun b h _ => h)).is; rw [HKS.out, HL.out] at this; exact this) HF.out).mono ?_
 rw [HKS.out, HL.out, hsh]
 rintro e w1 ⟨rfl, hb1⟩
 have hl2 := hl1.keep hb1
 have hg1 := hgW.trans (grown_below hb1 _)
 have hTB1 := hTB.keep hb1 hTB.lt
 obtain ⟨t0, t1, t2, t3, t4, t5, t6⟩ := id hTB1
 clear hl1 hgW hTB hb1
 have HBV := HB.out.keep (D' := (· ≠ p)) (same_p hg1) (fun b h _ => h)
 go_wp2_with fail
 go_loopw [63] (fun i wr => ∃ (k : Nat) (lk : Int), k ≤ L ∧ i = .int .i64 k ∧ 0 ≤ lk ∧ lk ≤ left - 1 ∧ Left wr p lk ∧ w.grownBy wr (some p) ∧ StrsD (· ≠ p) wr bv bound ∧ Hid (chkKids ks bound (left - 1) = chkKids (ks.drop k) bound lk)) (fun i _ => L - (intOf i).toNat)
 case atStart => exact ⟨0, left - 1, by omega, rfl, by omega, by omega, hl2, hg1, HBV, rfl⟩
 case round =>
  clear hl2 hg1 HBV hTB1 t0 t1 t2 t3 t4 t5 t6
  obtain ⟨k, lk, hk, rfl, hlk0, hlk1, hl2, hg1, HBV, hs⟩ := hrel
  by_cases hlt : k < L
  ·obtain ⟨c, hc'⟩ : ∃ x, ks[k]? = some x := ⟨_, List.getElem?_eq_getElem (by rw [HL.out]; exact hlt)⟩
   have HC' := Lib.hid hc'
   obtain ⟨-, -, b, off, A1, n1, p1, A2, n2, p2, rfl, hbp, c0, c1, c2, c3, c4, hl', hk'⟩ := kid_atD (HK.out.keep (D' := (· ≠ p)) (same_p hg1) (fun b h _ => h)) hc'
   have HL' := Lib.hid hl'; have HK' := Lib.hid hk'; clear hl' hk' hc'
   have hcp : parts c ≤ m := by have h1 := parts_at (mem_of_at HC'.out); have h2 := HP.out; omega
   have hcf : Fit c := HFK.out c (mem_of_at HC'.out)
   obtain ⟨wa, hwa⟩ : ∃ y, wr.alloc (.cells #[.int .i64 c.kind, .int .i64 c.sort, .string ⟨c.name.toArray⟩, .slice A1 n1 p1, .slice A2 n2 p2] 30) = y := ⟨_, rfl⟩
   have hba : Below wr.heap.size wr wa := by subst hwa; exact (Below.refl _ _).alloc (Nat.le_refl _) _
   have hla := hl2.keep hba
   have hga := hg1.trans (grown_below hba _)
   have hkb : VBox wa wr.heap.size c (.slice A1 n1 p1) (.slice A2 n2 p2) := by subst hwa; exact ⟨by simp [go_sem], by simp [go_sem], by simp [go_sem], by simp [go_sem], by simp [go_sem], fun j => by simp [go_sem], by simp⟩
   obtain ⟨k0, k1, k2, k3, k4, k5, k6⟩ := id hkb
   obtain ⟨R, hR⟩ : ∃ x, chk c bound lk = x := ⟨_, rfl⟩
   have HR := Lib.hid hR
   have hstep := hs.out
   rw [chkKids_drop HC'.out, hR] at hstep
   have hcall := ih c (.agg #[.int .i64 c.kind, .int .i64 c.sort, .string ⟨c.name.toArray⟩, .slice A1 n1 p1, .slice A2 n2 p2]) bv bound p lk wa hcp ((tyD_of HL'.out HK'.out).keep (Same.below hba) (fun b h _ => h)) hcf (HBV.keep (Same.below hba) (fun b h _ => h)) HBL.out hlk0 (by omega) hla.c hla.f
   unfold CheckSays at hcall
   rw [hR] at hcall
   have HCALL := Lib.hid hcall
   clear hR hcall
   by_cases he : R.1 = 0
   ·have hp2 : 0 ≤ R.2 ∧ R.2 ≤ lk := by
     have h1 := chk_parts c bound lk (by rw [HR.out]; exact he)
     rw [HR.out] at h1
     omega
    rw [if_neg (by simpa using he)] at hstep
    have HST := Lib.hid hstep
    have hE : (R.1 != 0) = false := by rw [bne_eq_false_iff_eq]; exact he
    clear hstep hs he
    go_wp2_with fail
    try rw [hwa]
    clear hwa
    refine HCALL.out.mono ?_
    rintro e w2 ⟨rfl, hg2, hc2, hf2⟩
    go_wp2_with fail
    go_roundw
    case rel => exact ⟨k + 1, R.2, by omega, by go_num, hp2.1, by omega, ⟨hc2, hf2⟩, hga.trans hg2, (HBV.keep (Same.below hba) (fun b h _ => h)).keep (same_p hg2) (fun b h _ => h), HST⟩
    case measure => simp [intOf]; omega
   ·rw [if_pos he] at hstep
    have HST := Lib.hid hstep
    have hE : (R.1 != 0) = true := by rw [bne_iff_ne]; exact he
    clear hstep hs he
    go_wp2_with fail
    try rw [hwa]
    clear hwa
    refine HCALL.out.mono ?_
    rintro e w2 ⟨rfl, hg2, hc2, hf2⟩
    go_wp2_with fail
    go_ret
    rw [HST.out]
    exact ⟨rfl, hga.trans hg2, hc2, hf2⟩
  ·have hend := hs.out
   rw [List.drop_of_length_le (by rw [HL.out]; omega)] at hend
   have HE := Lib.hid hend
   clear hend hs
   go_wp2_with fail
   go_ret
   rw [HE.out]
   exact ⟨rfl, hg1, hl2.c, hl2.f⟩
set_option maxRecDepth 100000
set_option maxHeartbeats 2000000 in
theorem check_z (m : Nat) (ih : ∀ (t : Ty) (v bv : Value) (bound : List Str) (p : Nat) (left : Int) (w : World), parts t ≤ m → TyD (· ≠ p) w v t → Fit t → StrsD (· ≠ p) w bv bound → (∀ s ∈ bound, s.length ≤ maxLen) → 0 ≤ left → (bound.length : Int) + left ≤ 60 → w.cell? ⟨p, 0, none⟩ = some (.int .i64 left) → w.frozen? ⟨p, 0, none⟩ = false → CheckSays t v bv bound p left w)
  (t : Ty) (v bv : Value) (bound : List Str) (p : Nat) (left : Int) (w : World) (hm : parts t ≤ m + 1) (hv : TyD (· ≠ p) w v t) (hf : Fit t) (hbv : StrsD (· ≠ p) w bv bound) (hbl : ∀ s ∈ bound, s.length ≤ maxLen) (hl0 : 0 ≤ left) (hl : (bound.length : Int) + left ≤ 60) (hc : w.cell? ⟨p, 0, none⟩ = some (.int .i64 left)) (hfr : w.frozen? ⟨p, 0, none⟩ = false)
  (hans : chk t bound left = (2, left - 1)) (hz : left = 0) :
  CheckSays t v bv bound p left w := by
 unfold CheckSays
 rw [hans]
 clear hans
 have HT := Lib.hid hv
 have HB := Lib.hid hbv
 obtain ⟨lv, kv, rfl, h1, h2⟩ := hv
 have HK := Lib.hid h2
 obtain ⟨A0, p0, rfl, -, -⟩ := h1
 obtain ⟨A, cap, rfl, -, -⟩ := h2
 have HF := Lib.hid hf
 have HBL := Lib.hid hbl
 have HC := Lib.hid hc
 have hp := cell_lt hc
 obtain ⟨ks, hks⟩ : ∃ x, t.kids = x := ⟨_, rfl⟩
 have HFK : Hid (∀ c ∈ ks, Fit c) := by have := HF.out.parts.2.2.2.2; rw [hks] at this; exact this
 have HP : Hid (1 + partss ks ≤ m + 1) := by cases t; subst hks; exact hm
 have hkl : ks.length ≤ maxLen := by rw [← hks]; exact hf.parts.2.2.2.1
 unfold maxLen at hkl
 have HKS := Lib.hid hks
 rw [hks] at HK ⊢
 obtain ⟨L, hL⟩ : ∃ x, ks.length = x := ⟨_, rfl⟩
 have HL := Lib.hid hL
 rw [hL] at HK hkl ⊢
 clear hks hL
 subst hz
 go_enter Tryz.func83, Tryz.ntmps83
 go_wp2_with fail
 go_ret
 have hgW : w.grownBy ((w.setCell ⟨p, 0, none⟩ (.int .i64 (-1))).alloc (.cells #[.int .i64 t.kind, .int .i64 t.sort, .string ⟨t.name.toArray⟩, .slice A0 t.labels.length p0, .slice A L cap] 30)) (some p) := (grown_set w p _).trans (World.grownBy_alloc _ _ _)
 have hl1 := ((⟨hc, hfr⟩ : Left w p 0).set (-1)).keep ((Below.refl _ _).alloc (Nat.le_refl _) (.cells #[.int .i64 t.kind, .int .i64 t.sort, .string ⟨t.name.toArray⟩, .slice A0 t.labels.length p0, .slice A L cap] 30))
 exact ⟨rfl, hgW, hl1.c, hl1.f⟩

set_option maxHeartbeats 2000000 in
theorem check_s (m : Nat) (ih : ∀ (t : Ty) (v bv : Value) (bound : List Str) (p : Nat) (left : Int) (w : World), parts t ≤ m → TyD (· ≠ p) w v t → Fit t → StrsD (· ≠ p) w bv bound → (∀ s ∈ bound, s.length ≤ maxLen) → 0 ≤ left → (bound.length : Int) + left ≤ 60 → w.cell? ⟨p, 0, none⟩ = some (.int .i64 left) → w.frozen? ⟨p, 0, none⟩ = false → CheckSays t v bv bound p left w)
  (t : Ty) (v bv : Value) (bound : List Str) (p : Nat) (left : Int) (w : World) (hm : parts t ≤ m + 1) (hv : TyD (· ≠ p) w v t) (hf : Fit t) (hbv : StrsD (· ≠ p) w bv bound) (hbl : ∀ s ∈ bound, s.length ≤ maxLen) (hl0 : 0 ≤ left) (hl : (bound.length : Int) + left ≤ 60) (hc : w.cell? ⟨p, 0, none⟩ = some (.int .i64 left)) (hfr : w.frozen? ⟨p, 0, none⟩ = false)
  (hans : chk t bound left = (1, left - 1)) (hpos : 1 ≤ left) (hsh : shapeOk t.kind t.sort t.name t.labels t.kids.length = false) :
  CheckSays t v bv bound p left w := by
 unfold CheckSays
 rw [hans]
 clear hans
 have HT := Lib.hid hv
 have HB := Lib.hid hbv
 obtain ⟨lv, kv, rfl, h1, h2⟩ := hv
 have HK := Lib.hid h2
 obtain ⟨A0, p0, rfl, -, -⟩ := h1
 obtain ⟨A, cap, rfl, -, -⟩ := h2
 have HF := Lib.hid hf
 have HBL := Lib.hid hbl
 have HC := Lib.hid hc
 have hp := cell_lt hc
 obtain ⟨ks, hks⟩ : ∃ x, t.kids = x := ⟨_, rfl⟩
 have HFK : Hid (∀ c ∈ ks, Fit c) := by have := HF.out.parts.2.2.2.2; rw [hks] at this; exact this
 have HP : Hid (1 + partss ks ≤ m + 1) := by cases t; subst hks; exact hm
 have hkl : ks.length ≤ maxLen := by rw [← hks]; exact hf.parts.2.2.2.1
 unfold maxLen at hkl
 have HKS := Lib.hid hks
 rw [hks] at HK hsh ⊢
 obtain ⟨L, hL⟩ : ∃ x, ks.length = x := ⟨_, rfl⟩
 have HL := Lib.hid hL
 rw [hL] at HK hkl hsh ⊢
 clear hks hL
 go_enter Tryz.func83, Tryz.ntmps83
 go_wp2_with fail
 obtain ⟨W, hW⟩ : ∃ W, (w.setCell ⟨p, 0, none⟩ (.int .i64 (left - 1))).alloc (.cells #[.int .i64 t.kind, .int .i64 t.sort, .string ⟨t.name.toArray⟩, .slice A0 t.labels.length p0, .slice A L cap] 30) = W := ⟨_, rfl⟩
 have hl1 : Left W p (left - 1) := by subst hW; exact ((⟨hc, hfr⟩ : Left w p left).set (left - 1)).keep ((Below.refl _ _).alloc (Nat.le_refl _) _)
 have hgW : w.grownBy W (some p) := by subst hW; exact (grown_set w p _).trans (World.grownBy_alloc _ _ _)
 have hTB : VBox W w.heap.size t (.slice A0 t.labels.length p0) (.slice A L cap) := by subst hW; exact ⟨by simp [go_sem], by simp [go_sem], by simp [go_sem], by simp [go_sem], by simp [go_sem], fun j => by simp [go_sem], by simp⟩
 try rw [hW]
 clear hW
 refine (shaped_any t _ W (by have := (HT.out.keep (D' := (· ≠ p)) (same_p hgW) (fun b h _ => h)).is; rw [HKS.out, HL.out] at this; exact this) HF.out).mono ?_
 rw [HKS.out, HL.out, hsh]
 rintro e w1 ⟨rfl, hb1⟩
 have hl2 := hl1.keep hb1
 have hg1 := hgW.trans (grown_below hb1 _)
 have hTB1 := hTB.keep hb1 hTB.lt
 go_wp2_with fail
 go_ret
 exact ⟨rfl, hg1, hl2.c, hl2.f⟩

set_option maxHeartbeats 2000000 in
theorem check_v4 (m : Nat) (ih : ∀ (t : Ty) (v bv : Value) (bound : List Str) (p : Nat) (left : Int) (w : World), parts t ≤ m → TyD (· ≠ p) w v t → Fit t → StrsD (· ≠ p) w bv bound → (∀ s ∈ bound, s.length ≤ maxLen) → 0 ≤ left → (bound.length : Int) + left ≤ 60 → w.cell? ⟨p, 0, none⟩ = some (.int .i64 left) → w.frozen? ⟨p, 0, none⟩ = false → CheckSays t v bv bound p left w)
  (t : Ty) (v bv : Value) (bound : List Str) (p : Nat) (left : Int) (w : World) (hm : parts t ≤ m + 1) (hv : TyD (· ≠ p) w v t) (hf : Fit t) (hbv : StrsD (· ≠ p) w bv bound) (hbl : ∀ s ∈ bound, s.length ≤ maxLen) (hl0 : 0 ≤ left) (hl : (bound.length : Int) + left ≤ 60) (hc : w.cell? ⟨p, 0, none⟩ = some (.int .i64 left)) (hfr : w.frozen? ⟨p, 0, none⟩ = false)
  (hans : chk t bound left = (4, left - 1)) (hpos : 1 ≤ left) (hsh : shapeOk t.kind t.sort t.name t.labels t.kids.length = true) (h9 : (t.kind == 9) = true) (hin : decide (t.name ∈ bound) = false) :
  CheckSays t v bv bound p left w := by
 unfold CheckSays
 rw [hans]
 clear hans
 have HT := Lib.hid hv
 have HB := Lib.hid hbv
 obtain ⟨lv, kv, rfl, h1, h2⟩ := hv
 have HK := Lib.hid h2
 obtain ⟨A0, p0, rfl, -, -⟩ := h1
 obtain ⟨A, cap, rfl, -, -⟩ := h2
 have HF := Lib.hid hf
 have HBL := Lib.hid hbl
 have HC := Lib.hid hc
 have hp := cell_lt hc
 obtain ⟨ks, hks⟩ : ∃ x, t.kids = x := ⟨_, rfl⟩
 have HFK : Hid (∀ c ∈ ks, Fit c) := by have := HF.out.parts.2.2.2.2; rw [hks] at this; exact this
 have HP : Hid (1 + partss ks ≤ m + 1) := by cases t; subst hks; exact hm
 have hkl : ks.length ≤ maxLen := by rw [← hks]; exact hf.parts.2.2.2.1
 unfold maxLen at hkl
 have HKS := Lib.hid hks
 rw [hks] at HK hsh ⊢
 obtain ⟨L, hL⟩ : ∃ x, ks.length = x := ⟨_, rfl⟩
 have HL := Lib.hid hL
 rw [hL] at HK hkl hsh ⊢
 clear hks hL
 go_enter Tryz.func83, Tryz.ntmps83
 go_wp2_with fail
 obtain ⟨W, hW⟩ : ∃ W, (w.setCell ⟨p, 0, none⟩ (.int .i64 (left - 1))).alloc (.cells #[.int .i64 t.kind, .int .i64 t.sort, .string ⟨t.name.toArray⟩, .slice A0 t.labels.length p0, .slice A L cap] 30) = W := ⟨_, rfl⟩
 have hl1 : Left W p (left - 1) := by subst hW; exact ((⟨hc, hfr⟩ : Left w p left).set (left - 1)).keep ((Below.refl _ _).alloc (Nat.le_refl _) _)
 have hgW : w.grownBy W (some p) := by subst hW; exact (grown_set w p _).trans (World.grownBy_alloc _ _ _)
 have hTB : VBox W w.heap.size t (.slice A0 t.labels.length p0) (.slice A L cap) := by subst hW; exact ⟨by simp [go_sem], by simp [go_sem], by simp [go_sem], by simp [go_sem], by simp [go_sem], fun j => by simp [go_sem], by simp⟩
 try rw [hW]
 clear hW
 refine (shaped_any t _ W (by have := (HT.out.keep (D' := (· ≠ p)) (same_p hgW) (fun b h _ => h)).is; rw [HKS.out, HL.out] at this; exact this) HF.out).mono ?_
 rw [HKS.out, HL.out, hsh]
 rintro e w1 ⟨rfl, hb1⟩
 have hl2 := hl1.keep hb1
 have hg1 := hgW.trans (grown_below hb1 _)
 have hTB1 := hTB.keep hb1 hTB.lt
 obtain ⟨t0, t1, t2, t3, t4, t5, t6⟩ := id hTB1
 clear hl1 hgW hTB hb1
 have HBV := HB.out.keep (D' := (· ≠ p)) (same_p hg1) (fun b h _ => h)
 go_wp2_with fail
 refine (contains_any HBV.is (by omega) t.name).mono ?_
 rw [hin]
 rintro e w1 ⟨rfl, rfl⟩
 go_wp2_with fail
 go_ret
 exact ⟨rfl, hg1, hl2.c, hl2.f⟩

set_option maxHeartbeats 2000000 in
theorem check_v0 (m : Nat) (ih : ∀ (t : Ty) (v bv : Value) (bound : List Str) (p : Nat) (left : Int) (w : World), parts t ≤ m → TyD (· ≠ p) w v t → Fit t → StrsD (· ≠ p) w bv bound → (∀ s ∈ bound, s.length ≤ maxLen) → 0 ≤ left → (bound.length : Int) + left ≤ 60 → w.cell? ⟨p, 0, none⟩ = some (.int .i64 left) → w.frozen? ⟨p, 0, none⟩ = false → CheckSays t v bv bound p left w)
  (t : Ty) (v bv : Value) (bound : List Str) (p : Nat) (left : Int) (w : World) (hm : parts t ≤ m + 1) (hv : TyD (· ≠ p) w v t) (hf : Fit t) (hbv : StrsD (· ≠ p) w bv bound) (hbl : ∀ s ∈ bound, s.length ≤ maxLen) (hl0 : 0 ≤ left) (hl : (bound.length : Int) + left ≤ 60) (hc : w.cell? ⟨p, 0, none⟩ = some (.int .i64 left)) (hfr : w.frozen? ⟨p, 0, none⟩ = false)
  (hans : chk t bound left = chkKids t.kids bound (left - 1)) (hpos : 1 ≤ left) (hsh : shapeOk t.kind t.sort t.name t.labels t.kids.length = true) (h9 : (t.kind == 9) = true) (h8 : (t.kind == 8) = false) (hin : decide (t.name ∈ bound) = true) :
  CheckSays t v bv bound p left w := by
 unfold CheckSays
 rw [hans]
 clear hans
 have HT := Lib.hid hv
 have HB := Lib.hid hbv
 obtain ⟨lv, kv, rfl, h1, h2⟩ := hv
 have HK := Lib.hid h2
 obtain ⟨A0, p0, rfl, -, -⟩ := h1
 obtain ⟨A, cap, rfl, -, -⟩ := h2
 have HF := Lib.hid hf
 have HBL := Lib.hid hbl
 have HC := Lib.hid hc
 have hp := cell_lt hc
 obtain ⟨ks, hks⟩ : ∃ x, t.kids = x := ⟨_, rfl⟩
 have HFK : Hid (∀ c ∈ ks, Fit c) := by have := HF.out.parts.2.2.2.2; rw [hks] at this; exact this
 have HP : Hid (1 + partss ks ≤ m + 1) := by cases t; subst hks; exact hm
 have hkl : ks.length ≤ maxLen := by rw [← hks]; exact hf.parts.2.2.2.1
 unfold maxLen at hkl
 have HKS := Lib.hid hks
 rw [hks] at HK hsh ⊢
 obtain ⟨L, hL⟩ : ∃ x, ks.length = x := ⟨_, rfl⟩
 have HL := Lib.hid hL
 rw [hL] at HK hkl hsh ⊢
 clear hks hL
 go_enter Tryz.func83, Tryz.ntmps83
 go_wp2_with fail
 obtain ⟨W, hW⟩ : ∃ W, (w.setCell ⟨p, 0, none⟩ (.int .i64 (left - 1))).alloc (.cells #[.int .i64 t.kind, .int .i64 t.sort, .string ⟨t.name.toArray⟩, .slice A0 t.labels.length p0, .slice A L cap] 30) = W := ⟨_, rfl⟩
 have hl1 : Left W p (left - 1) := by subst hW; exact ((⟨hc, hfr⟩ : Left w p left).set (left - 1)).keep ((Below.refl _ _).alloc (Nat.le_refl _) _)
 have hgW : w.grownBy W (some p) := by subst hW; exact (grown_set w p _).trans (World.grownBy_alloc _ _ _)
 have hTB : VBox W w.heap.size t (.slice A0 t.labels.length p0) (.slice A L cap) := by subst hW; exact ⟨by simp [go_sem], by simp [go_sem], by simp [go_sem], by simp [go_sem], by simp [go_sem], fun j => by simp [go_sem], by simp⟩
 try rw [hW]
 clear hW
 refine (shaped_any t _ W (by have := (HT.out.keep (D' := (· ≠ p)) (same_p hgW) (fun b h _ => h)).is; rw [HKS.out, HL.out] at this; exact this) HF.out).mono ?_
 rw [HKS.out, HL.out, hsh]
 rintro e w1 ⟨rfl, hb1⟩
 have hl2 := hl1.keep hb1
 have hg1 := hgW.trans (grown_below hb1 _)
 have hTB1 := hTB.keep hb1 hTB.lt
 obtain ⟨t0, t1, t2, t3, t4, t5, t6⟩ := id hTB1
 clear hl1 hgW hTB hb1
 have HBV := HB.out.keep (D' := (· ≠ p)) (same_p hg1) (fun b h _ => h)
 go_wp2_with fail
 refine (contains_any HBV.is (by omega) t.name).mono ?_
 rw [hin]
 rintro e w1 ⟨rfl, rfl⟩
 go_wp2_with fail
 go_loopw [63] (fun i wr => ∃ (k : Nat) (lk : Int), k ≤ L ∧ i = .int .i64 k ∧ 0 ≤ lk ∧ lk ≤ left - 1 ∧ Left wr p lk ∧ w.grownBy wr (some p) ∧ StrsD (· ≠ p) wr bv bound ∧ Hid (chkKids ks bound (left - 1) = chkKids (ks.drop k) bound lk)) (fun i _ => L - (intOf i).toNat)
 case atStart => exact ⟨0, left - 1, by omega, rfl, by omega, by omega, hl2, hg1, HBV, rfl⟩
 case round =>
  clear hl2 hg1 HBV hTB1 t0 t1 t2 t3 t4 t5 t6
  obtain ⟨k, lk, hk, rfl, hlk0, hlk1, hl2, hg1, HBV, hs⟩ := hrel
  by_cases hlt : k < L
  ·obtain ⟨c, hc'⟩ : ∃ x, ks[k]? = some x := ⟨_, List.getElem?_eq_getElem (by rw [HL.out]; exact hlt)⟩
   have HC' := Lib.hid hc'
   obtain ⟨-, -, b, off, A1, n1, p1, A2, n2, p2, rfl, hbp, c0, c1, c2, c3, c4, hl', hk'⟩ := kid_atD (HK.out.keep (D' := (· ≠ p)) (same_p hg1) (fun b h _ => h)) hc'
   have HL' := Lib.hid hl'; have HK' := Lib.hid hk'; clear hl' hk' hc'
   have hcp : parts c ≤ m := by have h1 := parts_at (mem_of_at HC'.out); have h2 := HP.out; omega
   have hcf : Fit c := HFK.out c (mem_of_at HC'.out)
   obtain ⟨wa, hwa⟩ : ∃ y, wr.alloc (.cells #[.int .i64 c.kind, .int .i64 c.sort, .string ⟨c.name.toArray⟩, .slice A1 n1 p1, .slice A2 n2 p2] 30) = y := ⟨_, rfl⟩
   have hba : Below wr.heap.size wr wa := by subst hwa; exact (Below.refl _ _).alloc (Nat.le_refl _) _
   have hla := hl2.keep hba
   have hga := hg1.trans (grown_below hba _)
   have hkb : VBox wa wr.heap.size c (.slice A1 n1 p1) (.slice A2 n2 p2) := by subst hwa; exact ⟨by simp [go_sem], by simp [go_sem], by simp [go_sem], by simp [go_sem], by simp [go_sem], fun j => by simp [go_sem], by simp⟩
   obtain ⟨k0, k1, k2, k3, k4, k5, k6⟩ := id hkb
   obtain ⟨R, hR⟩ : ∃ x, chk c bound lk = x := ⟨_, rfl⟩
   have HR := Lib.hid hR
   have hstep := hs.out
   rw [chkKids_drop HC'.out, hR] at hstep
   have hcall := ih c (.agg #[.int .i64 c.kind, .int .i64 c.sort, .string ⟨c.name.toArray⟩, .slice A1 n1 p1, .slice A2 n2 p2]) bv bound p lk wa hcp ((tyD_of HL'.out HK'.out).keep (Same.below hba) (fun b h _ => h)) hcf (HBV.keep (Same.below hba) (fun b h _ => h)) HBL.out hlk0 (by omega) hla.c hla.f
   unfold CheckSays at hcall
   rw [hR] at hcall
   have HCALL := Lib.hid hcall
   clear hR hcall
   by_cases he : R.1 = 0
   ·have hp2 : 0 ≤ R.2 ∧ R.2 ≤ lk := by
     have h1 := chk_parts c bound lk (by rw [HR.out]; exact he)
     rw [HR.out] at h1
     omega
    rw [if_neg (by simpa using he)] at hstep
    have HST := Lib.hid hstep
    have hE : (R.1 != 0) = false := by rw [bne_eq_false_iff_eq]; exact he
    clear hstep hs he
    go_wp2_with fail
    try rw [hwa]
    clear hwa
    refine HCALL.out.mono ?_
    rintro e w2 ⟨rfl, hg2, hc2, hf2⟩
    go_wp2_with fail
    go_roundw
    case rel => exact ⟨k + 1, R.2, by omega, by go_num, hp2.1, by omega, ⟨hc2, hf2⟩, hga.trans hg2, (HBV.keep (Same.below hba) (fun b h _ => h)).keep (same_p hg2) (fun b h _ => h), HST⟩
    case measure => simp [intOf]; omega
   ·rw [if_pos he] at hstep
    have HST := Lib.hid hstep
    have hE : (R.1 != 0) = true := by rw [bne_iff_ne]; exact he
    clear hstep hs he
    go_wp2_with fail
    try rw [hwa]
    clear hwa
    refine HCALL.out.mono ?_
    rintro e w2 ⟨rfl, hg2, hc2, hf2⟩
    go_wp2_with fail
    go_ret
    rw [HST.out]
    exact ⟨rfl, hga.trans hg2, hc2, hf2⟩
  ·have hend := hs.out
   rw [List.drop_of_length_le (by rw [HL.out]; omega)] at hend
   have HE := Lib.hid hend
   clear hend hs
   go_wp2_with fail
   go_ret
   rw [HE.out]
   exact ⟨rfl, hg1, hl2.c, hl2.f⟩
end Go.Proofs.YtpidjanngbaiiaaGreatDoor
