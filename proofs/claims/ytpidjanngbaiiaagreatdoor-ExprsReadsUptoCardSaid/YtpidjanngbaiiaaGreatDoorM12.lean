/-
  exprs.check answers 'chkE'.
  Regions that draw their order, hold calls, and end in a store that waits for all the rest: what a load yields is told once; the condition S on the world is asked for no longer than till the tail begins.
-/
import Derived.Test.YtpidjanngbaiiaaGreatDoorM11
import Derived.Test.YtpidjanngbaiiaaGreatDoorM6
import Derived.Laws.StructEq
import Derived.Test.YtpidjanngbaiiaaGreatDoorM2
import Derived.Deep.RegionHeld3
import Derived.Deep.DrawnRows
import Derived.Laws.AppendOwnNone
namespace Go.Proofs.YtpidjanngbaiiaaGreatDoor
open Go.RowKit Go.Proofs

set_option maxRecDepth 100000
mutual
def eparts : Ex → Nat
 | .mk _ _ _ _ _ ks => 1 + epartss ks
def epartss : List Ex → Nat
 | [] => 0
 | k :: r => eparts k + epartss r
end
theorem eparts_at {ks : List Ex} {c : Ex} (h : c ∈ ks) : eparts c ≤ epartss ks := by
 induction ks with
 | nil => simp at h
 | cons k r ih =>
  simp only [epartss]
  rcases List.mem_cons.1 h with rfl | h
  ·omega
  ·have := ih h; omega
theorem chkEs_drop {ks : List Ex} {l : Int} {k : Nat} {c : Ex} (h : ks[k]? = some c) : chkEs (ks.drop k) l = if (chkE c l).1 = 0 then chkEs (ks.drop (k + 1)) (chkE c l).2 else chkE c l := by
 obtain ⟨h1, h2⟩ := List.getElem?_eq_some_iff.1 h
 rw [List.drop_eq_getElem_cons h1, h2]
 rfl
mutual
theorem chkE_le : ∀ (t : Ex) (l : Int), (chkE t l).2 ≤ l ∧ ((chkE t l).1 = 0 → 0 ≤ l → 0 ≤ (chkE t l).2)
 | .mk k n s v x ks, l => by
  unfold chkE
  split
  ·exact ⟨by simp only; omega, fun h => by simp at h⟩
  ·split
   ·have := chkEs_le ks (l - 1)
    exact ⟨by omega, fun h h' => this.2 h (by omega)⟩
   ·exact ⟨by simp only; omega, fun _ h => by simp only; omega⟩
theorem chkEs_le : ∀ (ks : List Ex) (l : Int), (chkEs ks l).2 ≤ l ∧ ((chkEs ks l).1 = 0 → 0 ≤ l → 0 ≤ (chkEs ks l).2)
 | [], l => ⟨Int.le_refl _, fun _ h => h⟩
 | k :: r, l => by
  unfold chkEs
  have h1 := chkE_le k l
  split
  ·rename_i h0
   have h2 := chkEs_le r (chkE k l).2
   exact ⟨by omega, fun h h' => h2.2 h (h1.2 h0 h')⟩
  ·exact h1
end
theorem run_bare (w : World) (s n : Int) (t : Str) :
  (binOp .eql 26 (.agg #[.int .i64 s, .int .i64 n, .string ⟨t.toArray⟩]) (.agg #[.int .i64 0, .int .i64 0, .string ⟨#[]⟩])).run Tryz.prog w = .ok (.bool (decide (s = 0) && (decide (n = 0) && decide (t = [])))) w := by
 go_simp
 by_cases h1 : s = 0 <;> by_cases h2 : n = 0 <;> by_cases h3 : t = [] <;> simp [h1, h2, h3]
def ECheckSays (t : Ex) (v : Value) (p : Nat) (left : Int) (w : World) : Prop :=
 Calls Tryz.prog 88 #[v, .pointer (some ⟨p, 0, none⟩)] w fun e w' => e = .returned (.int .i64 (chkE t left).1) ∧ w.grownBy w' (some p) ∧ Left w' p (chkE t left).2
abbrev EIH (m : Nat) : Prop := ∀ (t : Ex) (v : Value) (p : Nat) (left : Int) (w : World), eparts t ≤ m → ExV (· ≠ p) w v t → ExFit 1048576 t → 0 ≤ left → left ≤ 60 → Left w p left → TabsP p w → ECheckSays t v p left w

set_option maxHeartbeats 2000000 in
theorem echeck_z (k : Int) (n : Str) (s vn : Int) (x : Str) (ks : List Ex) (v : Value) (p : Nat) (left : Int) (w : World) (hv : ExV (· ≠ p) w v (.mk k n s vn x ks)) (hf : ExFit 1048576 (.mk k n s vn x ks)) (hleft : 0 ≤ left) (hle : left ≤ 60) (hl : Left w p left) (hT : TabsP p w) (h0 : left = 0) :
  ECheckSays (.mk k n s vn x ks) v p left w := by
 unfold ECheckSays
 subst h0
 have e : chkE (.mk k n s vn x ks) 0 = (2, -1) := by simp [chkE]
 rw [e]
 clear e
 have HV := Lib.hid hv
 obtain ⟨A, L, cap, rfl, hk⟩ := hv.one'
 simp only [Ex.kind, Ex.name, Ex.vs, Ex.vn, Ex.vt, Ex.kids] at hk ⊢
 have hLL : L = ks.length := by obtain ⟨A', c', e, -, -⟩ := hk; injection e
 have hfp := hf.parts
 simp only [Ex.kind, Ex.name, Ex.vs, Ex.vn, Ex.vt, Ex.kids] at hfp
 obtain ⟨-, hn, -, -, hx, hkl, -⟩ := hfp
 have HK := Lib.hid hk
 have HF := Lib.hid hf
 have hp := hl.lt
 have HLT := Lib.hid hl
 obtain ⟨c0, cf⟩ := hl
 clear hk hf hv
 go_enter Tryz.func88, Tryz.ntmps88
 go_wp2_with fail
 all_goals
  go_ret
  exact ⟨rfl, (grown_set w p _).trans (World.grownBy_alloc _ _ _), (HLT.out.set _).keep ((Below.refl _ _).alloc (Nat.le_refl _) _)⟩
set_option maxHeartbeats 2000000 in
theorem echeck_a1 (k : Int) (n : Str) (s vn : Int) (x : Str) (ks : List Ex) (v : Value) (p : Nat) (left : Int) (w : World) (hv : ExV (· ≠ p) w v (.mk k n s vn x ks)) (hf : ExFit 1048576 (.mk k n s vn x ks)) (hleft : 0 ≤ left) (hle : left ≤ 60) (hl : Left w p left) (hT : TabsP p w) (h1 : 1 ≤ left) (hone : exOne (.mk k n s vn x ks) = 1) (hk : k = 1) (hn0 : n ≠ []) :
  ECheckSays (.mk k n s vn x ks) v p left w := by
 unfold ECheckSays
 have e : chkE (.mk k n s vn x ks) left = (1, left - 1) := by
  unfold chkE
  rw [if_neg (by omega), if_neg (by rw [hone]; decide), hone]
 rw [e]
 clear e hone
 have HV := Lib.hid hv
 obtain ⟨A, L, cap, rfl, hk⟩ := hv.one'
 simp only [Ex.kind, Ex.name, Ex.vs, Ex.vn, Ex.vt, Ex.kids] at hk ⊢
 have hLL : L = ks.length := by obtain ⟨A', c', e, -, -⟩ := hk; injection e
 have hfp := hf.parts
 simp only [Ex.kind, Ex.name, Ex.vs, Ex.vn, Ex.vt, Ex.kids] at hfp
 obtain ⟨-, hn, -, -, hx, hkl, -⟩ := hfp
 have HK := Lib.hid hk
 have HF := Lib.hid hf
 have hp := hl.lt
 have HLT := Lib.hid hl
 obtain ⟨c0, cf⟩ := hl
 clear hk hf hv
 obtain ⟨BR, hb⟩ : ∃ y, bare (.mk k n s vn x ks) = y := ⟨_, rfl⟩
 have hbr : ∀ w : World, (binOp .eql 26 (.agg #[.int .i64 s, .int .i64 vn, .string ⟨x.toArray⟩]) (.agg #[.int .i64 0, .int .i64 0, .string ⟨#[]⟩])).run Tryz.prog w = .ok (.bool BR) w := fun w => (run_bare w s vn x).trans (congrArg (fun y => Result.ok (Value.bool y) w) hb)
 clear hb
 subst hk
 have hE : n.isEmpty = false := by simpa using hn0
 clear hLL
 go_enter Tryz.func88, Tryz.ntmps88
 go_wp2_with fail
 all_goals
  go_ret
  exact ⟨rfl, (grown_set w p _).trans (World.grownBy_alloc _ _ _), (HLT.out.set _).keep ((Below.refl _ _).alloc (Nat.le_refl _) _)⟩
set_option maxHeartbeats 2000000 in
theorem echeck_a2 (k : Int) (n : Str) (s vn : Int) (x : Str) (ks : List Ex) (v : Value) (p : Nat) (left : Int) (w : World) (hv : ExV (· ≠ p) w v (.mk k n s vn x ks)) (hf : ExFit 1048576 (.mk k n s vn x ks)) (hleft : 0 ≤ left) (hle : left ≤ 60) (hl : Left w p left) (hT : TabsP p w) (h1 : 1 ≤ left) (hone : exOne (.mk k n s vn x ks) = 1) (hk : k = 1) (hn0 : n = []) (hlen : ks.length ≠ 0) :
  ECheckSays (.mk k n s vn x ks) v p left w := by
 unfold ECheckSays
 have e : chkE (.mk k n s vn x ks) left = (1, left - 1) := by
  unfold chkE
  rw [if_neg (by omega), if_neg (by rw [hone]; decide), hone]
 rw [e]
 clear e hone
 have HV := Lib.hid hv
 obtain ⟨A, L, cap, rfl, hk⟩ := hv.one'
 simp only [Ex.kind, Ex.name, Ex.vs, Ex.vn, Ex.vt, Ex.kids] at hk ⊢
 have hLL : L = ks.length := by obtain ⟨A', c', e, -, -⟩ := hk; injection e
 have hfp := hf.parts
 simp only [Ex.kind, Ex.name, Ex.vs, Ex.vn, Ex.vt, Ex.kids] at hfp
 obtain ⟨-, hn, -, -, hx, hkl, -⟩ := hfp
 have HK := Lib.hid hk
 have HF := Lib.hid hf
 have hp := hl.lt
 have HLT := Lib.hid hl
 obtain ⟨c0, cf⟩ := hl
 clear hk hf hv
 obtain ⟨BR, hb⟩ : ∃ y, bare (.mk k n s vn x ks) = y := ⟨_, rfl⟩
 have hbr : ∀ w : World, (binOp .eql 26 (.agg #[.int .i64 s, .int .i64 vn, .string ⟨x.toArray⟩]) (.agg #[.int .i64 0, .int .i64 0, .string ⟨#[]⟩])).run Tryz.prog w = .ok (.bool BR) w := fun w => (run_bare w s vn x).trans (congrArg (fun y => Result.ok (Value.bool y) w) hb)
 clear hb
 subst hk hn0
 have hL0 : ((L : Int) == 0) = false := by rw [beq_eq_false_iff_ne]; omega
 clear hLL
 go_enter Tryz.func88, Tryz.ntmps88
 go_wp2_with fail
 all_goals
  go_ret
  exact ⟨rfl, (grown_set w p _).trans (World.grownBy_alloc _ _ _), (HLT.out.set _).keep ((Below.refl _ _).alloc (Nat.le_refl _) _)⟩
set_option maxHeartbeats 2000000 in
theorem echeck_a (k : Int) (n : Str) (s vn : Int) (x : Str) (ks : List Ex) (v : Value) (p : Nat) (left : Int) (w : World) (hv : ExV (· ≠ p) w v (.mk k n s vn x ks)) (hf : ExFit 1048576 (.mk k n s vn x ks)) (hleft : 0 ≤ left) (hle : left ≤ 60) (hl : Left w p left) (hT : TabsP p w) (h1 : 1 ≤ left) (hone : exOne (.mk k n s vn x ks) = (vchk s vn x)) (hk : k = 1) (hn0 : n = []) (hlen : ks.length = 0) :
    ECheckSays (.mk k n s vn x ks) v p left w := by
  unfold ECheckSays
  have e : chkE (.mk k n s vn x ks) left = (vchk s vn x, left - 1) := by
    unfold chkE
    have : vchk s vn x ≠ 9 := by unfold vchk; repeat' split
                                 all_goals decide
    rw [if_neg (by omega), hone, if_neg this]
  rw [e]
  clear e hone
  obtain ⟨E, hE⟩ : ∃ y, vchk s vn x = y := ⟨_, rfl⟩
  have HE := Lib.hid hE
  rw [hE]
  clear hE
  have HV := Lib.hid hv
  obtain ⟨A, L, cap, rfl, hk⟩ := hv.one'
  simp only [Ex.kind, Ex.name, Ex.vs, Ex.vn, Ex.vt, Ex.kids] at hk ⊢
  have hLL : L = ks.length := by obtain ⟨A', c', e, -, -⟩ := hk; injection e
  have hfp := hf.parts
  simp only [Ex.kind, Ex.name, Ex.vs, Ex.vn, Ex.vt, Ex.kids] at hfp
  obtain ⟨-, hn, -, -, hx, hkl, -⟩ := hfp
  have HK := Lib.hid hk
  have HF := Lib.hid hf
  have hp := hl.lt
  have HLT := Lib.hid hl
  obtain ⟨c0, cf⟩ := hl
  clear hk hf hv
  obtain ⟨BR, hb⟩ : ∃ y, bare (.mk k n s vn x ks) = y := ⟨_, rfl⟩
  have hbr : ∀ w : World, (binOp .eql 26 (.agg #[.int .i64 s, .int .i64 vn, .string ⟨x.toArray⟩]) (.agg #[.int .i64 0, .int .i64 0, .string ⟨#[]⟩])).run Tryz.prog w = .ok (.bool BR) w := fun w => (run_bare w s vn x).trans (congrArg (fun y => Result.ok (Value.bool y) w) hb)
  clear hb
  subst hk hn0
  clear hn
  have hL0 : L = 0 := by rw [hLL]; exact hlen
  subst hL0
  clear hLL hlen
  go_enter Tryz.func88, Tryz.ntmps88
  go_wp2_with fail
  obtain ⟨W, hW⟩ : ∃ W, ((w.setCell ⟨p, 0, none⟩ (.int .i64 (left - 1))).alloc (.cells #[.int .i64 1, .string ⟨#[]⟩, .int .i64 s, .int .i64 vn, .string ⟨x.toArray⟩, .slice A 0 cap] 52)) = W := ⟨_, rfl⟩
  have hg : w.grownBy W (some p) := by subst hW; exact (grown_set w p _).trans (World.grownBy_alloc _ _ _)
  have hl1 : Left W p (left - 1) := by subst hW; exact (HLT.out.set _).keep ((Below.refl _ _).alloc (Nat.le_refl _) _)
  have hT1 := hT.grown hg
  try rw [hW]
  clear hW
  refine (vcheck_any s vn W x (by omega) hT1.t).mono ?_
  rw [HE.out]
  rintro e w1 ⟨rfl, hb1⟩
  go_wp2_with fail
  go_ret
  exact ⟨rfl, hg.trans (grown_below hb1 _), hl1.keep hb1⟩
set_option maxHeartbeats 2000000 in
theorem echeck_b3 (k : Int) (n : Str) (s vn : Int) (x : Str) (ks : List Ex) (v : Value) (p : Nat) (left : Int) (w : World) (hv : ExV (· ≠ p) w v (.mk k n s vn x ks)) (hf : ExFit 1048576 (.mk k n s vn x ks)) (hleft : 0 ≤ left) (hle : left ≤ 60) (hl : Left w p left) (hT : TabsP p w) (h1 : 1 ≤ left) (hone : exOne (.mk k n s vn x ks) = 1) (hk : k = 2) (hb : bare (.mk k n s vn x ks) = false)  :
  ECheckSays (.mk k n s vn x ks) v p left w := by
 unfold ECheckSays
 have e : chkE (.mk k n s vn x ks) left = (1, left - 1) := by
  unfold chkE
  rw [if_neg (by omega), if_neg (by rw [hone]; decide), hone]
 rw [e]
 clear e hone
 have HV := Lib.hid hv
 obtain ⟨A, L, cap, rfl, hk⟩ := hv.one'
 simp only [Ex.kind, Ex.name, Ex.vs, Ex.vn, Ex.vt, Ex.kids] at hk ⊢
 have hLL : L = ks.length := by obtain ⟨A', c', e, -, -⟩ := hk; injection e
 have hfp := hf.parts
 simp only [Ex.kind, Ex.name, Ex.vs, Ex.vn, Ex.vt, Ex.kids] at hfp
 obtain ⟨-, hn, -, -, hx, hkl, -⟩ := hfp
 have HK := Lib.hid hk
 have HF := Lib.hid hf
 have hp := hl.lt
 have HLT := Lib.hid hl
 obtain ⟨c0, cf⟩ := hl
 clear hk hf hv
 subst hk
 have hbr : ∀ w : World, (binOp .eql 26 (.agg #[.int .i64 s, .int .i64 vn, .string ⟨x.toArray⟩]) (.agg #[.int .i64 0, .int .i64 0, .string ⟨#[]⟩])).run Tryz.prog w = .ok (.bool false) w := fun w => (run_bare w s vn x).trans (congrArg (fun y => Result.ok (Value.bool y) w) hb)
 clear hb hLL
 go_enter Tryz.func88, Tryz.ntmps88
 go_wp2_with fail
 all_goals
  go_ret
  exact ⟨rfl, (grown_set w p _).trans (World.grownBy_alloc _ _ _), (HLT.out.set _).keep ((Below.refl _ _).alloc (Nat.le_refl _) _)⟩
set_option maxHeartbeats 2000000 in
theorem echeck_b2 (k : Int) (n : Str) (s vn : Int) (x : Str) (ks : List Ex) (v : Value) (p : Nat) (left : Int) (w : World) (hv : ExV (· ≠ p) w v (.mk k n s vn x ks)) (hf : ExFit 1048576 (.mk k n s vn x ks)) (hleft : 0 ≤ left) (hle : left ≤ 60) (hl : Left w p left) (hT : TabsP p w) (h1 : 1 ≤ left) (hone : exOne (.mk k n s vn x ks) = 1) (hk : k = 2) (hb : bare (.mk k n s vn x ks) = true) (hlen : ks.length ≠ 0) :
  ECheckSays (.mk k n s vn x ks) v p left w := by
 unfold ECheckSays
 have e : chkE (.mk k n s vn x ks) left = (1, left - 1) := by
  unfold chkE
  rw [if_neg (by omega), if_neg (by rw [hone]; decide), hone]
 rw [e]
 clear e hone
 have HV := Lib.hid hv
 obtain ⟨A, L, cap, rfl, hk⟩ := hv.one'
 simp only [Ex.kind, Ex.name, Ex.vs, Ex.vn, Ex.vt, Ex.kids] at hk ⊢
 have hLL : L = ks.length := by obtain ⟨A', c', e, -, -⟩ := hk; injection e
 have hfp := hf.parts
 simp only [Ex.kind, Ex.name, Ex.vs, Ex.vn, Ex.vt, Ex.kids] at hfp
 obtain ⟨-, hn, -, -, hx, hkl, -⟩ := hfp
 have HK := Lib.hid hk
 have HF := Lib.hid hf
 have hp := hl.lt
 have HLT := Lib.hid hl
 obtain ⟨c0, cf⟩ := hl
 clear hk hf hv
 subst hk
 have hbr : ∀ w : World, (binOp .eql 26 (.agg #[.int .i64 s, .int .i64 vn, .string ⟨x.toArray⟩]) (.agg #[.int .i64 0, .int .i64 0, .string ⟨#[]⟩])).run Tryz.prog w = .ok (.bool true) w := fun w => (run_bare w s vn x).trans (congrArg (fun y => Result.ok (Value.bool y) w) hb)
 clear hb
 have hL0 : ((L : Int) == 0) = false := by rw [beq_eq_false_iff_ne]; omega
 clear hLL
 go_enter Tryz.func88, Tryz.ntmps88
 go_wp2_with fail
 all_goals
  go_ret
  exact ⟨rfl, (grown_set w p _).trans (World.grownBy_alloc _ _ _), (HLT.out.set _).keep ((Below.refl _ _).alloc (Nat.le_refl _) _)⟩
set_option maxHeartbeats 2000000 in
theorem echeck_b1 (E : Int) (k : Int) (n : Str) (s vn : Int) (x : Str) (ks : List Ex) (v : Value) (p : Nat) (left : Int) (w : World) (hv : ExV (· ≠ p) w v (.mk k n s vn x ks)) (hf : ExFit 1048576 (.mk k n s vn x ks)) (hleft : 0 ≤ left) (hle : left ≤ 60) (hl : Left w p left) (hT : TabsP p w) (h1 : 1 ≤ left) (hone : exOne (.mk k n s vn x ks) = E) (hk : k = 2) (hb : bare (.mk k n s vn x ks) = true) (hlen : ks.length = 0) (hE : E = if isName n = true then 0 else 1) :
  ECheckSays (.mk k n s vn x ks) v p left w := by
 unfold ECheckSays
 have e : chkE (.mk k n s vn x ks) left = (E, left - 1) := by
  unfold chkE
  have : E ≠ 9 := by rw [hE]; split <;> decide
  rw [if_neg (by omega), hone, if_neg this]
 rw [e]
 clear e hone
 have HV := Lib.hid hv
 obtain ⟨A, L, cap, rfl, hk⟩ := hv.one'
 simp only [Ex.kind, Ex.name, Ex.vs, Ex.vn, Ex.vt, Ex.kids] at hk ⊢
 have hLL : L = ks.length := by obtain ⟨A', c', e, -, -⟩ := hk; injection e
 have hfp := hf.parts
 simp only [Ex.kind, Ex.name, Ex.vs, Ex.vn, Ex.vt, Ex.kids] at hfp
 obtain ⟨-, hn, -, -, hx, hkl, -⟩ := hfp
 have HK := Lib.hid hk
 have HF := Lib.hid hf
 have hp := hl.lt
 have HLT := Lib.hid hl
 obtain ⟨c0, cf⟩ := hl
 clear hk hf hv
 subst hk
 have hbr : ∀ w : World, (binOp .eql 26 (.agg #[.int .i64 s, .int .i64 vn, .string ⟨x.toArray⟩]) (.agg #[.int .i64 0, .int .i64 0, .string ⟨#[]⟩])).run Tryz.prog w = .ok (.bool true) w := fun w => (run_bare w s vn x).trans (congrArg (fun y => Result.ok (Value.bool y) w) hb)
 clear hb
 have hL0 : L = 0 := by rw [hLL]; exact hlen
 subst hL0
 clear hLL hlen
 obtain ⟨B, hB⟩ : ∃ y, isName n = y := ⟨_, rfl⟩
 have HB := Lib.hid hB
 rw [hB] at hE
 clear hB
 go_enter Tryz.func88, Tryz.ntmps88
 go_wp2_with fail
 obtain ⟨W, hW⟩ : ∃ W, ((w.setCell ⟨p, 0, none⟩ (.int .i64 (left - 1))).alloc (.cells #[.int .i64 2, .string ⟨n.toArray⟩, .int .i64 s, .int .i64 vn, .string ⟨x.toArray⟩, .slice A 0 cap] 52)) = W := ⟨_, rfl⟩
 have hg : w.grownBy W (some p) := by subst hW; exact (grown_set w p _).trans (World.grownBy_alloc _ _ _)
 have hl1 : Left W p (left - 1) := by subst hW; exact (HLT.out.set _).keep ((Below.refl _ _).alloc (Nat.le_refl _) _)
 have XB : ExBox W w.heap.size (.mk 2 n s vn x ks) (.slice A 0 cap) := by subst hW; exact ⟨by simp [go_sem, Ex.kind], by simp [go_sem, Ex.name], by simp [go_sem, Ex.vs], by simp [go_sem, Ex.vn], by simp [go_sem, Ex.vt], by simp [go_sem], fun j => by simp [go_sem], by simp⟩
 try rw [hW]
 clear hW
 refine (isName_any n W (by omega)).mono ?_
 rw [HB.out]
 rintro e w1 ⟨rfl, hb1⟩
 obtain ⟨x0, x1, x2, x3, x4, x5, x6, x7⟩ := XB.keep hb1 XB.lt
 simp only [Ex.kind, Ex.name, Ex.vs, Ex.vn, Ex.vt] at x0 x1 x2 x3 x4
 clear HB
 cases B
 all_goals
  simp only [if_true, Bool.false_eq_true, if_false] at hE
  subst hE
  go_wp2_with fail
  go_ret
  exact ⟨rfl, hg.trans (grown_below hb1 _), hl1.keep hb1⟩
set_option maxHeartbeats 2000000 in
theorem echeck_o (k : Int) (n : Str) (s vn : Int) (x : Str) (ks : List Ex) (v : Value) (p : Nat) (left : Int) (w : World) (hv : ExV (· ≠ p) w v (.mk k n s vn x ks)) (hf : ExFit 1048576 (.mk k n s vn x ks)) (hleft : 0 ≤ left) (hle : left ≤ 60) (hl : Left w p left) (hT : TabsP p w) (h1 : 1 ≤ left) (hone : exOne (.mk k n s vn x ks) = 1) (k1 : k ≠ 1) (k2 : k ≠ 2) (k3 : k ≠ 3) :
  ECheckSays (.mk k n s vn x ks) v p left w := by
 unfold ECheckSays
 have e : chkE (.mk k n s vn x ks) left = (1, left - 1) := by
  unfold chkE
  rw [if_neg (by omega), if_neg (by rw [hone]; decide), hone]
 rw [e]
 clear e hone
 have HV := Lib.hid hv
 obtain ⟨A, L, cap, rfl, hk⟩ := hv.one'
 simp only [Ex.kind, Ex.name, Ex.vs, Ex.vn, Ex.vt, Ex.kids] at hk ⊢
 have hLL : L = ks.length := by obtain ⟨A', c', e, -, -⟩ := hk; injection e
 have hfp := hf.parts
 simp only [Ex.kind, Ex.name, Ex.vs, Ex.vn, Ex.vt, Ex.kids] at hfp
 obtain ⟨-, hn, -, -, hx, hkl, -⟩ := hfp
 have HK := Lib.hid hk
 have HF := Lib.hid hf
 have hp := hl.lt
 have HLT := Lib.hid hl
 obtain ⟨c0, cf⟩ := hl
 clear hk hf hv
 obtain ⟨BR, hb⟩ : ∃ y, bare (.mk k n s vn x ks) = y := ⟨_, rfl⟩
 have hbr : ∀ w : World, (binOp .eql 26 (.agg #[.int .i64 s, .int .i64 vn, .string ⟨x.toArray⟩]) (.agg #[.int .i64 0, .int .i64 0, .string ⟨#[]⟩])).run Tryz.prog w = .ok (.bool BR) w := fun w => (run_bare w s vn x).trans (congrArg (fun y => Result.ok (Value.bool y) w) hb)
 clear hb
 have e1 : (k == 1) = false := by rw [beq_eq_false_iff_ne]; exact k1
 have e2 : (k == 2) = false := by rw [beq_eq_false_iff_ne]; exact k2
 have e3 : (k == 3) = false := by rw [beq_eq_false_iff_ne]; exact k3
 clear hLL
 go_enter Tryz.func88, Tryz.ntmps88
 go_wp2_with fail
 all_goals
  go_ret
  exact ⟨rfl, (grown_set w p _).trans (World.grownBy_alloc _ _ _), (HLT.out.set _).keep ((Below.refl _ _).alloc (Nat.le_refl _) _)⟩
set_option maxHeartbeats 2000000 in
theorem echeck_c1 (k : Int) (n : Str) (s vn : Int) (x : Str) (ks : List Ex) (v : Value) (p : Nat) (left : Int) (w : World) (hv : ExV (· ≠ p) w v (.mk k n s vn x ks)) (hf : ExFit 1048576 (.mk k n s vn x ks)) (hleft : 0 ≤ left) (hle : left ≤ 60) (hl : Left w p left) (hT : TabsP p w) (h1 : 1 ≤ left) (hone : exOne (.mk k n s vn x ks) = 1) (hk : k = 3) (hb : bare (.mk k n s vn x ks) = false)  :
  ECheckSays (.mk k n s vn x ks) v p left w := by
 unfold ECheckSays
 have e : chkE (.mk k n s vn x ks) left = (1, left - 1) := by
  unfold chkE
  rw [if_neg (by omega), if_neg (by rw [hone]; decide), hone]
 rw [e]
 clear e hone
 have HV := Lib.hid hv
 obtain ⟨A, L, cap, rfl, hk⟩ := hv.one'
 simp only [Ex.kind, Ex.name, Ex.vs, Ex.vn, Ex.vt, Ex.kids] at hk ⊢
 have hLL : L = ks.length := by obtain ⟨A', c', e, -, -⟩ := hk; injection e
 have hfp := hf.parts
 simp only [Ex.kind, Ex.name, Ex.vs, Ex.vn, Ex.vt, Ex.kids] at hfp
 obtain ⟨-, hn, -, -, hx, hkl, -⟩ := hfp
 have HK := Lib.hid hk
 have HF := Lib.hid hf
 have hp := hl.lt
 have HLT := Lib.hid hl
 obtain ⟨c0, cf⟩ := hl
 clear hk hf hv
 subst hk
 have hbr : ∀ w : World, (binOp .eql 26 (.agg #[.int .i64 s, .int .i64 vn, .string ⟨x.toArray⟩]) (.agg #[.int .i64 0, .int .i64 0, .string ⟨#[]⟩])).run Tryz.prog w = .ok (.bool false) w := fun w => (run_bare w s vn x).trans (congrArg (fun y => Result.ok (Value.bool y) w) hb)
 clear hb hLL
 go_enter Tryz.func88, Tryz.ntmps88
 go_wp2_with fail
 all_goals
  go_ret
  exact ⟨rfl, (grown_set w p _).trans (World.grownBy_alloc _ _ _), (HLT.out.set _).keep ((Below.refl _ _).alloc (Nat.le_refl _) _)⟩
set_option maxHeartbeats 2000000 in
theorem echeck_c2 (k : Int) (n : Str) (s vn : Int) (x : Str) (ks : List Ex) (v : Value) (p : Nat) (left : Int) (w : World) (hv : ExV (· ≠ p) w v (.mk k n s vn x ks)) (hf : ExFit 1048576 (.mk k n s vn x ks)) (hleft : 0 ≤ left) (hle : left ≤ 60) (hl : Left w p left) (hT : TabsP p w) (h1 : 1 ≤ left) (hone : exOne (.mk k n s vn x ks) = 1) (hk : k = 3) (hb : bare (.mk k n s vn x ks) = true) (hS : lone n = true) (hlv : level n = 0) (hlen : ks.length ≠ 1) :
  ECheckSays (.mk k n s vn x ks) v p left w := by
 unfold ECheckSays
 have e : chkE (.mk k n s vn x ks) left = (1, left - 1) := by
  unfold chkE
  rw [if_neg (by omega), if_neg (by rw [hone]; decide), hone]
 rw [e]
 clear e hone
 have HV := Lib.hid hv
 obtain ⟨A, L, cap, rfl, hk⟩ := hv.one'
 simp only [Ex.kind, Ex.name, Ex.vs, Ex.vn, Ex.vt, Ex.kids] at hk ⊢
 have hLL : L = ks.length := by obtain ⟨A', c', e, -, -⟩ := hk; injection e
 have hfp := hf.parts
 simp only [Ex.kind, Ex.name, Ex.vs, Ex.vn, Ex.vt, Ex.kids] at hfp
 obtain ⟨-, hn, -, -, hx, hkl, -⟩ := hfp
 have HK := Lib.hid hk
 have HF := Lib.hid hf
 have hp := hl.lt
 have HLT := Lib.hid hl
 obtain ⟨c0, cf⟩ := hl
 clear hk hf hv
 subst hk
 have hbr : ∀ w : World, (binOp .eql 26 (.agg #[.int .i64 s, .int .i64 vn, .string ⟨x.toArray⟩]) (.agg #[.int .i64 0, .int .i64 0, .string ⟨#[]⟩])).run Tryz.prog w = .ok (.bool true) w := fun w => (run_bare w s vn x).trans (congrArg (fun y => Result.ok (Value.bool y) w) hb)
 clear hb
 have hL1 : ((L : Int) == 1) = false := by rw [beq_eq_false_iff_ne]; omega
 clear hLL
 have HS := Lib.hid hS
 clear hS
 have HLV := Lib.hid hlv
 clear hlv
 go_enter Tryz.func88, Tryz.ntmps88
 go_wp2_with fail
 refine (single_any n _).mono ?_
 rw [HS.out]
 rintro e w1 ⟨rfl, rfl⟩
 go_wp2_with fail
 refine (level_any n _).mono ?_
 rw [HLV.out]
 rintro e w1 ⟨rfl, rfl⟩
 go_wp2_with fail
 all_goals
  go_ret
  exact ⟨rfl, (grown_set w p _).trans (World.grownBy_alloc _ _ _), (HLT.out.set _).keep ((Below.refl _ _).alloc (Nat.le_refl _) _)⟩
set_option maxHeartbeats 2000000 in
theorem echeck_c3 (k : Int) (n : Str) (s vn : Int) (x : Str) (ks : List Ex) (v : Value) (p : Nat) (left : Int) (w : World) (hv : ExV (· ≠ p) w v (.mk k n s vn x ks)) (hf : ExFit 1048576 (.mk k n s vn x ks)) (hleft : 0 ≤ left) (hle : left ≤ 60) (hl : Left w p left) (hT : TabsP p w) (h1 : 1 ≤ left) (hone : exOne (.mk k n s vn x ks) = 1) (hk : k = 3) (hb : bare (.mk k n s vn x ks) = true) (hS : lone n = false) (hlv : level n = 0) :
  ECheckSays (.mk k n s vn x ks) v p left w := by
 unfold ECheckSays
 have e : chkE (.mk k n s vn x ks) left = (1, left - 1) := by
  unfold chkE
  rw [if_neg (by omega), if_neg (by rw [hone]; decide), hone]
 rw [e]
 clear e hone
 have HV := Lib.hid hv
 obtain ⟨A, L, cap, rfl, hk⟩ := hv.one'
 simp only [Ex.kind, Ex.name, Ex.vs, Ex.vn, Ex.vt, Ex.kids] at hk ⊢
 have hLL : L = ks.length := by obtain ⟨A', c', e, -, -⟩ := hk; injection e
 have hfp := hf.parts
 simp only [Ex.kind, Ex.name, Ex.vs, Ex.vn, Ex.vt, Ex.kids] at hfp
 obtain ⟨-, hn, -, -, hx, hkl, -⟩ := hfp
 have HK := Lib.hid hk
 have HF := Lib.hid hf
 have hp := hl.lt
 have HLT := Lib.hid hl
 obtain ⟨c0, cf⟩ := hl
 clear hk hf hv
 subst hk
 have hbr : ∀ w : World, (binOp .eql 26 (.agg #[.int .i64 s, .int .i64 vn, .string ⟨x.toArray⟩]) (.agg #[.int .i64 0, .int .i64 0, .string ⟨#[]⟩])).run Tryz.prog w = .ok (.bool true) w := fun w => (run_bare w s vn x).trans (congrArg (fun y => Result.ok (Value.bool y) w) hb)
 clear hb hLL
 have HS := Lib.hid hS
 clear hS
 have HLV := Lib.hid hlv
 clear hlv
 go_enter Tryz.func88, Tryz.ntmps88
 go_wp2_with fail
 refine (single_any n _).mono ?_
 rw [HS.out]
 rintro e w1 ⟨rfl, rfl⟩
 go_wp2_with fail
 refine (level_any n _).mono ?_
 rw [HLV.out]
 rintro e w1 ⟨rfl, rfl⟩
 go_wp2_with fail
 all_goals
  go_ret
  exact ⟨rfl, (grown_set w p _).trans (World.grownBy_alloc _ _ _), (HLT.out.set _).keep ((Below.refl _ _).alloc (Nat.le_refl _) _)⟩
set_option maxHeartbeats 2000000 in
theorem echeck_c4 (k : Int) (n : Str) (s vn : Int) (x : Str) (ks : List Ex) (v : Value) (p : Nat) (left : Int) (w : World) (hv : ExV (· ≠ p) w v (.mk k n s vn x ks)) (hf : ExFit 1048576 (.mk k n s vn x ks)) (hleft : 0 ≤ left) (hle : left ≤ 60) (hl : Left w p left) (hT : TabsP p w) (h1 : 1 ≤ left) (hone : exOne (.mk k n s vn x ks) = 1) (hk : k = 3) (hb : bare (.mk k n s vn x ks) = true) (hS : lone n = false) (hlv : 0 < level n) (hlen : ks.length ≠ 2) :
  ECheckSays (.mk k n s vn x ks) v p left w := by
 unfold ECheckSays
 have e : chkE (.mk k n s vn x ks) left = (1, left - 1) := by
  unfold chkE
  rw [if_neg (by omega), if_neg (by rw [hone]; decide), hone]
 rw [e]
 clear e hone
 have HV := Lib.hid hv
 obtain ⟨A, L, cap, rfl, hk⟩ := hv.one'
 simp only [Ex.kind, Ex.name, Ex.vs, Ex.vn, Ex.vt, Ex.kids] at hk ⊢
 have hLL : L = ks.length := by obtain ⟨A', c', e, -, -⟩ := hk; injection e
 have hfp := hf.parts
 simp only [Ex.kind, Ex.name, Ex.vs, Ex.vn, Ex.vt, Ex.kids] at hfp
 obtain ⟨-, hn, -, -, hx, hkl, -⟩ := hfp
 have HK := Lib.hid hk
 have HF := Lib.hid hf
 have hp := hl.lt
 have HLT := Lib.hid hl
 obtain ⟨c0, cf⟩ := hl
 clear hk hf hv
 subst hk
 have hbr : ∀ w : World, (binOp .eql 26 (.agg #[.int .i64 s, .int .i64 vn, .string ⟨x.toArray⟩]) (.agg #[.int .i64 0, .int .i64 0, .string ⟨#[]⟩])).run Tryz.prog w = .ok (.bool true) w := fun w => (run_bare w s vn x).trans (congrArg (fun y => Result.ok (Value.bool y) w) hb)
 clear hb
 have hL2 : ((L : Int) == 2) = false := by rw [beq_eq_false_iff_ne]; omega
 clear hLL
 obtain ⟨V, hV⟩ : ∃ y, level n = y := ⟨_, rfl⟩
 rw [hV] at hlv
 have HLV := Lib.hid hV
 clear hV
 have HS := Lib.hid hS
 clear hS
 go_enter Tryz.func88, Tryz.ntmps88
 go_wp2_with fail
 refine (single_any n _).mono ?_
 rw [HS.out]
 rintro e w1 ⟨rfl, rfl⟩
 go_wp2_with fail
 refine (level_any n _).mono ?_
 rw [HLV.out]
 rintro e w1 ⟨rfl, rfl⟩
 go_wp2_with fail
 all_goals
  go_ret
  exact ⟨rfl, (grown_set w p _).trans (World.grownBy_alloc _ _ _), (HLT.out.set _).keep ((Below.refl _ _).alloc (Nat.le_refl _) _)⟩
set_option maxHeartbeats 2000000 in
theorem echeck_c (m : Nat) (ih : EIH m) (k : Int) (n : Str) (s vn : Int) (x : Str) (ks : List Ex) (v : Value) (p : Nat) (left : Int) (w : World) (hm : eparts (.mk k n s vn x ks) ≤ m + 1) (hv : ExV (· ≠ p) w v (.mk k n s vn x ks)) (hf : ExFit 1048576 (.mk k n s vn x ks)) (hleft : 0 ≤ left) (hle : left ≤ 60) (hl : Left w p left) (hT : TabsP p w) (h1 : 1 ≤ left) (hone : exOne (.mk k n s vn x ks) = 9) (hk : k = 3) (hb : bare (.mk k n s vn x ks) = true) (hS : lone n = true) (hlen : ks.length = 1) :
  ECheckSays (.mk k n s vn x ks) v p left w := by
 unfold ECheckSays
 have e : chkE (.mk k n s vn x ks) left = chkEs ks (left - 1) := by
  unfold chkE
  rw [if_neg (by omega), if_pos hone]
 rw [e]
 clear e hone
 have HV := Lib.hid hv
 obtain ⟨A, L, cap, rfl, hk⟩ := hv.one'
 simp only [Ex.kind, Ex.name, Ex.vs, Ex.vn, Ex.vt, Ex.kids] at hk ⊢
 have hLL : L = ks.length := by obtain ⟨A', c', e, -, -⟩ := hk; injection e
 have hfp := hf.parts
 simp only [Ex.kind, Ex.name, Ex.vs, Ex.vn, Ex.vt, Ex.kids] at hfp
 obtain ⟨-, hn, -, -, hx, hkl, -⟩ := hfp
 have HK := Lib.hid hk
 have HF := Lib.hid hf
 have hp := hl.lt
 have HLT := Lib.hid hl
 obtain ⟨c0, cf⟩ := hl
 clear hk hf hv
 subst hk
 have hbr : ∀ w : World, (binOp .eql 26 (.agg #[.int .i64 s, .int .i64 vn, .string ⟨x.toArray⟩]) (.agg #[.int .i64 0, .int .i64 0, .string ⟨#[]⟩])).run Tryz.prog w = .ok (.bool true) w := fun w => (run_bare w s vn x).trans (congrArg (fun y => Result.ok (Value.bool y) w) hb)
 clear hb
 have HS := Lib.hid hS
 clear hS
 have HLE := Lib.hid hLL
 have hLb : L ≤ 1048576 := by omega
 have hL1 : ((L : Int) == 1) = true := by rw [beq_iff_eq]; omega
 clear hLL hlen
 go_enter Tryz.func88, Tryz.ntmps88
 go_wp2_with fail
 refine (single_any n _).mono ?_
 rw [HS.out]
 rintro e w1 ⟨rfl, rfl⟩
 go_wp2_with fail

 obtain ⟨W, hW⟩ : ∃ W, ((w.setCell ⟨p, 0, none⟩ (.int .i64 (left - 1))).alloc (.cells #[.int .i64 3, .string ⟨n.toArray⟩, .int .i64 s, .int .i64 vn, .string ⟨x.toArray⟩, .slice A L cap] 52)) = W := ⟨_, rfl⟩
 have hg : w.grownBy W (some p) := by subst hW; exact (grown_set w p _).trans (World.grownBy_alloc _ _ _)
 have hl1 : Left W p (left - 1) := by subst hW; exact (HLT.out.set _).keep ((Below.refl _ _).alloc (Nat.le_refl _) _)
 have hT1 := hT.grown hg
 try rw [hW]
 clear hW
 go_loopw [91] (fun i wr => ∃ (j : Nat) (lk : Int), j ≤ L ∧ i = .int .i64 j ∧ 0 ≤ lk ∧ lk ≤ left - 1 ∧ Left wr p lk ∧ w.grownBy wr (some p) ∧ TabsP p wr ∧ Hid (chkEs ks (left - 1) = chkEs (ks.drop j) lk)) (fun i _ => L - (intOf i).toNat)
 case atStart => exact ⟨0, left - 1, by omega, rfl, by omega, by omega, hl1, hg, hT1, rfl⟩
 case round =>
  clear hg hl1 hT1
  obtain ⟨j, lk, hj, rfl, hlk0, hlk1, hl1, hg, hT1, hs⟩ := hrel
  by_cases hlt : j < L
  ·obtain ⟨c, hc'⟩ : ∃ y, ks[j]? = some y := ⟨_, List.getElem?_eq_getElem (by have := HLE.out; omega)⟩
   have HC' := Lib.hid hc'
   obtain ⟨-, -, b, off, A1, n1, p1, rfl, hbp, y0, y1, y2, y3, y4, y5, hk'⟩ := exkid_at (HK.out.keep (D' := (· ≠ p)) (same_p hg) (fun b h _ => h)) hc'
   have HK' := Lib.hid hk'
   clear hk' hc'
   have hcp : eparts c ≤ m := by have h1 := eparts_at (mem_of_at HC'.out); have h2 : 1 + epartss ks ≤ m + 1 := hm; omega
   have hcf : ExFit 1048576 c := HF.out.parts.2.2.2.2.2.2 c (mem_of_at HC'.out)
   obtain ⟨wa, hwa⟩ : ∃ y, wr.alloc (.cells #[.int .i64 c.kind, .string ⟨c.name.toArray⟩, .int .i64 c.vs, .int .i64 c.vn, .string ⟨c.vt.toArray⟩, .slice A1 n1 p1] 52) = y := ⟨_, rfl⟩
   have hba : Below wr.heap.size wr wa := by subst hwa; exact (Below.refl _ _).alloc (Nat.le_refl _) _
   have hla := hl1.keep hba
   have hga := hg.trans (grown_below hba _)
   have hTa := hT1.grown (grown_below hba _)
   have hkb : ExBox wa wr.heap.size c (.slice A1 n1 p1) := by subst hwa; exact new_exval wr c _ _
   obtain ⟨k0, k1, k2, k3, k4, k5, k6, k7⟩ := id hkb
   obtain ⟨R, hR⟩ : ∃ x, chkE c lk = x := ⟨_, rfl⟩
   have HR := Lib.hid hR
   have hstep := hs.out
   rw [chkEs_drop HC'.out, hR] at hstep
   have hcall := ih c (.agg #[.int .i64 c.kind, .string ⟨c.name.toArray⟩, .int .i64 c.vs, .int .i64 c.vn, .string ⟨c.vt.toArray⟩, .slice A1 n1 p1]) p lk wa hcp ((exV_of HK'.out).keep (Same.below hba) (fun b h _ => h)) hcf hlk0 (by omega) hla hTa
   unfold ECheckSays at hcall
   rw [hR] at hcall
   have HCALL := Lib.hid hcall
   have hle2 := chkE_le c lk
   rw [hR] at hle2
   have HLE2 := Lib.hid hle2
   clear hR hcall hs hle2
   by_cases he : R.1 = 0
   ·have hp2 : 0 ≤ R.2 ∧ R.2 ≤ lk := ⟨HLE2.out.2 he hlk0, HLE2.out.1⟩
    rw [if_pos he] at hstep
    have HST := Lib.hid hstep
    have hE : (R.1 != 0) = false := by rw [bne_eq_false_iff_eq]; exact he
    clear hstep he
    go_wp2_with fail
    try rw [hwa]
    clear hwa
    refine HCALL.out.mono ?_
    rintro e w2 ⟨rfl, hg2, hl2⟩
    go_wp2_with fail
    go_roundw
    case rel => exact ⟨j + 1, R.2, by omega, by go_num, hp2.1, by omega, hl2, hga.trans hg2, hTa.grown hg2, HST⟩
    case measure => simp [intOf]; omega
   ·rw [if_neg he] at hstep
    have HST := Lib.hid hstep
    have hE : (R.1 != 0) = true := by rw [bne_iff_ne]; exact he
    clear hstep he
    go_wp2_with fail
    try rw [hwa]
    clear hwa
    refine HCALL.out.mono ?_
    rintro e w2 ⟨rfl, hg2, hl2⟩
    go_wp2_with fail
    go_ret
    rw [HST.out]
    exact ⟨rfl, hga.trans hg2, hl2⟩
  ·have hend := hs.out
   rw [List.drop_of_length_le (by have := HLE.out; omega)] at hend
   have HE := Lib.hid hend
   clear hend hs
   go_wp2_with fail
   go_ret
   rw [HE.out]
   exact ⟨rfl, hg, hl1⟩
set_option maxHeartbeats 2000000 in
theorem echeck_d (m : Nat) (ih : EIH m) (k : Int) (n : Str) (s vn : Int) (x : Str) (ks : List Ex) (v : Value) (p : Nat) (left : Int) (w : World) (hm : eparts (.mk k n s vn x ks) ≤ m + 1) (hv : ExV (· ≠ p) w v (.mk k n s vn x ks)) (hf : ExFit 1048576 (.mk k n s vn x ks)) (hleft : 0 ≤ left) (hle : left ≤ 60) (hl : Left w p left) (hT : TabsP p w) (h1 : 1 ≤ left) (hone : exOne (.mk k n s vn x ks) = 9) (hk : k = 3) (hb : bare (.mk k n s vn x ks) = true) (hS : lone n = false) (hlv : 0 < level n) (hlen : ks.length = 2) :
  ECheckSays (.mk k n s vn x ks) v p left w := by
 unfold ECheckSays
 have e : chkE (.mk k n s vn x ks) left = chkEs ks (left - 1) := by
  unfold chkE
  rw [if_neg (by omega), if_pos hone]
 rw [e]
 clear e hone
 have HV := Lib.hid hv
 obtain ⟨A, L, cap, rfl, hk⟩ := hv.one'
 simp only [Ex.kind, Ex.name, Ex.vs, Ex.vn, Ex.vt, Ex.kids] at hk ⊢
 have hLL : L = ks.length := by obtain ⟨A', c', e, -, -⟩ := hk; injection e
 have hfp := hf.parts
 simp only [Ex.kind, Ex.name, Ex.vs, Ex.vn, Ex.vt, Ex.kids] at hfp
 obtain ⟨-, hn, -, -, hx, hkl, -⟩ := hfp
 have HK := Lib.hid hk
 have HF := Lib.hid hf
 have hp := hl.lt
 have HLT := Lib.hid hl
 obtain ⟨c0, cf⟩ := hl
 clear hk hf hv
 subst hk
 have hbr : ∀ w : World, (binOp .eql 26 (.agg #[.int .i64 s, .int .i64 vn, .string ⟨x.toArray⟩]) (.agg #[.int .i64 0, .int .i64 0, .string ⟨#[]⟩])).run Tryz.prog w = .ok (.bool true) w := fun w => (run_bare w s vn x).trans (congrArg (fun y => Result.ok (Value.bool y) w) hb)
 clear hb
 have HLE := Lib.hid hLL
 have hLb : L ≤ 1048576 := by omega
 have hL2 : ((L : Int) == 2) = true := by rw [beq_iff_eq]; omega
 clear hLL hlen
 obtain ⟨V, hV⟩ : ∃ y, level n = y := ⟨_, rfl⟩
 rw [hV] at hlv
 have HLV := Lib.hid hV
 clear hV
 have HS := Lib.hid hS
 clear hS
 go_enter Tryz.func88, Tryz.ntmps88
 go_wp2_with fail
 refine (single_any n _).mono ?_
 rw [HS.out]
 rintro e w1 ⟨rfl, rfl⟩
 go_wp2_with fail
 refine (level_any n _).mono ?_
 rw [HLV.out]
 rintro e w1 ⟨rfl, rfl⟩
 go_wp2_with fail

 obtain ⟨W, hW⟩ : ∃ W, ((w.setCell ⟨p, 0, none⟩ (.int .i64 (left - 1))).alloc (.cells #[.int .i64 3, .string ⟨n.toArray⟩, .int .i64 s, .int .i64 vn, .string ⟨x.toArray⟩, .slice A L cap] 52)) = W := ⟨_, rfl⟩
 have hg : w.grownBy W (some p) := by subst hW; exact (grown_set w p _).trans (World.grownBy_alloc _ _ _)
 have hl1 : Left W p (left - 1) := by subst hW; exact (HLT.out.set _).keep ((Below.refl _ _).alloc (Nat.le_refl _) _)
 have hT1 := hT.grown hg
 try rw [hW]
 clear hW
 go_loopw [91] (fun i wr => ∃ (j : Nat) (lk : Int), j ≤ L ∧ i = .int .i64 j ∧ 0 ≤ lk ∧ lk ≤ left - 1 ∧ Left wr p lk ∧ w.grownBy wr (some p) ∧ TabsP p wr ∧ Hid (chkEs ks (left - 1) = chkEs (ks.drop j) lk)) (fun i _ => L - (intOf i).toNat)
 case atStart => exact ⟨0, left - 1, by omega, rfl, by omega, by omega, hl1, hg, hT1, rfl⟩
 case round =>
  clear hg hl1 hT1
  obtain ⟨j, lk, hj, rfl, hlk0, hlk1, hl1, hg, hT1, hs⟩ := hrel
  by_cases hlt : j < L
  ·obtain ⟨c, hc'⟩ : ∃ y, ks[j]? = some y := ⟨_, List.getElem?_eq_getElem (by have := HLE.out; omega)⟩
   have HC' := Lib.hid hc'
   obtain ⟨-, -, b, off, A1, n1, p1, rfl, hbp, y0, y1, y2, y3, y4, y5, hk'⟩ := exkid_at (HK.out.keep (D' := (· ≠ p)) (same_p hg) (fun b h _ => h)) hc'
   have HK' := Lib.hid hk'
   clear hk' hc'
   have hcp : eparts c ≤ m := by have h1 := eparts_at (mem_of_at HC'.out); have h2 : 1 + epartss ks ≤ m + 1 := hm; omega
   have hcf : ExFit 1048576 c := HF.out.parts.2.2.2.2.2.2 c (mem_of_at HC'.out)
   obtain ⟨wa, hwa⟩ : ∃ y, wr.alloc (.cells #[.int .i64 c.kind, .string ⟨c.name.toArray⟩, .int .i64 c.vs, .int .i64 c.vn, .string ⟨c.vt.toArray⟩, .slice A1 n1 p1] 52) = y := ⟨_, rfl⟩
   have hba : Below wr.heap.size wr wa := by subst hwa; exact (Below.refl _ _).alloc (Nat.le_refl _) _
   have hla := hl1.keep hba
   have hga := hg.trans (grown_below hba _)
   have hTa := hT1.grown (grown_below hba _)
   have hkb : ExBox wa wr.heap.size c (.slice A1 n1 p1) := by subst hwa; exact new_exval wr c _ _
   obtain ⟨k0, k1, k2, k3, k4, k5, k6, k7⟩ := id hkb
   obtain ⟨R, hR⟩ : ∃ x, chkE c lk = x := ⟨_, rfl⟩
   have HR := Lib.hid hR
   have hstep := hs.out
   rw [chkEs_drop HC'.out, hR] at hstep
   have hcall := ih c (.agg #[.int .i64 c.kind, .string ⟨c.name.toArray⟩, .int .i64 c.vs, .int .i64 c.vn, .string ⟨c.vt.toArray⟩, .slice A1 n1 p1]) p lk wa hcp ((exV_of HK'.out).keep (Same.below hba) (fun b h _ => h)) hcf hlk0 (by omega) hla hTa
   unfold ECheckSays at hcall
   rw [hR] at hcall
   have HCALL := Lib.hid hcall
   have hle2 := chkE_le c lk
   rw [hR] at hle2
   have HLE2 := Lib.hid hle2
   clear hR hcall hs hle2
   by_cases he : R.1 = 0
   ·have hp2 : 0 ≤ R.2 ∧ R.2 ≤ lk := ⟨HLE2.out.2 he hlk0, HLE2.out.1⟩
    rw [if_pos he] at hstep
    have HST := Lib.hid hstep
    have hE : (R.1 != 0) = false := by rw [bne_eq_false_iff_eq]; exact he
    clear hstep he
    go_wp2_with fail
    try rw [hwa]
    clear hwa
    refine HCALL.out.mono ?_
    rintro e w2 ⟨rfl, hg2, hl2⟩
    go_wp2_with fail
    go_roundw
    case rel => exact ⟨j + 1, R.2, by omega, by go_num, hp2.1, by omega, hl2, hga.trans hg2, hTa.grown hg2, HST⟩
    case measure => simp [intOf]; omega
   ·rw [if_neg he] at hstep
    have HST := Lib.hid hstep
    have hE : (R.1 != 0) = true := by rw [bne_iff_ne]; exact he
    clear hstep he
    go_wp2_with fail
    try rw [hwa]
    clear hwa
    refine HCALL.out.mono ?_
    rintro e w2 ⟨rfl, hg2, hl2⟩
    go_wp2_with fail
    go_ret
    rw [HST.out]
    exact ⟨rfl, hga.trans hg2, hl2⟩
  ·have hend := hs.out
   rw [List.drop_of_length_le (by have := HLE.out; omega)] at hend
   have HE := Lib.hid hend
   clear hend hs
   go_wp2_with fail
   go_ret
   rw [HE.out]
   exact ⟨rfl, hg, hl1⟩

theorem echeck_any : ∀ (m : Nat), EIH m := by
 intro m
 induction m with
 | zero => intro t v p left w h; cases t; simp only [eparts] at h; omega
 | succ m ih =>
 intro t v p left w hm hv hf hl0 hle hl hT
 obtain ⟨k, n, s, vn, x, ks⟩ := t
 by_cases hz : left = 0
 ·exact echeck_z k n s vn x ks v p left w hv hf hl0 hle hl hT hz
 have hpos : 1 ≤ left := by omega
 by_cases k1 : k = 1
 ·by_cases hn : n = []
  ·by_cases hlen : ks.length = 0
   ·exact echeck_a k n s vn x ks v p left w hv hf hl0 hle hl hT hpos (by unfold exOne; exact if_pos ⟨k1, hn, hlen⟩) k1 hn hlen
   ·exact echeck_a2 k n s vn x ks v p left w hv hf hl0 hle hl hT hpos (by unfold exOne; rw [if_neg (fun h => hlen h.2.2), if_neg (fun h => by have : k = 2 := h.1; omega), if_neg (fun h => by have : k = 3 := h.1; omega)]) k1 hn hlen
  ·exact echeck_a1 k n s vn x ks v p left w hv hf hl0 hle hl hT hpos (by unfold exOne; rw [if_neg (fun h => hn h.2.1), if_neg (fun h => by have : k = 2 := h.1; omega), if_neg (fun h => by have : k = 3 := h.1; omega)]) k1 hn
 by_cases k2 : k = 2
 ·cases hb : bare (.mk k n s vn x ks) with
  | false => exact echeck_b3 k n s vn x ks v p left w hv hf hl0 hle hl hT hpos (by unfold exOne; rw [if_neg (fun h => k1 h.1), if_neg (fun h => by have := h.2.1; rw [hb] at this; cases this), if_neg (fun h => by have : k = 3 := h.1; omega)]) k2 hb
  | true =>
   by_cases hlen : ks.length = 0
   ·refine echeck_b1 _ k n s vn x ks v p left w hv hf hl0 hle hl hT hpos ?_ k2 hb hlen rfl
    unfold exOne
    rw [if_neg (fun h => k1 h.1)]
    by_cases hN : isName n = true
    ·rw [if_pos ⟨k2, hb, hlen, hN⟩, if_pos hN]
    ·rw [if_neg (fun h => hN h.2.2.2), if_neg (fun h => by have : k = 3 := h.1; omega), if_neg hN]
   ·exact echeck_b2 k n s vn x ks v p left w hv hf hl0 hle hl hT hpos (by unfold exOne; rw [if_neg (fun h => k1 h.1), if_neg (fun h => hlen h.2.2.1), if_neg (fun h => by have : k = 3 := h.1; omega)]) k2 hb hlen
 by_cases k3 : k = 3
 ·have e0 : exOne (.mk k n s vn x ks) = if k = 3 ∧ bare (.mk k n s vn x ks) = true ∧ ((lone n = true ∧ ks.length = 1) ∨ (0 < level n ∧ ks.length = 2)) then 9 else 1 := by
   unfold exOne
   rw [if_neg (fun h => k1 h.1), if_neg (fun h => k2 h.1)]
   rfl
  cases hb : bare (.mk k n s vn x ks) with
  | false => exact echeck_c1 k n s vn x ks v p left w hv hf hl0 hle hl hT hpos (by rw [e0, if_neg (fun h => by have := h.2.1; rw [hb] at this; cases this)]) k3 hb
  | true =>
   have hlv0 := (level_lt n).1
   cases hS : lone n with
   | true =>
    have hlv : level n = 0 := by
     unfold lone at hS
     simp only [Bool.or_eq_true, decide_eq_true_eq] at hS
     rcases hS with rfl | rfl | rfl <;> decide
    by_cases hlen : ks.length = 1
    ·exact echeck_c m ih k n s vn x ks v p left w hm hv hf hl0 hle hl hT hpos (by rw [e0, if_pos ⟨k3, hb, Or.inl ⟨hS, hlen⟩⟩]) k3 hb hS hlen
    ·exact echeck_c2 k n s vn x ks v p left w hv hf hl0 hle hl hT hpos (by rw [e0, if_neg (fun h => by rcases h.2.2 with h | h <;> omega)]) k3 hb hS hlv hlen
   | false =>
    by_cases hlv : level n = 0
    ·exact echeck_c3 k n s vn x ks v p left w hv hf hl0 hle hl hT hpos (by rw [e0, if_neg (fun h => (h.2.2).elim (fun h => absurd (hS.symm.trans h.1) (by decide)) (fun h => by omega))]) k3 hb hS hlv
    ·have hlv' : 0 < level n := by omega
     by_cases hlen : ks.length = 2
     ·exact echeck_d m ih k n s vn x ks v p left w hm hv hf hl0 hle hl hT hpos (by rw [e0, if_pos ⟨k3, hb, Or.inr ⟨hlv', hlen⟩⟩]) k3 hb hS hlv' hlen
     ·exact echeck_c4 k n s vn x ks v p left w hv hf hl0 hle hl hT hpos (by rw [e0, if_neg (fun h => (h.2.2).elim (fun h => absurd (hS.symm.trans h.1) (by decide)) (fun h => by omega))]) k3 hb hS hlv' hlen
 ·exact echeck_o k n s vn x ks v p left w hv hf hl0 hle hl hT hpos (by unfold exOne; rw [if_neg (fun h => k1 h.1), if_neg (fun h => k2 h.1), if_neg (fun h => k3 h.1)]) k1 k2 k3

set_option maxHeartbeats 1000000 in
theorem eCheck_any (t : Ex) (v : Value) (w : World) {D : Blocks} (hv : ExV D w v t) (hf : ExFit 1048576 t) (hT : Tabs w) :
  Calls Tryz.prog 55 #[v] w fun e w' => e = .returned (.int .i64 (exErr t)) ∧ Below w.heap.size w w' := by
 have HZ := Lib.hid hv
 obtain ⟨ANS, hA⟩ : ∃ x, exErr t = x := ⟨_, rfl⟩
 have HA := Lib.hid hA; rw [hA]; clear hA
 obtain ⟨A, L, cap, rfl, hk⟩ := hv.one'
 clear hk hv
 go_enter Tryz.func55, Tryz.ntmps55
 go_wp2_with fail
 have hbW : Below w.heap.size w ((w.alloc (.cells #[.int .i64 t.kind, .string ⟨t.name.toArray⟩, .int .i64 t.vs, .int .i64 t.vn, .string ⟨t.vt.toArray⟩, .slice A L cap] 52)).alloc (.cells #[.int .i64 60] 3)) := by go_grown
 have hcall := echeck_any (eparts t) t (.agg #[.int .i64 t.kind, .string ⟨t.name.toArray⟩, .int .i64 t.vs, .int .i64 t.vn, .string ⟨t.vt.toArray⟩, .slice A L cap]) (w.heap.size + 1) 60 ((w.alloc (.cells #[.int .i64 t.kind, .string ⟨t.name.toArray⟩, .int .i64 t.vs, .int .i64 t.vn, .string ⟨t.vt.toArray⟩, .slice A L cap] 52)).alloc (.cells #[.int .i64 60] 3)) (Nat.le_refl _)
  (HZ.out.here.keep (Same.below hbW) (fun b h _ => by have h' : b < w.heap.size := h; omega)) hf (by omega) (by omega) ⟨by simp [go_sem], by simp [go_sem]⟩ ⟨hT.below hbW, by have := hT.lt.1; omega, by have := hT.lt.2; omega⟩
 unfold ECheckSays at hcall
 refine hcall.mono ?_
 clear hcall
 rintro e w1 ⟨rfl, hg, -⟩
 have hb1 := hbW.grown hg (by simp; omega) (fun k hk => by injection hk; omega)
 go_wp2_with fail
 go_ret
 exact ⟨by rw [← HA.out]; rfl, hb1⟩
end Go.Proofs.YtpidjanngbaiiaaGreatDoor
namespace Go.Proofs.YtpidjanngbaiiaaGreatDoor
open Go.RowKit Go.Proofs

section
variable {P : Program} {ops : Array Oper} {Q : Exit → Act → World → Prop} {md : Region.Mode} {S : World → Prop} {n : Nat}

def wpT (P : Program) (md : Region.Mode) (ops : Array Oper) (Q : Exit → Act → World → Prop) (S : World → Prop) (n : Nat) : Nat → Array Bool → Act → World → Prop
 | 0, L, a, w => Region.ready md ops L = [] ∧ Q .normal a w
 | g + 1, L, a, w => (Region.ready md ops L = [] → Q .normal a w) ∧ ∀ i ∈ Region.ready md ops L, wpOp P ops Q i (fun a' w' => (i < n → S w') ∧ wpT P md ops Q S n g (L.setIfInBounds i true) a' w') a w

theorem wpAny_of_T : ∀ (g : Nat) (L : Array Bool) (a : Act) (w : World), wpT P md ops Q S n g L a w → wpAny P md ops Q g L a w
 | 0, _, _, _, h => h
 | g + 1, _, _, _, h => ⟨h.1, fun i hi => wpOp_mono (fun a' w' h' => wpAny_of_T g _ a' w' h'.2) (h.2 i hi)⟩

def tailWaits (md : Region.Mode) (ops : Array Oper) (n i : Nat) : Bool :=
 (List.range ops.size).all fun j => decide (j < n) || (match ops[j]? with | some o => o.after.any fun e => Region.binds md e && e.on == i | none => true)
theorem tailWaits_lt {i j : Nat} {L : Array Bool} (h : tailWaits md ops n i = true) (hi : L.getD i true = false) (hj : j ∈ Region.ready md ops L) : j < n := by
 obtain ⟨hu, o, ho, hall⟩ := mem_ready.1 hj
 have hjs : j < ops.size := (Array.getElem?_eq_some_iff.1 ho).1
 have h1 := List.all_eq_true.1 h j (List.mem_range.2 hjs)
 simp only [ho, Bool.or_eq_true, decide_eq_true_eq] at h1
 rcases h1 with h1 | h1
 ·exact h1
 ·obtain ⟨k, hk, he⟩ := Array.any_eq_true.1 h1
  simp only [Bool.and_eq_true, beq_iff_eq] at he
  have h2 := hall _ (Array.getElem_mem hk) he.1
  rw [he.2] at h2
  rcases Nat.lt_or_ge i L.size with h' | h'
  ·simp only [Array.getD, h', dite_true] at hi h2
   exact absurd (hi.symm.trans h2) (by simp)
  ·simp [Array.getD, Nat.not_lt.2 h'] at hi

theorem wpT_first {i : Nat} {oi : Oper} {v : Value} (hi : ops[i]? = some oi) (hsel : ∀ (j : Nat) (o : Oper) cs b, ops[j]? = some o → o.op ≠ .select cs b) (htail : tailWaits md ops n i = true)
  (hQ : ∀ c a w, Q (.panic c) (a.put oi.dst v) w → Q (.panic c) a w) :
  ∀ (g : Nat) (L : Array Bool) (a : Act) (w : World),
   (∀ j oj, ops[j]? = some oj → j ≠ i → L.getD j true = false → (∀ e ∈ oj.after, Region.binds md e = true → e.on ≠ i) → oi.apart ops oj = true) →
   i ∈ Region.ready md ops L → YieldsIf P ops S oi v a → S w → wpT P md ops Q S n g (L.setIfInBounds i true) (a.put oi.dst v) w → wpT P md ops Q S n (g + 1) L a w := by
 intro g
 induction g with
 | zero =>
  intro L a w _ hr hy hS H
  refine ⟨fun h => (by rw [h] at hr; cases hr), fun j hj => ?_⟩
  by_cases hji : j = i
  ·subst hji
   exact hy.wpOp hi hS ⟨fun _ => hS, H⟩
  ·have h1 := ready_mono hj hji
   rw [H.1] at h1
   cases h1
 | succ g ih =>
  intro L a w hfree hr hy hS H
  refine ⟨fun h => (by rw [h] at hr; cases hr), fun j hj => ?_⟩
  by_cases hji : j = i
  ·subst hji
   exact hy.wpOp hi hS ⟨fun _ => hS, H⟩
  have hiL := (mem_ready.1 hr).1
  have hjn : j < n := tailWaits_lt htail hiL hj
  have h1 := H.2 j (ready_mono hj hji)
  obtain ⟨hju, oj, hoj, hall⟩ := mem_ready.1 hj
  have hno : ∀ e ∈ oj.after, Region.binds md e = true → e.on ≠ i := by
   intro e he hb hei
   have h2 := hall e he hb
   rw [hei] at h2
   rcases Nat.lt_or_ge i L.size with h' | h'
   ·simp only [Array.getD, h', dite_true] at hiL h2
    exact absurd (hiL.symm.trans h2) (by simp)
   ·simp [Array.getD, Nat.not_lt.2 h'] at hiL
  have h2 := wpOp_putIf hoj (hfree j oj hoj hji hju hno) (fun cs b => hsel i oi cs b hi) (fun cs b => hsel j oj cs b hoj) hQ hy h1
  refine wpOp_mono (fun a' w' h3 => ⟨h3.2.1, ?_⟩) h2
  refine ih (L.setIfInBounds j true) a' w' (fun k ok hk hki hun hno' => ?_) (ready_mono hr (Ne.symm hji)) h3.1 (h3.2.1 hjn) ?_
  ·refine hfree k ok hk hki ?_ hno'
   by_cases hjk : j = k
   ·subst hjk; exact hju
   ·rw [getD_set_ne true hjk] at hun; exact hun
  ·rw [Array.setIfInBounds_comm _ _ hji]
   exact h3.2.2

theorem wpT_take {i : Nat} {oi : Oper} {v : Value} {g : Nat} {L : Array Bool} {a : Act} {w : World} (hi : ops[i]? = some oi)
  (hs : Region.noSelect ops = true) (hf : Region.free md ops L i = true) (hr : (Region.ready md ops L).contains i = true) (ht : tailWaits md ops n i = true)
  (hQ : ∀ c a w, Q (.panic c) (a.put oi.dst v) w → Q (.panic c) a w) (hy : YieldsIf P ops S oi v a) (hS : S w)
  (h : wpT P md ops Q S n g (L.setIfInBounds i true) (a.put oi.dst v) w) : wpT P md ops Q S n (g + 1) L a w :=
 wpT_first hi (Region.noSelect_spec hs) ht hQ g L a w (Region.free_spec hi hf) (by simpa using hr) hy hS h

theorem zT (i : Nat) (v : Value) {oi : Oper} {g : Nat} {L : Array Bool} {a : Act} {w : World} (hi : ops[i]? = some oi) (hy : YieldsIf P ops S oi v a) (hS : S w)
  (h : wpT P md ops Q S n g (L.setIfInBounds i true) (a.put oi.dst v) w)
  (hs : Region.noSelect ops = true := by kernel_rfl) (hf : Region.free md ops L i = true := by kernel_rfl) (hr : (Region.ready md ops L).contains i = true := by kernel_rfl) (ht : tailWaits md ops n i = true := by kernel_rfl)
  (hQ : ∀ c a w, Q (.panic c) (a.put oi.dst v) w → Q (.panic c) a w := by exact fun _ _ _ h => h) : wpT P md ops Q S n (g + 1) L a w :=
 wpT_take hi hs hf hr ht hQ hy hS h

theorem wpT_one {i : Nat} {o : Oper} {g : Nat} {L : Array Bool} {a : Act} {w : World} (ho : ops[i]? = some o) (hr : Region.ready md ops L = [i])
  (h : ∀ K' : Act → World → Prop, Shut (∀ a w, (i < n → S w) → wpT P md ops Q S n g (L.setIfInBounds i true) a w → K' a w) → if Region.wanted o (yielded ops a.tmps) = true then Oper.wp P o a w K' Q else K' (a.put o.dst undef) w) : wpT P md ops Q S n (g + 1) L a w := by
 refine ⟨fun h0 => (by rw [hr] at h0; cases h0), fun j hj => ?_⟩
 rw [hr] at hj
 obtain rfl : j = i := by simpa using hj
 exact wpOp_step ho fun K' hK => h K' fun a w hS hW => hK a w ⟨hS, hW⟩
theorem zO (i : Nat) {o : Oper} {g : Nat} {L : Array Bool} {a : Act} {w : World}
  (h : ∀ K' : Act → World → Prop, Shut (∀ a w, (i < n → S w) → wpT P md ops Q S n g (L.setIfInBounds i true) a w → K' a w) → if Region.wanted o (yielded ops a.tmps) = true then Oper.wp P o a w K' Q else K' (a.put o.dst undef) w)
  (ho : ops[i]? = some o := by rfl) (hr : Region.ready md ops L = [i] := by kernel_rfl) : wpT P md ops Q S n (g + 1) L a w := wpT_one ho hr h
theorem wpT_two {i j : Nat} {o p : Oper} {g : Nat} {L : Array Bool} {a : Act} {w : World} (ho : ops[i]? = some o) (hp : ops[j]? = some p) (hr : Region.ready md ops L = [i, j])
  (h : ∀ K' : Act → World → Prop, Shut (∀ a w, (i < n → S w) → wpT P md ops Q S n g (L.setIfInBounds i true) a w → K' a w) → if Region.wanted o (yielded ops a.tmps) = true then Oper.wp P o a w K' Q else K' (a.put o.dst undef) w)
  (h' : ∀ K' : Act → World → Prop, Shut (∀ a w, (j < n → S w) → wpT P md ops Q S n g (L.setIfInBounds j true) a w → K' a w) → if Region.wanted p (yielded ops a.tmps) = true then Oper.wp P p a w K' Q else K' (a.put p.dst undef) w) : wpT P md ops Q S n (g + 1) L a w := by
 refine ⟨fun h0 => (by rw [hr] at h0; cases h0), fun k hk => ?_⟩
 rw [hr] at hk
 rcases (by simpa using hk : k = i ∨ k = j) with rfl | rfl
 ·exact wpOp_step ho fun K' hK => h K' fun a w hS hW => hK a w ⟨hS, hW⟩
 ·exact wpOp_step hp fun K' hK => h' K' fun a w hS hW => hK a w ⟨hS, hW⟩
theorem wpT_done {g : Nat} {L : Array Bool} {a : Act} {w : World} (hr : Region.ready md ops L = []) (h : Q .normal a w) : wpT P md ops Q S n g L a w := by
 cases g with
 | zero => exact ⟨hr, h⟩
 | succ g => exact ⟨fun _ => h, by rw [hr]; simp⟩
theorem wp_region_T (n : Nat) (S : World → Prop) {id : Nat} {a : Act} {w : World} (hm : P.follows .mixedOrders = true) (h : wpT P .any ops Q S n ops.size (Array.replicate ops.size false) a w.drew) : (Code.region id ops true).wp P Q a w :=
 wp_region_any hm (wpAny_of_T _ _ _ _ h)

theorem step_app {T E : TypeId} {size bytes : Nat} (R : RowType P T E size bytes) {o : Oper} {a : Act} {w : World} {K : Act → World → Prop} {X : Prop} (hgd : o.guard = none) (s x : Operand)
  (ho : o.op = .call { callee := .builtin .append, args := #[s, x], argTypes := #[T, T] })
  (base : Nat) (v : Value) (m : Nat) (xs : List Value) (hs : a.eval s = v) (hown : w.ownsRow base E size v m xs)
  (ad : Addr) (k c : Nat) (news : List Value) (hx : a.eval x = .slice (some ad) k c) (hl : news.length = k * size) (hnews : ∀ j u, news[j]? = some u → w.cell? (ad.add j) = some u) (h1 : ∀ u ∈ news, u.oneCell' = true)
  (h63 : m + k ≤ maxLen) (hbytes : (m + k) * bytes ≤ 140737488355328) (hbase : base ≤ w.heap.size)
  (h : ∀ v' w', w'.ownsRow base E size v' (m + k) (xs ++ news) → w.grownBy w' v.ownBlock → (v'.ownBlock = v.ownBlock ∨ v'.ownBlock = some w.heap.size) → Below base w w' → K (a.put o.dst v') w') :
  if Region.wanted o (yielded ops a.tmps) = true then Oper.wp P o a w K Q else X := by
 have hw : Region.wanted o (yielded ops a.tmps) = true := by simp [Region.wanted, hgd]
 rw [if_pos hw]
 obtain ⟨i, z, hi, hz, hsize, hby, hzs⟩ := R.ex
 obtain ⟨v', w', hr, h2, h3, _, h5⟩ := run_append_own_at (P := P) w base T o.type E i z size bytes R.ht hi hz hsize hby hzs R.pos v m xs hown ad k c news hl hnews h1 h63 hbytes hbase
 unfold Oper.wp execOp
 simp only [ho, resolve, invoke, builtin, Sem.run_bind, Sem.run_pure, Result.andThen_ok, List.map_toArray, List.map_cons, List.map_nil, hs, hx, hr]
 exact h _ _ h2 h3 h5 ((Below.refl _ _).grown h3 hbase (fun k hk => (hown.lt k hk).1))
theorem step_app_any {T E : TypeId} {size bytes : Nat} (R : RowType P T E size bytes) {o : Oper} {a : Act} {w : World} {K : Act → World → Prop} {X : Prop} (hgd : o.guard = none) (s x : Operand)
  (ho : o.op = .call { callee := .builtin .append, args := #[s, x], argTypes := #[T, T] })
  (base : Nat) (v : Value) (m : Nat) (xs : List Value) (hs : a.eval s = v) (hown : w.ownsRow base E size v m xs)
  (A : Option Addr) (k c : Nat) (hx : a.eval x = .slice A k c) (ys : List Value) (hl : ys.length = k * size) (hA : A = none → k = 0 ∧ c = 0) (hsrc : ∀ ad, A = some ad → ∀ j u, ys[j]? = some u → w.cell? (ad.add j) = some u) (h1 : ∀ u ∈ ys, u.oneCell' = true)
  (h63 : m + k ≤ maxLen) (hbytes : (m + k) * bytes ≤ 140737488355328) (hbase : base ≤ w.heap.size)
  (h : ∀ v' w', w'.ownsRow base E size v' (m + k) (xs ++ ys) → Below base w w' → K (a.put o.dst v') w') :
  if Region.wanted o (yielded ops a.tmps) = true then Oper.wp P o a w K Q else X := by
 cases A with
 | none =>
  obtain ⟨rfl, rfl⟩ := hA rfl
  obtain ⟨i, z, hi, hz, hsize, hby, hzs⟩ := R.ex
  have hw : Region.wanted o (yielded ops a.tmps) = true := by simp [Region.wanted, hgd]
  rw [if_pos hw]
  have hrun := run_append_owned_none (P := P) (w := w) base T o.type E i size R.ht hi v m xs hown
  have hys : ys = [] := List.eq_nil_of_length_eq_zero (by omega)
  subst hys
  unfold Oper.wp
  simp [execOp, ho, resolve, invoke, builtin, hs, hx, hrun, Result.andThen]
  exact h v w (by simpa using hown) (Below.refl _ _)
 | some ad => exact step_app R hgd s x ho base v m xs hs hown ad k c ys hx hl (hsrc ad rfl) h1 h63 hbytes hbase fun v' w' k1 _ _ k4 => h v' w' k1 k4
end
end Go.Proofs.YtpidjanngbaiiaaGreatDoor
