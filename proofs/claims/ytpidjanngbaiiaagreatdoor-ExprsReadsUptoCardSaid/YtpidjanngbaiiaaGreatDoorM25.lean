/-
  The reference's BeginExpr.
  The reference's SameExpr.
  ExprsReads: the law's walk.
-/
import Derived.Test.YtpidjanngbaiiaaGreatDoorYyF
import Derived.Test.YtpidjanngbaiiaaGreatDoorM3
import Derived.Test.YtpidjanngbaiiaaGreatDoorM12
import Derived.Test.YtpidjanngbaiiaaGreatDoorM8
import Derived.Laws.StructEq
namespace Go.Proofs.YtpidjanngbaiiaaGreatDoor
open Go.RowKit Go.Proofs

set_option maxRecDepth 100000
set_option maxHeartbeats 16000000 in
theorem rBegin_any (l : Str) (at_ : Int) (p : Nat) (hp : p ≤ l.length) (hpc : (p : Int) = max 0 (min at_ l.length)) (w : World) (hT : Tabs w) (hl : l.length ≤ 9223372036854775807) (f : Nat) (rr : Yd.Res Ex) (hrr : Yd.all unX biX (opdP l) (ebin l) (eclose l) (sk l) f 1 p = some rr) :
  Calls Tryz.prog 20 #[.string ⟨l.toArray⟩, .int .i64 at_] w fun e w' => Below w.heap.size w w' ∧ ∃ v, e = .returned (.tuple #[v, .int .i64 (exBegin l p rr).2.1, .agg #[.int .i64 (exBegin l p rr).2.2.1, .int .i64 (exBegin l p rr).2.2.2]]) ∧ ExV (fun k => w.heap.size ≤ k) w' v (exBegin l p rr).1 := by
 obtain ⟨TT, EE, CC, AA, hA⟩ : ∃ t e c a, exBegin l p rr = (t, e, c, a) := ⟨_, _, _, _, rfl⟩
 rw [hA]
 simp only
 have HA := Lib.hid hA; clear hA
 by_cases h2000 : l.length ≤ 2000
 ·have hd : ¬ (2000 : Int) < (l.length : Int) := by omega
  obtain ⟨RES, hRES⟩ : ∃ r, (match rr with | .ok x q => Yd.Res.ok x (sk l q) | r => r) = r := ⟨_, rfl⟩
  have hrun : xYR l [] [] 0 true p RES := by
   have h := Yd.whole (ebin_le l) hrr
   rw [← hRES]
   cases rr with
   | err c q => exact h
   | ok x q => exact h
  have HANS : Hid ((∀ c q, RES = .err c q → TT = zeroEx ∧ EE = 0 ∧ CC = c ∧ AA = q) ∧ (∀ x q, RES = .ok x q → (exErr x = 0 → TT = x ∧ EE = q ∧ CC = 0 ∧ AA = 0) ∧ (exErr x ≠ 0 → TT = zeroEx ∧ EE = 0 ∧ CC = 2 ∧ AA = 0) ∧ ExFit 1048576 x)) := by
   refine Lib.hid ?_
   have h := HA.out
   unfold exBegin at h
   rw [if_neg (by omega)] at h
   rw [← hRES]
   cases rr with
   | err c q =>
    simp only [Prod.mk.injEq] at h
    exact ⟨fun c' q' e => (by cases e; exact ⟨h.1.symm, h.2.1.symm, h.2.2.1.symm, h.2.2.2.symm⟩), fun x q' e => (by cases e)⟩
   | ok x q =>
    refine ⟨fun c' q' e => (by cases e), fun x' q' e => ?_⟩
    cases e
    simp only at h
    refine ⟨fun h0 => ?_, fun h0 => ?_, all_fit hrr⟩
    ·rw [if_pos h0] at h; simp only [Prod.mk.injEq] at h; exact ⟨h.1.symm, h.2.1.symm, h.2.2.1.symm, h.2.2.2.symm⟩
    ·rw [if_neg h0] at h; simp only [Prod.mk.injEq] at h; exact ⟨h.1.symm, h.2.1.symm, h.2.2.1.symm, h.2.2.2.symm⟩
  clear hRES hrr HA
  go_enter Tryz.func20, Tryz.ntmps20
  go_wp2_with fail
  rw [← hpc]
  clear hpc
  obtain ⟨W, hW⟩ : ∃ x, ((w.alloc (.cells #[.int .i64 0, .string ⟨#[]⟩, .int .i64 0, .int .i64 0, .string ⟨#[]⟩, .slice none 0 0] 52)).alloc (.cells #[.int .i64 0, .int .i64 0] 37)).alloc (.cells #[.slice none 0 0, .slice none 0 0] 112) = x := ⟨_, rfl⟩
  have hbW : Below w.heap.size w W := by subst hW; go_grown
  have hzW : W.heap.size = w.heap.size + 1 + 1 + 1 := by subst hW; simp
  have XB : ExBox W w.heap.size zeroEx (.slice none 0 0) := by subst hW; exact ⟨by simp [go_sem]; rfl, by simp [go_sem]; rfl, by simp [go_sem]; rfl, by simp [go_sem]; rfl, by simp [go_sem]; rfl, by simp [go_sem], fun j => by simp [go_sem], by simp; omega⟩
  have f0 : W.cell? ⟨w.heap.size + 1, 0, none⟩ = some (.int .i64 0) := by subst hW; simp [go_sem]
  have f1 : W.cell? ⟨w.heap.size + 1, 1, none⟩ = some (.int .i64 0) := by subst hW; simp [go_sem]
  have fz : ∀ j, W.frozen? ⟨w.heap.size + 1, j, none⟩ = false := by subst hW; intro j; simp [go_sem]
  have hYd : Yard W (w.heap.size + 1 + 1 + 1) (w.heap.size + 1 + 1) (.slice none 0 0) (.slice none 0 0) [] [] [] := by subst hW; exact ⟨by simp [go_sem], by simp [go_sem], fun j => by simp [go_sem], by omega, by simp, World.ownsRow_nil _ _ _ _, World.ownsRow_nil _ _ _ _, .nil⟩
  have hYS : YS w W (w.heap.size + 1 + 1 + 1) (w.heap.size + 1 + 1) l RES p 0 true [] [] (.slice none 0 0) (.slice none 0 0) [] := ⟨hrun, rfl, rfl, (fun o h => by cases h), by simp, hp, hYd, XB, f0, f1, fz, hbW⟩
  rw [hW]
  clear hW hrun XB f0 f1 fz hYd hbW hzW
  go_loopg [1, 8, 9] l.length (fun gk i1 i8 i9 wr => ∃ (p n : Nat) (opnd : Bool) (ops : List Yd.Op) (vals : List Ex) (ov vv : Value) (xs : List Value), i1 = .int .i64 (p : Int) ∧ i8 = .int .i64 (n : Int) ∧ i9 = .bool opnd ∧ l.length ≤ gk + p ∧ YS w wr (w.heap.size + 1 + 1 + 1) (w.heap.size + 1 + 1) l RES p n opnd ops vals ov vv xs)
  case atStart => exact ⟨p, 0, true, [], [], _, _, _, rfl, rfl, rfl, by omega, hYS⟩
  case round =>
   clear hYS
   obtain ⟨p, n, opnd, ops, vals, ov, vv, xs, rfl, rfl, rfl, hgk, hS⟩ := hrel
   go_wp2_with fail
   refine (exprPiece_any l p opnd wr h2000 hS.pl (hT.below hS.bl)).mono ?_
   obtain ⟨c, hc⟩ : ∃ c, piece l p opnd = c := ⟨_, rfl⟩
   rw [hc]
   have HC := Lib.hid hc
   clear hc
   rintro e w2 ⟨he, hb2⟩
   unfold pcV at he
   subst he
   have hS2 := hS.below hb2
   clear hS hb2
   rename_i J2 K2 j2 k2 K1 k1 K0 k0
   have H9 := Lib.hid k2
   clear k2
   have H1 := Lib.hid k1
   clear k1
   go_wp2_with fail
   have PB := new_pcbox w2 c 114
   have hb3 : Below w2.heap.size w2 (w2.alloc (.cells #[.string ⟨c.text.toArray⟩, .int .i64 c.vs, .int .i64 c.vn, .string ⟨c.vt.toArray⟩, .bool c.lit, .int .i64 (c.at_ : Int), .int .i64 (c.to_ : Int), .int .i64 c.bad, .bool c.word] 114)) := (Below.refl _ _).alloc (Nat.le_refl _) _
   have hS3 := hS2.below hb3
   have hP : w.heap.size + 1 + 1 + 1 ≤ w2.heap.size := hS2.yd.lb
   have hPo : some w2.heap.size ≠ ov.ownBlock := fun e => by have := (hS2.yd.own.lt _ e.symm).2; omega
   have hPv : some w2.heap.size ≠ vv.ownBlock := fun e => by have := (hS2.yd.vown.lt _ e.symm).2; omega
   generalize w2.alloc (.cells #[.string ⟨c.text.toArray⟩, .int .i64 c.vs, .int .i64 c.vn, .string ⟨c.vt.toArray⟩, .bool c.lit, .int .i64 (c.at_ : Int), .int .i64 (c.to_ : Int), .int .i64 c.bad, .bool c.word] 114) = w3 at PB hS3 ⊢
   generalize w2.heap.size = P at PB hP hPo hPv ⊢
   clear hb3 hS2
   clear w2
   refine H1.out _ _ ?_
   clear H1
   have hpl0 := hS3.pl
   (try dsimp only)
   refine be_round opnd l w w3 RES p n ops vals ov vv xs P c h2000 _ (fun e d v a w h => by cases d <;> exact h) TT EE CC AA _ _ _ _ _ _ _ _ _ _ _ _ _ _ hS3 PB hP hPo hPv ?hN ?hR HC.out HANS hT _ _ _ _ _ _ _ _ _ _ _ _ _ _ _ _ _ _ _ _ _ _ _ _ _ _ _ _ _ _ _ _ _ _ _ _ _ _ _ _ _ _ _ _ _ _ _ _ _ _ _ _ _ _ _ _ _ _ _ _ _ _ _ _ _ _ _ _ _ _ _ _ _ _ _ _ _ _ _ _ _ _ _ _ _ _ _ _ _ _ _ _ _ _ _ _ _ _ _ _ _ _ _ _ _ _ _ _ _ _ _ _ _ _ _ _ _ _ _ _ _ _ _ _ _ _ _ _ _ _ _ _ _ _ _ _ _ _ _ _ _ _ _ _ _ _ _ _ _ _ _ _ _ _ _ _ _ _ _ _ _ _ _ _ _ _ _ _ _ _ _ _ _ _ _ _ _ _ _ _ _ _ _ _ _ _ _ _ _ _ _ _ _ _ _ _ _ _ _ _ _ _ _ _ _ _ _ _ _ _ _ _ _ _ _ _ _ _ _ _ _ _ _ _ _ _ _ _ _ _ _ _ _ _ _ _ _
   case hN =>
    refine Lib.hid ?_
    intro _ _ _ _ _ _ _ _ _ _ _ _ _ _ _ _ _ _ _ _ _ _ _ _ _ _ _ _ _ _ _ _ _ _ _ _ _ _ _ _ _ _ _ _ _ _ _ _ _ _ _ _ _ _ _ _ _ _ _ _ _ _ _ _ _ _ _ _ _ _ _ _ _ _ _ _ _ _ _ _ _ _ _ _ _ _ _ _ _ _ _ _ _ _ _ _ _ _ _ _ _ _ _ _ _ _ _ _ _ _ _ _ _ _ _ _ _ _ _ _ _ _ _ _ _ _ _ _ _ _ _ _ _ _ _ _ _ _ _ _ _ _ _ _ _ _ _ _ _ _ _ _ _ _ _ _ _ _ _ _ _ _ _ _ _ _ _ _ _ _ _ _ _ _ _ _ _ _ _ _ _ _ _ _ _ _ _ _ _ _ _ _ _ _ _ _ _ _ _ _ _ _ _ _ _ _ _ _ _ _ _ _ _ _ _ _ _ _ _ _ _ _ _ _ _ _ _ _ _ _ _ _ _ _ _ _ _ _ w9 p9 n9 o9 ops9 vals9 ov9 vv9 xs9 hpp hYS
    have hpl9 := hYS.pl
    show K2 _ _
    (try dsimp only)
    refine H9.out _ _ ?_
    go_roundg (gk - 1)
    case measure => omega
    case rel => exact ⟨p9, n9, o9, ops9, vals9, ov9, vv9, xs9, rfl, rfl, rfl, by omega, hYS⟩
   case hR =>
    refine Lib.hid ?_
    intro _ _ _ _ _ _ _ _ _ _ _ _ _ _ _ _ _ _ _ _ _ _ _ _ _ _ _ _ _ _ _ _ _ _ _ _ _ _ _ _ _ _ _ _ _ _ _ _ _ _ _ _ _ _ _ _ _ _ _ _ _ _ _ _ _ _ _ _ _ _ _ _ _ _ _ _ _ _ _ _ _ _ _ _ _ _ _ _ _ _ _ _ _ _ _ _ _ _ _ _ _ _ _ _ _ _ _ _ _ _ _ _ _ _ _ _ _ _ _ _ _ _ _ _ _ _ _ _ _ _ _ _ _ _ _ _ _ _ _ _ _ _ _ _ _ _ _ _ _ _ _ _ _ _ _ _ _ _ _ _ _ _ _ _ _ _ _ _ _ _ _ _ _ _ _ _ _ _ _ _ _ _ _ _ _ _ _ _ _ _ _ _ _ _ _ _ _ _ _ _ _ _ _ _ _ _ _ _ _ _ _ _ _ _ _ _ _ _ _ _ _ _ _ _ _ _ _ _ _ _ _ _ _ _ _ _ _ _ _ _ w9 kv hX hK g0 g1 hbN
    obtain ⟨y0, y1, y2, y3, y4, y5, y6, y7⟩ := id hX
    have hK' := hK
    obtain ⟨A2, c2, rfl, -, -, -⟩ := hK'
    (try simp (config := { zetaDelta := true }) only [Exit.inBlock, Exit.then])
    refine bodyPost_ret (v := .tuple #[.agg #[.int .i64 TT.kind, .string ⟨TT.name.toArray⟩, .int .i64 TT.vs, .int .i64 TT.vn, .string ⟨TT.vt.toArray⟩, .slice A2 TT.kids.length c2], .int .i64 (EE : Int), .agg #[.int .i64 CC, .int .i64 (AA : Int)]]) (by simp [results, Tryz.results20, go_sem, y0, y1, y2, y3, y4, y5, g0, g1]) rfl ?_
    exact ⟨hbN, _, rfl, exV_of hK⟩
 ·have hd : (2000 : Int) < (l.length : Int) := by omega
  go_enter Tryz.func20, Tryz.ntmps20
  go_wp2_with fail
  have h := HA.out
  unfold exBegin at h
  rw [if_pos (by omega)] at h
  simp only [Prod.mk.injEq] at h
  obtain ⟨rfl, rfl, rfl, rfl⟩ := h
  refine bodyPost_ret (v := .tuple #[.agg #[.int .i64 0, .string ⟨#[]⟩, .int .i64 0, .int .i64 0, .string ⟨#[]⟩, .slice none 0 0], .int .i64 0, .agg #[.int .i64 2, .int .i64 0]]) (by simp [results, Tryz.results20, go_sem]) rfl ?_
  exact ⟨by go_grown, _, rfl, zero_ex _ _⟩
set_option maxRecDepth 100000
theorem run_neqv2 (w : World) (s n : Int) (t : Str) :
  (binOp .neq 26 (.agg #[.int .i64 s, .int .i64 n, .string ⟨t.toArray⟩]) (.agg #[.int .i64 s, .int .i64 n, .string ⟨t.toArray⟩])).run Tryz.prog w = .ok (.bool false) w := by
 simp [go_sem]
theorem exkid_size {t k : Ex} (h : k ∈ t.kids) : SizeOf.sizeOf k < SizeOf.sizeOf t := by
 cases t with
 | mk a b c d e ks =>
  have h1 := List.sizeOf_lt_of_mem (show k ∈ ks from h)
  simp only [Ex.mk.sizeOf_spec]
  omega
set_option maxHeartbeats 8000000 in
theorem sameExpr_any : ∀ (m : Nat) (t : Ex) (v v' : Value) (w : World), SizeOf.sizeOf t ≤ m → ExFit 1048576 t → ExV All w v t → ExV All w v' t →
  Calls Tryz.prog 23 #[v, v'] w fun e w' => e = .returned (.bool true) ∧ Below w.heap.size w w' := by
 intro m
 induction m with
 | zero => intro t v v' w h; cases t; simp only [Ex.mk.sizeOf_spec] at h; omega
 | succ m ih =>
 intro t v v' w hm hf hv hv'
 obtain ⟨kv, rfl, h2⟩ := hv
 obtain ⟨kv', rfl, h2'⟩ := hv'
 have H2 := Lib.hid h2; have H2' := Lib.hid h2'
 obtain ⟨A, cap, rfl, -, -⟩ := h2
 obtain ⟨A', cap', rfl, -, -⟩ := h2'
 obtain ⟨-, f1, -, -, f2, f4, f5⟩ := hf.parts
 have HF := Lib.hid f5; clear f5
 have HP : Hid (∀ k ∈ t.kids, SizeOf.sizeOf k ≤ m) := Lib.hid fun k hk => by have := exkid_size hk; omega
 have hneq := fun w => run_neqv2 w t.vs t.vn t.vt
 obtain ⟨ki, na, vs, vn, vt, ks⟩ := t
 simp only [Ex.kind, Ex.name, Ex.vs, Ex.vn, Ex.vt, Ex.kids] at *
 obtain ⟨L, hL⟩ : ∃ x, ks.length = x := ⟨_, rfl⟩
 have HL := Lib.hid hL
 rw [hL] at H2 H2' f4 ⊢
 clear hL
 go_enter Tryz.func23, Tryz.ntmps23
 go_wp2_with fail
 go_loopw [5] (fun i wr => ∃ k : Nat, k ≤ L ∧ i = .int .i64 k ∧ wr.cell? ⟨w.heap.size, 5, none⟩ = some (.slice A L cap) ∧ wr.cell? ⟨w.heap.size + 1, 5, none⟩ = some (.slice A' L cap') ∧ Below w.heap.size w wr) (fun i _ => L - (intOf i).toNat)
 case atStart => exact ⟨0, by omega, rfl, by simp [go_sem], by simp [go_sem], by go_grown⟩
 case round =>
  obtain ⟨k, hk, rfl, x4, y4, hb⟩ := hrel
  by_cases hlt : k < L
  ·obtain ⟨c, hc⟩ : ∃ x, ks[k]? = some x := ⟨_, List.getElem?_eq_getElem (by rw [HL.out]; exact hlt)⟩
   have HC := Lib.hid hc
   obtain ⟨-, -, b, off, A1, n1, q1, rfl, -, c0, c1, c2, c3, c4, c5, hk'⟩ := exkid_at (H2.out.below hb) hc
   obtain ⟨-, -, b', off', A3, n3, q3, rfl, -, d0, d1, d2, d3, d4, d5, hk2⟩ := exkid_at (H2'.out.below hb) hc
   have hcall := fun wq (h : Below wr.heap.size wr wq) => ih c _ _ wq (HP.out c (mem_of_at HC.out)) (HF.out c (mem_of_at HC.out)) ((exV_of hk').below h) ((exV_of hk2).below h)
   have HCL := Lib.hid hcall
   clear hk' hk2 hc hcall
   go_wp2_with fail
   have hS : ∀ w' : World, Below wr.heap.size wr w' → (fun w' : World => w'.cell? ⟨w.heap.size, 5, none⟩ = some (.slice (some ⟨b, off, none⟩) L cap) ∧ w'.cell? ⟨w.heap.size + 1, 5, none⟩ = some (.slice (some ⟨b', off', none⟩) L cap') ∧ w'.cell? ⟨b, off + k * 6, none⟩ = some (.int .i64 c.kind) ∧ w'.cell? ⟨b, off + k * 6 + 1, none⟩ = some (.string ⟨c.name.toArray⟩) ∧ w'.cell? ⟨b, off + k * 6 + 2, none⟩ = some (.int .i64 c.vs) ∧ w'.cell? ⟨b, off + k * 6 + 3, none⟩ = some (.int .i64 c.vn) ∧ w'.cell? ⟨b, off + k * 6 + 4, none⟩ = some (.string ⟨c.vt.toArray⟩) ∧ w'.cell? ⟨b, off + k * 6 + 5, none⟩ = some (.slice A1 n1 q1) ∧ w'.cell? ⟨b', off' + k * 6, none⟩ = some (.int .i64 c.kind) ∧ w'.cell? ⟨b', off' + k * 6 + 1, none⟩ = some (.string ⟨c.name.toArray⟩) ∧ w'.cell? ⟨b', off' + k * 6 + 2, none⟩ = some (.int .i64 c.vs) ∧ w'.cell? ⟨b', off' + k * 6 + 3, none⟩ = some (.int .i64 c.vn) ∧ w'.cell? ⟨b', off' + k * 6 + 4, none⟩ = some (.string ⟨c.vt.toArray⟩) ∧ w'.cell? ⟨b', off' + k * 6 + 5, none⟩ = some (.slice A3 n3 q3)) w' := fun w' h => ⟨cell_keep x4 h, cell_keep y4 h, cell_keep c0 h, cell_keep c1 h, cell_keep c2 h, cell_keep c3 h, cell_keep c4 h, cell_keep c5 h, cell_keep d0 h, cell_keep d1 h, cell_keep d2 h, cell_keep d3 h, cell_keep d4 h, cell_keep d5 h⟩
   have HSd := Lib.hid (hS wr.drew (Below.refl _ _).drew)
   have HSB := Lib.hid hS; clear hS
   refine wp_region_T 12 (fun w' : World => w'.cell? ⟨w.heap.size, 5, none⟩ = some (.slice (some ⟨b, off, none⟩) L cap) ∧ w'.cell? ⟨w.heap.size + 1, 5, none⟩ = some (.slice (some ⟨b', off', none⟩) L cap') ∧ w'.cell? ⟨b, off + k * 6, none⟩ = some (.int .i64 c.kind) ∧ w'.cell? ⟨b, off + k * 6 + 1, none⟩ = some (.string ⟨c.name.toArray⟩) ∧ w'.cell? ⟨b, off + k * 6 + 2, none⟩ = some (.int .i64 c.vs) ∧ w'.cell? ⟨b, off + k * 6 + 3, none⟩ = some (.int .i64 c.vn) ∧ w'.cell? ⟨b, off + k * 6 + 4, none⟩ = some (.string ⟨c.vt.toArray⟩) ∧ w'.cell? ⟨b, off + k * 6 + 5, none⟩ = some (.slice A1 n1 q1) ∧ w'.cell? ⟨b', off' + k * 6, none⟩ = some (.int .i64 c.kind) ∧ w'.cell? ⟨b', off' + k * 6 + 1, none⟩ = some (.string ⟨c.name.toArray⟩) ∧ w'.cell? ⟨b', off' + k * 6 + 2, none⟩ = some (.int .i64 c.vs) ∧ w'.cell? ⟨b', off' + k * 6 + 3, none⟩ = some (.int .i64 c.vn) ∧ w'.cell? ⟨b', off' + k * 6 + 4, none⟩ = some (.string ⟨c.vt.toArray⟩) ∧ w'.cell? ⟨b', off' + k * 6 + 5, none⟩ = some (.slice A3 n3 q3)) (by kernel_rfl) ?_
   refine zT 0 ?_ rfl (Or.inl ⟨by rfl, ?_⟩) HSd.out ?_
   rotate_left
   ·(intro wq hSw; obtain ⟨_,_,_,_,_,_,_,_,_,_,_,_,_,_⟩ := hSw; go_simp; all_goals (first | (with_reducible rfl) | (rw [zI])))
   simp only [zA, zB, zC, Act.put, zD, zE, zF]
   refine zT 1 ?_ rfl (Or.inl ⟨by rfl, ?_⟩) HSd.out ?_
   rotate_left
   ·(intro wq hSw; obtain ⟨_,_,_,_,_,_,_,_,_,_,_,_,_,_⟩ := hSw; go_simp; all_goals (first | (with_reducible rfl) | (rw [zI])))
   simp only [zA, zB, zC, Act.put, zD, zE, zF]
   refine zT 2 ?_ rfl (Or.inl ⟨by rfl, ?_⟩) HSd.out ?_
   rotate_left
   ·(intro wq hSw; obtain ⟨_,_,_,_,_,_,_,_,_,_,_,_,_,_⟩ := hSw; go_simp; all_goals (first | (with_reducible rfl) | (rw [zI])))
   simp only [zA, zB, zC, Act.put, zD, zE, zF]
   refine zT 3 ?_ rfl (Or.inl ⟨by rfl, ?_⟩) HSd.out ?_
   rotate_left
   ·(intro wq hSw; obtain ⟨_,_,_,_,_,_,_,_,_,_,_,_,_,_⟩ := hSw; go_simp; all_goals (first | (with_reducible rfl) | (rw [zI])))
   simp only [zA, zB, zC, Act.put, zD, zE, zF]
   refine zT 4 ?_ rfl (Or.inl ⟨by rfl, ?_⟩) HSd.out ?_
   rotate_left
   ·(intro wq hSw; obtain ⟨_,_,_,_,_,_,_,_,_,_,_,_,_,_⟩ := hSw; go_simp; all_goals (first | (with_reducible rfl) | (rw [zI])))
   simp only [zA, zB, zC, Act.put, zD, zE, zF]
   refine zT 5 ?_ rfl (Or.inl ⟨by rfl, ?_⟩) HSd.out ?_
   rotate_left
   ·(intro wq hSw; obtain ⟨_,_,_,_,_,_,_,_,_,_,_,_,_,_⟩ := hSw; go_simp; all_goals (first | (with_reducible rfl) | (rw [zI])))
   simp only [zA, zB, zC, Act.put, zD, zE, zF]
   refine zT 6 ?_ rfl (Or.inl ⟨by rfl, ?_⟩) HSd.out ?_
   rotate_left
   ·(intro wq hSw; obtain ⟨_,_,_,_,_,_,_,_,_,_,_,_,_,_⟩ := hSw; go_simp; all_goals (first | (with_reducible rfl) | (rw [zI])))
   simp only [zA, zB, zC, Act.put, zD, zE, zF]
   refine zT 7 ?_ rfl (Or.inl ⟨by rfl, ?_⟩) HSd.out ?_
   rotate_left
   ·(intro wq hSw; obtain ⟨_,_,_,_,_,_,_,_,_,_,_,_,_,_⟩ := hSw; go_simp; all_goals (first | (with_reducible rfl) | (rw [zI])))
   simp only [zA, zB, zC, Act.put, zD, zE, zF]
   refine zT 8 ?_ rfl (Or.inl ⟨by rfl, ?_⟩) HSd.out ?_
   rotate_left
   ·(intro wq hSw; obtain ⟨_,_,_,_,_,_,_,_,_,_,_,_,_,_⟩ := hSw; go_simp; all_goals (first | (with_reducible rfl) | (rw [zI])))
   simp only [zA, zB, zC, Act.put, zD, zE, zF]
   refine zT 9 ?_ rfl (Or.inl ⟨by rfl, ?_⟩) HSd.out ?_
   rotate_left
   ·(intro wq hSw; obtain ⟨_,_,_,_,_,_,_,_,_,_,_,_,_,_⟩ := hSw; go_simp; all_goals (first | (with_reducible rfl) | (rw [zI])))
   simp only [zA, zB, zC, Act.put, zD, zE, zF]
   refine zO 10 fun K hK => ?_
   go_simp
   refine (HCL.out wr.drew (Below.refl _ _).drew).mono ?_; rintro e w1 ⟨rfl, hq⟩
   have hb1 : Below wr.heap.size wr w1 := chain (Below.refl wr.heap.size wr).drew hq
   clear hq
   have HS1 := Lib.hid (HSB.out _ hb1)
   refine hK.out _ _ (fun _ => HSB.out _ hb1) ?_
   clear hK K
   try simp only [zA, zB, zC, Act.put, zD, zE, zF]
   refine zO 11 fun K hK => ?_
   go_simp
   refine hK.out _ _ (fun _ => HSB.out _ hb1) ?_
   clear hK K
   try simp only [zA, zB, zC, Act.put, zD, zE, zF]
   refine wpT_done (by kernel_rfl) ?_
   go_wp2_with fail
   go_roundw
   case rel => exact ⟨k + 1, by omega, by go_num, cell_keep x4 hb1, cell_keep y4 hb1, chain hb hb1⟩
   case measure => simp [intOf]; omega
  ·go_wp2_with fail
   go_ret
   exact ⟨rfl, hb⟩
set_option maxRecDepth 100000
theorem begin_fit {l : Str} {f p : Nat} {rr : Yd.Res Ex} (h : Yd.all unX biX (opdP l) (ebin l) (eclose l) (sk l) f 1 p = some rr) : ExFit 1048576 (exBegin l p rr).1 := by
 unfold exBegin
 split
 ·exact fit_zeroEx _
 ·cases rr with
  | err c q => exact fit_zeroEx _
  | ok x q =>
   simp only
   split
   ·exact all_fit h
   ·exact fit_zeroEx _
structure FBx (w : World) (q : Nat) (c a : Int) : Prop where
 c0 : w.cell? ⟨q, 0, none⟩ = some (.int .i64 c)
 c1 : w.cell? ⟨q, 1, none⟩ = some (.int .i64 a)
theorem FBx.keep {w w' : World} {q : Nat} {c a : Int} (h : FBx w q c a) (hb : Below w.heap.size w w') : FBx w' q c a := ⟨cell_keep h.c0 hb, cell_keep h.c1 hb⟩
structure Two (w : World) (q r : Nat) (t : Ex) (A : Option Addr) (cp : Nat) (c a : Int) : Prop where
 b : ExBox w q t (.slice A t.kids.length cp)
 k : Exs All w (.slice A t.kids.length cp) t.kids
 f : FBx w r c a
theorem Two.keep {w w' : World} {q r : Nat} {t : Ex} {A : Option Addr} {cp : Nat} {c a : Int} (h : Two w q r t A cp c a) (hb : Below w.heap.size w w') : Two w' q r t A cp c a := ⟨h.b.keep hb h.b.lt, h.k.below hb, h.f.keep hb⟩
theorem two_new {D : Blocks} (w : World) (t : Ex) (A : Option Addr) (cp : Nat) (c a : Int) (hk : Exs D w (.slice A t.kids.length cp) t.kids) : Two ((w.alloc (.cells #[.int .i64 t.kind, .string ⟨t.name.toArray⟩, .int .i64 t.vs, .int .i64 t.vn, .string ⟨t.vt.toArray⟩, .slice A t.kids.length cp] 52)).alloc (.cells #[.int .i64 c, .int .i64 a] 37)) w.heap.size (w.heap.size + 1) t A cp c a := by
 have h1 : Below w.heap.size w (w.alloc (.cells #[.int .i64 t.kind, .string ⟨t.name.toArray⟩, .int .i64 t.vs, .int .i64 t.vn, .string ⟨t.vt.toArray⟩, .slice A t.kids.length cp] 52)) := (Below.refl _ _).alloc (Nat.le_refl _) _
 have hb := new_exval w t (.slice A t.kids.length cp) 52
 have hk1 := hk.all.below h1
 have hz : (w.alloc (.cells #[.int .i64 t.kind, .string ⟨t.name.toArray⟩, .int .i64 t.vs, .int .i64 t.vn, .string ⟨t.vt.toArray⟩, .slice A t.kids.length cp] 52)).heap.size = w.heap.size + 1 := by simp
 generalize w.alloc (.cells #[.int .i64 t.kind, .string ⟨t.name.toArray⟩, .int .i64 t.vs, .int .i64 t.vn, .string ⟨t.vt.toArray⟩, .slice A t.kids.length cp] 52) = W at hb hk1 hz ⊢
 rw [← hz]
 have h2 : Below W.heap.size W (W.alloc (.cells #[.int .i64 c, .int .i64 a] 37)) := (Below.refl _ _).alloc (Nat.le_refl _) _
 exact ⟨hb.keep h2 hb.lt, hk1.below h2, ⟨by simp [go_sem], by simp [go_sem]⟩⟩
set_option maxHeartbeats 8000000 in
theorem esreads_any (l : Str) (at_ : Int) (w : World) (hl : l.length ≤ 1048576) (hL : Laid w) :
  Calls Tryz.prog 5 #[.string ⟨l.toArray⟩, .int .i64 at_] w fun e w' => e = .returned (.bool true) ∧ Below w.heap.size w w' := by
 have hl' : l.length ≤ 9223372036854775807 := by omega
 obtain ⟨g0, r0, hr0, -⟩ := Yd.all_ends (un := unX) (bi := biX) (sk := sk l) (tokens_grow l) 1 0 (Nat.zero_le _)
 obtain ⟨p, hp, hpc⟩ : ∃ p : Nat, p ≤ l.length ∧ (p : Int) = max 0 (min at_ l.length) := ⟨(max 0 (min at_ l.length)).toNat, by omega, by omega⟩
 obtain ⟨g1, r1, hr1, -⟩ := Yd.all_ends (un := unX) (bi := biX) (sk := sk l) (tokens_grow l) 1 p hp
 have hf0 := begin_fit hr0
 have hf1 := begin_fit hr1
 have b0 := fun (W : World) (h : Below w.heap.size w W) => eBegin_any l 0 0 (Nat.zero_le _) (by omega) W (hL.below h) hl' g0 r0 hr0
 have q0 := fun (W : World) (h : Below w.heap.size w W) => rBegin_any l 0 0 (Nat.zero_le _) (by omega) W (hL.below h).t hl' g0 r0 hr0
 have b1 := fun (W : World) (h : Below w.heap.size w W) => eBegin_any l at_ p hp hpc W (hL.below h) hl' g1 r1 hr1
 have q1 := fun (W : World) (h : Below w.heap.size w W) => rBegin_any l at_ p hp hpc W (hL.below h).t hl' g1 r1 hr1
 obtain ⟨⟨T0, E0, C0, A0⟩, hA0⟩ : ∃ x, exBegin l 0 r0 = x := ⟨_, rfl⟩
 obtain ⟨⟨T1, E1, C1, A1⟩, hA1⟩ : ∃ x, exBegin l p r1 = x := ⟨_, rfl⟩
 simp only [hA0] at b0 q0 hf0
 simp only [hA1] at b1 q1 hf1
 clear hA0 hA1 hr0 hr1 hpc hp
 obtain ⟨⟨TP, CP, AP⟩, hP⟩ : ∃ x, (if C0 = 0 ∧ E0 < l.length then (zeroEx, 3, E0) else (T0, C0, A0)) = x := ⟨_, rfl⟩
 have hfP : ExFit 1048576 TP := by
  split at hP
  ·rw [← (Prod.mk.inj hP).1]; exact fit_zeroEx _
  ·rw [← (Prod.mk.inj hP).1]; exact hf0
 have HP := Lib.hid hP
 have HF := Lib.hid (And.intro hfP hf1)
 have B0 := Lib.hid b0
 have Q0 := Lib.hid q0
 have B1 := Lib.hid b1
 have Q1 := Lib.hid q1
 have hpe := fun (W : World) (h : Below w.heap.size w W) => eParse_of l W hl' T0 E0 C0 A0 (fun V hV => b0 V (chain h hV)) TP CP AP HP
 have hpr := fun (W : World) (h : Below w.heap.size w W) => rParse_of l W hl' T0 E0 C0 A0 (fun V hV => q0 V (chain h hV)) TP CP AP HP
 have PE := Lib.hid hpe
 have PR := Lib.hid hpr
 clear hP hfP hf0 hf1 b0 q0 b1 q1 hpe hpr B0 Q0 hL
 have HIN := isName_any l
 have HRN := refIsName_any l
 obtain ⟨NM, hNM⟩ : ∃ x, isName l = x := ⟨_, rfl⟩
 rw [hNM] at HIN HRN
 have HI := Lib.hid HIN
 have HR := Lib.hid HRN
 clear HIN HRN hNM
 go_enter Tryz.func5, Tryz.ntmps5
 go_wp2_with fail
 refine (PE.out w (Below.refl _ _)).mono ?_
 rintro e w1 ⟨hb, v, rfl, hv⟩
 obtain ⟨P1, n1, c1, rfl, hk⟩ := hv.one'
 obtain ⟨rfl, -⟩ := hk.src
 have D1 := two_new w1 TP P1 c1 CP (AP : Int) hk
 have hbx : Below w1.heap.size w1 ((w1.alloc (.cells #[.int .i64 TP.kind, .string ⟨TP.name.toArray⟩, .int .i64 TP.vs, .int .i64 TP.vn, .string ⟨TP.vt.toArray⟩, .slice P1 TP.kids.length c1] 52)).alloc (.cells #[.int .i64 CP, .int .i64 (AP : Int)] 37)) := by go_grown
 have hby := chain hb hbx
 have B1 : Below w.heap.size w ((w1.alloc (.cells #[.int .i64 TP.kind, .string ⟨TP.name.toArray⟩, .int .i64 TP.vs, .int .i64 TP.vn, .string ⟨TP.vt.toArray⟩, .slice P1 TP.kids.length c1] 52)).alloc (.cells #[.int .i64 CP, .int .i64 (AP : Int)] 37)) := chain (Below.refl _ _) hby
 clear hb hbx hby hk hv
 go_wp2_with fail
 generalize ((w1.alloc (.cells #[.int .i64 TP.kind, .string ⟨TP.name.toArray⟩, .int .i64 TP.vs, .int .i64 TP.vn, .string ⟨TP.vt.toArray⟩, .slice P1 TP.kids.length c1] 52)).alloc (.cells #[.int .i64 CP, .int .i64 (AP : Int)] 37)) = W1 at D1 B1 ⊢
 generalize w1.heap.size = q1 at D1 ⊢
 clear w1
 refine (PR.out W1 B1).mono ?_
 rintro e w2 ⟨hb, v, rfl, hv⟩
 obtain ⟨P2, n2, c2, rfl, hk⟩ := hv.one'
 obtain ⟨rfl, -⟩ := hk.src
 have D2 := two_new w2 TP P2 c2 CP (AP : Int) hk
 have hbx : Below w2.heap.size w2 ((w2.alloc (.cells #[.int .i64 TP.kind, .string ⟨TP.name.toArray⟩, .int .i64 TP.vs, .int .i64 TP.vn, .string ⟨TP.vt.toArray⟩, .slice P2 TP.kids.length c2] 52)).alloc (.cells #[.int .i64 CP, .int .i64 (AP : Int)] 37)) := by go_grown
 have hby := chain hb hbx
 have B2 : Below w.heap.size w ((w2.alloc (.cells #[.int .i64 TP.kind, .string ⟨TP.name.toArray⟩, .int .i64 TP.vs, .int .i64 TP.vn, .string ⟨TP.vt.toArray⟩, .slice P2 TP.kids.length c2] 52)).alloc (.cells #[.int .i64 CP, .int .i64 (AP : Int)] 37)) := chain B1 hby
 have D1 := D1.keep hby
 clear hb hbx hby hk hv B1
 go_wp2_with fail
 generalize ((w2.alloc (.cells #[.int .i64 TP.kind, .string ⟨TP.name.toArray⟩, .int .i64 TP.vs, .int .i64 TP.vn, .string ⟨TP.vt.toArray⟩, .slice P2 TP.kids.length c2] 52)).alloc (.cells #[.int .i64 CP, .int .i64 (AP : Int)] 37)) = W2 at D1 D2 B2 ⊢
 generalize w2.heap.size = q2 at D2 ⊢
 clear w2
 refine (B1.out W2 B2).mono ?_
 rintro e w3 ⟨hb, v, rfl, hv⟩
 obtain ⟨P3, n3, c3, rfl, hk⟩ := hv.one'
 obtain ⟨rfl, -⟩ := hk.src
 have D3 := two_new w3 T1 P3 c3 C1 (A1 : Int) hk
 have hbx : Below w3.heap.size w3 ((w3.alloc (.cells #[.int .i64 T1.kind, .string ⟨T1.name.toArray⟩, .int .i64 T1.vs, .int .i64 T1.vn, .string ⟨T1.vt.toArray⟩, .slice P3 T1.kids.length c3] 52)).alloc (.cells #[.int .i64 C1, .int .i64 (A1 : Int)] 37)) := by go_grown
 have hby := chain hb hbx
 have B3 : Below w.heap.size w ((w3.alloc (.cells #[.int .i64 T1.kind, .string ⟨T1.name.toArray⟩, .int .i64 T1.vs, .int .i64 T1.vn, .string ⟨T1.vt.toArray⟩, .slice P3 T1.kids.length c3] 52)).alloc (.cells #[.int .i64 C1, .int .i64 (A1 : Int)] 37)) := chain B2 hby
 have D1 := D1.keep hby
 have D2 := D2.keep hby
 clear hb hbx hby hk hv B2
 go_wp2_with fail
 generalize ((w3.alloc (.cells #[.int .i64 T1.kind, .string ⟨T1.name.toArray⟩, .int .i64 T1.vs, .int .i64 T1.vn, .string ⟨T1.vt.toArray⟩, .slice P3 T1.kids.length c3] 52)).alloc (.cells #[.int .i64 C1, .int .i64 (A1 : Int)] 37)) = W3 at D1 D2 D3 B3 ⊢
 generalize w3.heap.size = q3 at D3 ⊢
 clear w3
 refine (Q1.out W3 B3).mono ?_
 rintro e w4 ⟨hb, v, rfl, hv⟩
 obtain ⟨P4, n4, c4, rfl, hk⟩ := hv.one'
 obtain ⟨rfl, -⟩ := hk.src
 have D4 := two_new w4 T1 P4 c4 C1 (A1 : Int) hk
 have hbx : Below w4.heap.size w4 ((w4.alloc (.cells #[.int .i64 T1.kind, .string ⟨T1.name.toArray⟩, .int .i64 T1.vs, .int .i64 T1.vn, .string ⟨T1.vt.toArray⟩, .slice P4 T1.kids.length c4] 52)).alloc (.cells #[.int .i64 C1, .int .i64 (A1 : Int)] 37)) := by go_grown
 have hby := chain hb hbx
 have B4 : Below w.heap.size w ((w4.alloc (.cells #[.int .i64 T1.kind, .string ⟨T1.name.toArray⟩, .int .i64 T1.vs, .int .i64 T1.vn, .string ⟨T1.vt.toArray⟩, .slice P4 T1.kids.length c4] 52)).alloc (.cells #[.int .i64 C1, .int .i64 (A1 : Int)] 37)) := chain B3 hby
 have D1 := D1.keep hby
 have D2 := D2.keep hby
 have D3 := D3.keep hby
 clear hb hbx hby hk hv B3
 go_wp2_with fail
 generalize ((w4.alloc (.cells #[.int .i64 T1.kind, .string ⟨T1.name.toArray⟩, .int .i64 T1.vs, .int .i64 T1.vn, .string ⟨T1.vt.toArray⟩, .slice P4 T1.kids.length c4] 52)).alloc (.cells #[.int .i64 C1, .int .i64 (A1 : Int)] 37)) = W4 at D1 D2 D3 D4 B4 ⊢
 generalize w4.heap.size = q4 at D4 ⊢
 clear w4
 refine (HI.out W4 hl').mono ?_
 rintro e w5 ⟨rfl, hb⟩
 have D1 := D1.keep hb
 have D2 := D2.keep hb
 have D3 := D3.keep hb
 have D4 := D4.keep hb
 have B5 := chain B4 hb
 clear hb B4
 go_wp2_with fail
 refine (HR.out w5 hl').mono ?_
 rintro e w6 ⟨rfl, hb⟩
 have D1 := D1.keep hb
 have D2 := D2.keep hb
 have D3 := D3.keep hb
 have D4 := D4.keep hb
 have B6 := chain B5 hb
 clear hb B5
 obtain ⟨⟨x10, x11, x12, x13, x14, x15, -, -⟩, -, ⟨f10, f11⟩⟩ := id D1
 obtain ⟨⟨x20, x21, x22, x23, x24, x25, -, -⟩, -, ⟨f20, f21⟩⟩ := id D2
 have heq : ∀ (c a : Int) (W : World), (binOp .eql 37 (.agg #[.int .i64 c, .int .i64 a]) (.agg #[.int .i64 c, .int .i64 a])).run Tryz.prog W = .ok (.bool true) W := fun c a W => by simp [go_sem]
 go_wp2_with fail
 refine (sameExpr_any (SizeOf.sizeOf TP) TP _ _ w6 (Nat.le_refl _) HF.out.1 (exV_of D1.k) (exV_of D2.k)).mono ?_
 rintro e w7 ⟨rfl, hb⟩
 have D3 := D3.keep hb
 have D4 := D4.keep hb
 have B7 := chain B6 hb
 clear hb B6 D1 D2 x10 x11 x12 x13 x14 x15 f10 f11 x20 x21 x22 x23 x24 x25 f20 f21
 obtain ⟨⟨x30, x31, x32, x33, x34, x35, -, -⟩, -, ⟨f30, f31⟩⟩ := id D3
 obtain ⟨⟨x40, x41, x42, x43, x44, x45, -, -⟩, -, ⟨f40, f41⟩⟩ := id D4
 go_wp2_with fail
 refine (sameExpr_any (SizeOf.sizeOf T1) T1 _ _ w7 (Nat.le_refl _) HF.out.2 (exV_of D3.k) (exV_of D4.k)).mono ?_
 rintro e w8 ⟨rfl, hb⟩
 have B8 := chain B7 hb
 go_wp2_with fail
 go_ret
 exact ⟨rfl, B8⟩
end Go.Proofs.YtpidjanngbaiiaaGreatDoor
