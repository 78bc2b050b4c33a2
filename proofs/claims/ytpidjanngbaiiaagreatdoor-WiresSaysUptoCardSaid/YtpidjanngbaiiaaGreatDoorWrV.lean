/-
  duetref.Wire: what the reference writes of events.
-/
import Derived.Test.YtpidjanngbaiiaaGreatDoorM22
import Derived.Test.YtpidjanngbaiiaaGreatDoorWrW
namespace Go.Proofs.YtpidjanngbaiiaaGreatDoor
open Go.RowKit Go.Proofs

set_option maxRecDepth 100000
theorem NEQ1 (n : Int) (h1 : -9223372036854775808 ≤ n) (h2 : n ≤ 9223372036854775807) (h : 0 ≤ n) : IntKind.u64.wrap (2 * IntKind.u64.wrap n) = ((zig n : Nat) : Int) := by
 rw [Go.IntWalk.u64_in n (by omega), Go.IntWalk.u64_in _ (by omega)]
 unfold zig
 rw [if_pos h]
 omega
theorem NEQ0 (n : Int) (h1 : -9223372036854775808 ≤ n) (h2 : n ≤ 9223372036854775807) (h : n < 0) : IntKind.u64.wrap (IntKind.u64.wrap (2 * IntKind.u64.wrap (IntKind.i64.wrap (-IntKind.i64.wrap (n + 1)))) + 1) = ((zig n : Nat) : Int) := by
 rw [Go.IntWalk.i64_in (n + 1) (by omega), Go.IntWalk.i64_in (-(n + 1)) (by omega), Go.IntWalk.u64_in (-(n + 1)) (by omega), Go.IntWalk.u64_in (2 * -(n + 1)) (by omega), Go.IntWalk.u64_in _ (by omega)]
 unfold zig
 rw [if_neg (by omega)]
 omega
theorem OBx.one {w w3 : World} {base p : Nat} {V V3 u : Value} {out : Str} {K : UInt8} {E : TypeId} (h : OBx w base p V out) (h2 : (w.alloc (.cells #[u] E)).grownBy w3 V.ownBlock) (h1 : ByteRow w3 base V3 (out ++ [K])) (h3 : V3.ownBlock = V.ownBlock ∨ V3.ownBlock = some (w.heap.size + 1)) :
  w3.cell? ⟨p, 0, none⟩ = some V ∧ w3.frozen? ⟨p, 0, none⟩ = false ∧ OBx (w3.setCell ⟨p, 0, none⟩ V3) base p V3 (out ++ [K]) := by
 have ha := h.keep ((Below.refl w.heap.size w).alloc (Nat.le_refl _) (.cells #[u] E))
 obtain ⟨hc, hf⟩ := ha.grown h2
 refine ⟨hc, hf, ha.put h2 h1 fun e => ?_⟩
 rcases h3 with h3 | h3
 ·exact h.n (h3.symm.trans e)
 ·rw [h3] at e
  injection e with e
  have := h.lt
  omega
theorem EvCells.beside {w : World} {q p : Nat} {e : Ev} {lv kv u : Value} (h : EvCells w q 0 e lv kv) (hne : q ≠ p) : EvCells (w.setCell ⟨p, 0, none⟩ u) q 0 e lv kv :=
 h.same (D := fun k => k ≠ p) (Same.set (fun h => h rfl)) hne
set_option maxHeartbeats 40000000 in
theorem wireRef_any (l : List Ev) (v : Value) (w : World) (hv : EvsD All w v l) (hf : ∀ e ∈ l, EvFit e) (hok : ∀ e ∈ l, errOf e = 0) (hlen : l.length ≤ 200) :
  Calls Tryz.prog 7 #[v] w fun r w' => r = .returned (.string ⟨(wireAll l).toArray⟩) ∧ Below w.heap.size w w' := by
 have HVS := Lib.hid hv
 obtain ⟨A, cap, rfl, -, -, -⟩ := hv
 obtain ⟨L, hL⟩ : ∃ L, l.length = L := ⟨_, rfl⟩
 have HL := Lib.hid hL
 obtain ⟨TXT, hTXT⟩ : ∃ T, wireAll l = T := ⟨_, rfl⟩
 have HTXT := Lib.hid hTXT
 rw [hTXT]
 rw [hL] at HVS hlen ⊢
 clear hL hTXT
 go_enter Tryz.func7, Tryz.ntmps7
 go_wp2_with fail
 go_loopw [5] (fun iv wr => ∃ (j : Nat) (out : Str) (V : Value), j ≤ L ∧ iv = .int .i64 j ∧ Hid (wireAll (l.take j) = out) ∧ out.length ≤ j * 7000 ∧ Hid (OBx wr w.heap.size w.heap.size V out) ∧ Below w.heap.size w wr) (fun iv _ => L - (intOf iv).toNat)
 case atStart => exact ⟨0, [], .slice none 0 0, Nat.zero_le _, rfl, rfl, Nat.zero_le _, ⟨by simp [go_sem], by simp [go_sem], byteRow_nil _ _, by simp [Value.ownBlock], Nat.le_refl _⟩, by go_grown⟩
 case round =>
  obtain ⟨j, out, V, hj, rfl, hout, hol, hO, hb⟩ := hrel
  obtain ⟨A3, c3, rfl⟩ := own_form hO.out.r
  by_cases hlt : j < L
  ·have hltr : j < l.length := by rw [HL.out]; exact hlt
   obtain ⟨e, he⟩ : ∃ e, l[j]? = some e := ⟨_, List.getElem?_eq_getElem hltr⟩
   have hef := hf e (mem_of_at he)
   have hokj := hok e (mem_of_at he)
   obtain ⟨bb, off, lv, kv, rfl, -, hc0, hin0⟩ := HVS.out.at he
   have hc := hc0.keep hb
   have hin := hin0.below hb
   obtain ⟨e0, e1, e2, e3, e4, e5, e6, e7, e8, e9⟩ := hc
   have hwat := wireAll_at he
   rw [hout.out] at hwat
   have HWA := Lib.hid hwat
   have HIN := Lib.hid hin0
   obtain ⟨A1, c1, A2, c2, rfl, rfl⟩ := hin.forms
   have HEF := Lib.hid hef
   have hnew := Lib.hid (evCells_new wr e (.slice A1 e.ty.labels.length c1) (.slice A2 e.ty.kids.length c2))
   have hqo : (Value.slice A3 out.length c3).ownBlock ≠ some wr.heap.size := fun e' => by have := (hO.out.r.lt _ e').2; omega
   have hpq : w.heap.size ≠ wr.heap.size := by have := hO.out.lt; omega
   have hqp : wr.heap.size ≠ w.heap.size := fun h => hpq h.symm
   have hszr := hb.size
   have hok := evOk_of hokj
   have hlw := Lib.hid (wireOf_len hok HEF.out)
   clear hwat he hin hin0 hc0 hef hout hokj
   cases hok with
   | num k vn vt ty lb hk =>
    dsimp only at e0 e1 e2 e3 e4 e5 e6 e7 e8 e9 HIN hnew
    rcases hk with rfl | rfl
    ·have hvn1 := HEF.out.n1
     have hvn2 := HEF.out.n2
     simp only at hvn1 hvn2
     by_cases hpos : (0 : Int) ≤ vn
     ·have B0 : Below wr.heap.size wr (wr.alloc (.cells (evCells (⟨2, 1, vn, vt, ty, lb⟩ : Ev) (.slice A1 ty.labels.length c1) (.slice A2 ty.kids.length c2)) 32)) := by go_grown
      have hO1 := hO.out.keep B0
      have hbw1 := hb.trans (B0.mono hszr)
      have hs1 := hbw1.size
      have hx1 := hnew.out
      have HW1 := Lib.hid (And.intro hO1 (And.intro hbw1 (And.intro hs1 (And.intro hx1 B0))))
      clear B0 hO1 hbw1 hs1 hx1
      go_wp2_with (first | ((with_reducible change wpList _ _ _ (_ :: _ :: _ :: _ :: _ :: _ :: _ :: []) _ (World.alloc _ _)); generalize wr.alloc (.cells (evCells (⟨2, 1, vn, vt, ty, lb⟩ : Ev) (.slice A1 ty.labels.length c1) (.slice A2 ty.kids.length c2)) 32) = W1 at HW1 hnew ⊢; obtain ⟨hO1, hbw1, hs1, hx1, B0⟩ := HW1.out; clear HW1; have y0 := hO1.c; have y1 := hO1.f; obtain ⟨b0, b1, b2, b3, b4, b5, b6, b7, b8, b9⟩ := hx1.box) | (at_builtin; (refine wpList_app1 rt_bytes W1 (.int .u8 2) rfl (.tmp 19) (.tmp 23) rfl w.heap.size (.slice A3 (out.length) c3) out.length (Lib.byteCells out) rfl hO1.r rfl rfl (by simp; omega) (by simp; omega) hs1 ?_; intro v3 w3 o1 o2 o3 o4; have hx3 := wbox_app hx1 o2 hqo; have hq3 : v3.ownBlock ≠ some wr.heap.size := wrow_other hqo hx1.lt o3; obtain ⟨yy0, yy1, hO3⟩ := hO1.one (K := 2) o2 (byteRow_one o1 rfl) o3; obtain ⟨AA3, cc3, rfl⟩ := own_form o1; (try simp only [List.length_append, List.length_singleton] at hO3); (try simp only [List.length_append, List.length_singleton] at hq3); have hbw3 := (hbw1.trans o4).setCell (p := ⟨w.heap.size, 0, none⟩) (Nat.le_refl _) (.slice AA3 (out.length + 1) cc3); clear o1 o2 o3 o4 b0 b1 b2 b3 b4 b5 b6 b7 b8 b9 y0 y1; obtain ⟨b0, b1, b2, b3, b4, b5, b6, b7, b8, b9⟩ := hx3.box)) | ((with_reducible change wpList _ _ _ (_ :: _ :: []) _ (World.setCell _ _ _)); have hxx3 := hx3.beside (u := (.slice AA3 (out.length + 1) cc3)) hqp; have hs3 := hbw3.size; clear yy0 yy1 hx3 b0 b1 b2 b3 b4 b5 b6 b7 b8 b9; generalize w3.setCell ⟨w.heap.size, 0, none⟩ (.slice AA3 (out.length + 1) cc3) = W3 at hO3 hbw3 hxx3 hs3 ⊢; obtain ⟨b0, b1, b2, b3, b4, b5, b6, b7, b8, b9⟩ := hxx3.box; have y0 := hO3.c; have y1 := hO3.f) | (at_builtin; (refine wpList_app1 rt_bytes W3 (.int .u8 1) rfl (.tmp 34) (.tmp 39) rfl w.heap.size (.slice AA3 (out.length + 1) cc3) (out ++ [2]).length (Lib.byteCells (out ++ [2])) rfl hO3.r rfl rfl (by simp; omega) (by simp; omega) hs3 ?_; intro v4 w4 o1 o2 o3 o4; have hx4 := wbox_app hxx3 o2 hq3; have hq4 : v4.ownBlock ≠ some wr.heap.size := wrow_other hq3 hxx3.lt o3; obtain ⟨yy0, yy1, hO4⟩ := hO3.one (K := 1) o2 (byteRow_one o1 rfl) o3; obtain ⟨AA4, cc4, rfl⟩ := own_form o1; (try simp only [List.length_append, List.length_singleton] at hO4); (try simp only [List.length_append, List.length_singleton] at hq4); have hbw4 := (hbw3.trans o4).setCell (p := ⟨w.heap.size, 0, none⟩) (Nat.le_refl _) (.slice AA4 (out.length + 1 + 1) cc4); clear o1 o2 o3 o4 b0 b1 b2 b3 b4 b5 b6 b7 b8 b9 y0 y1; obtain ⟨b0, b1, b2, b3, b4, b5, b6, b7, b8, b9⟩ := hx4.box)) | ((with_reducible change wpList _ _ _ (_ :: _ :: _ :: _ :: []) _ (World.setCell _ _ _)); have hxx4 := hx4.beside (u := (.slice AA4 (out.length + 1 + 1) cc4)) hqp; have hs4 := hbw4.size; clear yy0 yy1 hx4 b0 b1 b2 b3 b4 b5 b6 b7 b8 b9; generalize w4.setCell ⟨w.heap.size, 0, none⟩ (.slice AA4 (out.length + 1 + 1) cc4) = W4 at hO4 hbw4 hxx4 hs4 ⊢; obtain ⟨b0, b1, b2, b3, b4, b5, b6, b7, b8, b9⟩ := hxx4.box; have y0 := hO4.c; have y1 := hO4.f))
      clear b0 b1 b2 b3 b4 b5 b6 b7 b8 b9 y0 y1
      have hm := zig_lt hvn1 hvn2
      have BX := Lib.hid hO4
      have hcl : (out ++ [2] ++ [1]).length = out.length + 1 + 1 := by simp
      have HN := Lib.hid (NEQ1 vn hvn1 hvn2 hpos)
      have HSd := Lib.hid (show (fun w' : World => w'.cell? ⟨w.heap.size, 0, none⟩ = some (.slice AA4 (out.length + 1 + 1) cc4)) W4.drew from BX.out.c)
      refine wp_region_T 6 (fun w' : World => w'.cell? ⟨w.heap.size, 0, none⟩ = some (.slice AA4 (out.length + 1 + 1) cc4)) (by kernel_rfl) ?_
      refine zT 0 ?_ rfl (Or.inl ⟨by rfl, ?_⟩) HSd.out ?_
      rotate_left
      ·(intro wq hSw; have z6 : wq.cell? ⟨w.heap.size, 0, none⟩ = some (.slice AA4 (out.length + 1 + 1) cc4) := hSw; go_simp; all_goals (first | (with_reducible rfl) | (rw [zI])))
      simp only [zA, zB, zC, Act.put, zD, zE, zF]
      refine zT 1 ?_ rfl (Or.inl ⟨by rfl, ?_⟩) HSd.out ?_
      rotate_left
      ·(intro wq hSw; have z6 : wq.cell? ⟨w.heap.size, 0, none⟩ = some (.slice AA4 (out.length + 1 + 1) cc4) := hSw; go_simp; all_goals (first | (with_reducible rfl) | (rw [zI])))
      simp only [zA, zB, zC, Act.put, zD, zE, zF]
      refine zT 2 ?_ rfl (Or.inl ⟨by rfl, ?_⟩) HSd.out ?_
      rotate_left
      ·(intro wq hSw; have z6 : wq.cell? ⟨w.heap.size, 0, none⟩ = some (.slice AA4 (out.length + 1 + 1) cc4) := hSw; go_simp; all_goals (first | (with_reducible rfl) | (rw [zI])))
      simp only [zA, zB, zC, Act.put, zD, zE, zF]
      refine zT 3 ?_ rfl (Or.inl ⟨by rfl, ?_⟩) HSd.out ?_
      rotate_left
      ·(intro wq hSw; have z6 : wq.cell? ⟨w.heap.size, 0, none⟩ = some (.slice AA4 (out.length + 1 + 1) cc4) := hSw; go_simp; all_goals (first | (with_reducible rfl) | (rw [zI])))
      simp only [zA, zB, zC, Act.put, zD, zE, zF]
      rw [HN.out]
      refine zO 4 fun K hK => ?_
      go_simp
      refine (groups_any (zig vn) W4.drew hm).mono ?_
      rintro e w10 ⟨⟨vg, rfl, hg⟩, hbg⟩
      have hbg' : Below W4.heap.size W4 w10 := chain (Below.refl W4.heap.size W4).drew hbg
      have hx10 := BX.out.keep hbg'
      refine hK.out _ _ (fun _ => hx10.c) ?_
      clear hK K
      try simp only [zA, zB, zC, Act.put, zD, zE, zF]
      obtain ⟨gb, gc, rfl, hgs⟩ := byteRow_at hg (gnum_ne _)
      have hgl := gnum_len10 hm
      refine zO 5 fun K hK => ?_
      refine step_app rt_bytes rfl (.tmp 76) (.tmp 80) rfl w.heap.size (.slice AA4 (out.length + 1 + 1) cc4) (out ++ [2] ++ [1]).length (Lib.byteCells (out ++ [2] ++ [1])) rfl hx10.r ⟨gb, 0, none⟩ (gnum (zig vn)).length gc (Lib.byteCells (gnum (zig vn))) rfl (by rw [byteCells_length, Nat.mul_one]) hgs (byteCells_one _) (by unfold maxLen; omega) (by omega) (by have := hbg'.size; omega) (fun v3 w30 o1 o2 o3 o4 => ?_)
      obtain ⟨hc3, hf3⟩ := hx10.grown o2
      obtain ⟨A5, c5, rfl⟩ := own_form o1
      refine hK.out _ _ (fun _ => hc3) ?_
      clear hK K
      try simp only [zA, zB, zC, Act.put, zD, zE, zF]
      refine zO 6 fun K hK => ?_
      go_simp
      refine hK.out _ _ (fun h => absurd h (by decide)) ?_
      clear hK K
      try simp only [zA, zB, zC, Act.put, zD, zE, zF]
      refine wpT_done (by kernel_rfl) ?_
      have hx30 : OBx (w30.setCell ⟨w.heap.size, 0, none⟩ (.slice A5 ((out ++ [2] ++ [1]).length + (gnum (zig vn)).length) c5)) w.heap.size w.heap.size (.slice A5 ((out ++ [2] ++ [1]).length + (gnum (zig vn)).length) c5) ((out ++ [2] ++ [1]) ++ gnum (zig vn)) := hx10.put o2 (byteRow_app o1) (fun e => by rcases o3 with o3 | o3; exact hx10.n (o3.symm.trans e); rw [o3] at e; injection e with e; have := hx10.lt; omega)
      have hcl2 : (out ++ [2] ++ [1]).length = out.length + 2 := hcl
      rw [hcl2] at hx30
      have hbw5 := ((hbw4.trans (hbg'.mono hs4)).trans o4).setCell (p := ⟨w.heap.size, 0, none⟩) (Nat.le_refl _) (.slice A5 (out.length + 2 + (gnum (zig vn)).length) c5)
      generalize w30.setCell ⟨w.heap.size, 0, none⟩ (.slice A5 (out.length + 2 + (gnum (zig vn)).length) c5) = W5 at hx30 hbw5 ⊢
      clear o1 o2 o3 o4 hc3 hf3 hx10 hgs hg hbg hbg' HSd BX
      have hrow := hx30
      rw [show out ++ [2] ++ [1] ++ gnum (zig vn) = out ++ wireOf (⟨2, 1, vn, vt, ty, lb⟩ : Ev) by rw [wo_num2 vn vt ty lb]; simp] at hrow
      have hlen : (out ++ wireOf (⟨2, 1, vn, vt, ty, lb⟩ : Ev)).length ≤ (j + 1) * 7000 := by rw [List.length_append]; have := hlw.out; omega
      go_wp2_with fail
      go_roundw
      case rel => exact ⟨j + 1, out ++ wireOf (⟨2, 1, vn, vt, ty, lb⟩ : Ev), _, by omega, by go_num, HWA, hlen, hrow, hbw5⟩
      case measure => simp [intOf] <;> omega

     ·have B0 : Below wr.heap.size wr (wr.alloc (.cells (evCells (⟨2, 1, vn, vt, ty, lb⟩ : Ev) (.slice A1 ty.labels.length c1) (.slice A2 ty.kids.length c2)) 32)) := by go_grown
      have hO1 := hO.out.keep B0
      have hbw1 := hb.trans (B0.mono hszr)
      have hs1 := hbw1.size
      have hx1 := hnew.out
      have HW1 := Lib.hid (And.intro hO1 (And.intro hbw1 (And.intro hs1 (And.intro hx1 B0))))
      clear B0 hO1 hbw1 hs1 hx1
      go_wp2_with (first | ((with_reducible change wpList _ _ _ (_ :: _ :: _ :: _ :: _ :: _ :: _ :: []) _ (World.alloc _ _)); generalize wr.alloc (.cells (evCells (⟨2, 1, vn, vt, ty, lb⟩ : Ev) (.slice A1 ty.labels.length c1) (.slice A2 ty.kids.length c2)) 32) = W1 at HW1 hnew ⊢; obtain ⟨hO1, hbw1, hs1, hx1, B0⟩ := HW1.out; clear HW1; have y0 := hO1.c; have y1 := hO1.f; obtain ⟨b0, b1, b2, b3, b4, b5, b6, b7, b8, b9⟩ := hx1.box) | (at_builtin; (refine wpList_app1 rt_bytes W1 (.int .u8 2) rfl (.tmp 19) (.tmp 23) rfl w.heap.size (.slice A3 (out.length) c3) out.length (Lib.byteCells out) rfl hO1.r rfl rfl (by simp; omega) (by simp; omega) hs1 ?_; intro v3 w3 o1 o2 o3 o4; have hx3 := wbox_app hx1 o2 hqo; have hq3 : v3.ownBlock ≠ some wr.heap.size := wrow_other hqo hx1.lt o3; obtain ⟨yy0, yy1, hO3⟩ := hO1.one (K := 2) o2 (byteRow_one o1 rfl) o3; obtain ⟨AA3, cc3, rfl⟩ := own_form o1; (try simp only [List.length_append, List.length_singleton] at hO3); (try simp only [List.length_append, List.length_singleton] at hq3); have hbw3 := (hbw1.trans o4).setCell (p := ⟨w.heap.size, 0, none⟩) (Nat.le_refl _) (.slice AA3 (out.length + 1) cc3); clear o1 o2 o3 o4 b0 b1 b2 b3 b4 b5 b6 b7 b8 b9 y0 y1; obtain ⟨b0, b1, b2, b3, b4, b5, b6, b7, b8, b9⟩ := hx3.box)) | ((with_reducible change wpList _ _ _ (_ :: _ :: []) _ (World.setCell _ _ _)); have hxx3 := hx3.beside (u := (.slice AA3 (out.length + 1) cc3)) hqp; have hs3 := hbw3.size; clear yy0 yy1 hx3 b0 b1 b2 b3 b4 b5 b6 b7 b8 b9; generalize w3.setCell ⟨w.heap.size, 0, none⟩ (.slice AA3 (out.length + 1) cc3) = W3 at hO3 hbw3 hxx3 hs3 ⊢; obtain ⟨b0, b1, b2, b3, b4, b5, b6, b7, b8, b9⟩ := hxx3.box; have y0 := hO3.c; have y1 := hO3.f) | (at_builtin; (refine wpList_app1 rt_bytes W3 (.int .u8 1) rfl (.tmp 34) (.tmp 39) rfl w.heap.size (.slice AA3 (out.length + 1) cc3) (out ++ [2]).length (Lib.byteCells (out ++ [2])) rfl hO3.r rfl rfl (by simp; omega) (by simp; omega) hs3 ?_; intro v4 w4 o1 o2 o3 o4; have hx4 := wbox_app hxx3 o2 hq3; have hq4 : v4.ownBlock ≠ some wr.heap.size := wrow_other hq3 hxx3.lt o3; obtain ⟨yy0, yy1, hO4⟩ := hO3.one (K := 1) o2 (byteRow_one o1 rfl) o3; obtain ⟨AA4, cc4, rfl⟩ := own_form o1; (try simp only [List.length_append, List.length_singleton] at hO4); (try simp only [List.length_append, List.length_singleton] at hq4); have hbw4 := (hbw3.trans o4).setCell (p := ⟨w.heap.size, 0, none⟩) (Nat.le_refl _) (.slice AA4 (out.length + 1 + 1) cc4); clear o1 o2 o3 o4 b0 b1 b2 b3 b4 b5 b6 b7 b8 b9 y0 y1; obtain ⟨b0, b1, b2, b3, b4, b5, b6, b7, b8, b9⟩ := hx4.box)) | ((with_reducible change wpList _ _ _ (_ :: _ :: _ :: _ :: []) _ (World.setCell _ _ _)); have hxx4 := hx4.beside (u := (.slice AA4 (out.length + 1 + 1) cc4)) hqp; have hs4 := hbw4.size; clear yy0 yy1 hx4 b0 b1 b2 b3 b4 b5 b6 b7 b8 b9; generalize w4.setCell ⟨w.heap.size, 0, none⟩ (.slice AA4 (out.length + 1 + 1) cc4) = W4 at hO4 hbw4 hxx4 hs4 ⊢; obtain ⟨b0, b1, b2, b3, b4, b5, b6, b7, b8, b9⟩ := hxx4.box; have y0 := hO4.c; have y1 := hO4.f))
      clear b0 b1 b2 b3 b4 b5 b6 b7 b8 b9 y0 y1
      have hm := zig_lt hvn1 hvn2
      have BX := Lib.hid hO4
      have hcl : (out ++ [2] ++ [1]).length = out.length + 1 + 1 := by simp
      have HN := Lib.hid (NEQ0 vn hvn1 hvn2 hpos)
      have HSd := Lib.hid (show (fun w' : World => w'.cell? ⟨w.heap.size, 0, none⟩ = some (.slice AA4 (out.length + 1 + 1) cc4)) W4.drew from BX.out.c)
      refine wp_region_T 9 (fun w' : World => w'.cell? ⟨w.heap.size, 0, none⟩ = some (.slice AA4 (out.length + 1 + 1) cc4)) (by kernel_rfl) ?_
      refine zT 0 ?_ rfl (Or.inl ⟨by rfl, ?_⟩) HSd.out ?_
      rotate_left
      ·(intro wq hSw; have z6 : wq.cell? ⟨w.heap.size, 0, none⟩ = some (.slice AA4 (out.length + 1 + 1) cc4) := hSw; go_simp; all_goals (first | (with_reducible rfl) | (rw [zI])))
      simp only [zA, zB, zC, Act.put, zD, zE, zF]
      refine zT 1 ?_ rfl (Or.inl ⟨by rfl, ?_⟩) HSd.out ?_
      rotate_left
      ·(intro wq hSw; have z6 : wq.cell? ⟨w.heap.size, 0, none⟩ = some (.slice AA4 (out.length + 1 + 1) cc4) := hSw; go_simp; all_goals (first | (with_reducible rfl) | (rw [zI])))
      simp only [zA, zB, zC, Act.put, zD, zE, zF]
      refine zT 2 ?_ rfl (Or.inl ⟨by rfl, ?_⟩) HSd.out ?_
      rotate_left
      ·(intro wq hSw; have z6 : wq.cell? ⟨w.heap.size, 0, none⟩ = some (.slice AA4 (out.length + 1 + 1) cc4) := hSw; go_simp; all_goals (first | (with_reducible rfl) | (rw [zI])))
      simp only [zA, zB, zC, Act.put, zD, zE, zF]
      refine zT 3 ?_ rfl (Or.inl ⟨by rfl, ?_⟩) HSd.out ?_
      rotate_left
      ·(intro wq hSw; have z6 : wq.cell? ⟨w.heap.size, 0, none⟩ = some (.slice AA4 (out.length + 1 + 1) cc4) := hSw; go_simp; all_goals (first | (with_reducible rfl) | (rw [zI])))
      simp only [zA, zB, zC, Act.put, zD, zE, zF]
      refine zT 4 ?_ rfl (Or.inl ⟨by rfl, ?_⟩) HSd.out ?_
      rotate_left
      ·(intro wq hSw; have z6 : wq.cell? ⟨w.heap.size, 0, none⟩ = some (.slice AA4 (out.length + 1 + 1) cc4) := hSw; go_simp; all_goals (first | (with_reducible rfl) | (rw [zI])))
      simp only [zA, zB, zC, Act.put, zD, zE, zF]
      refine zT 5 ?_ rfl (Or.inl ⟨by rfl, ?_⟩) HSd.out ?_
      rotate_left
      ·(intro wq hSw; have z6 : wq.cell? ⟨w.heap.size, 0, none⟩ = some (.slice AA4 (out.length + 1 + 1) cc4) := hSw; go_simp; all_goals (first | (with_reducible rfl) | (rw [zI])))
      simp only [zA, zB, zC, Act.put, zD, zE, zF]
      refine zT 6 ?_ rfl (Or.inl ⟨by rfl, ?_⟩) HSd.out ?_
      rotate_left
      ·(intro wq hSw; have z6 : wq.cell? ⟨w.heap.size, 0, none⟩ = some (.slice AA4 (out.length + 1 + 1) cc4) := hSw; go_simp; all_goals (first | (with_reducible rfl) | (rw [zI])))
      simp only [zA, zB, zC, Act.put, zD, zE, zF]
      rw [HN.out]
      refine zO 7 fun K hK => ?_
      go_simp
      refine (groups_any (zig vn) W4.drew hm).mono ?_
      rintro e w10 ⟨⟨vg, rfl, hg⟩, hbg⟩
      have hbg' : Below W4.heap.size W4 w10 := chain (Below.refl W4.heap.size W4).drew hbg
      have hx10 := BX.out.keep hbg'
      refine hK.out _ _ (fun _ => hx10.c) ?_
      clear hK K
      try simp only [zA, zB, zC, Act.put, zD, zE, zF]
      obtain ⟨gb, gc, rfl, hgs⟩ := byteRow_at hg (gnum_ne _)
      have hgl := gnum_len10 hm
      refine zO 8 fun K hK => ?_
      refine step_app rt_bytes rfl (.tmp 44) (.tmp 51) rfl w.heap.size (.slice AA4 (out.length + 1 + 1) cc4) (out ++ [2] ++ [1]).length (Lib.byteCells (out ++ [2] ++ [1])) rfl hx10.r ⟨gb, 0, none⟩ (gnum (zig vn)).length gc (Lib.byteCells (gnum (zig vn))) rfl (by rw [byteCells_length, Nat.mul_one]) hgs (byteCells_one _) (by unfold maxLen; omega) (by omega) (by have := hbg'.size; omega) (fun v3 w30 o1 o2 o3 o4 => ?_)
      obtain ⟨hc3, hf3⟩ := hx10.grown o2
      obtain ⟨A5, c5, rfl⟩ := own_form o1
      refine hK.out _ _ (fun _ => hc3) ?_
      clear hK K
      try simp only [zA, zB, zC, Act.put, zD, zE, zF]
      refine zO 9 fun K hK => ?_
      go_simp
      refine hK.out _ _ (fun h => absurd h (by decide)) ?_
      clear hK K
      try simp only [zA, zB, zC, Act.put, zD, zE, zF]
      refine wpT_done (by kernel_rfl) ?_
      have hx30 : OBx (w30.setCell ⟨w.heap.size, 0, none⟩ (.slice A5 ((out ++ [2] ++ [1]).length + (gnum (zig vn)).length) c5)) w.heap.size w.heap.size (.slice A5 ((out ++ [2] ++ [1]).length + (gnum (zig vn)).length) c5) ((out ++ [2] ++ [1]) ++ gnum (zig vn)) := hx10.put o2 (byteRow_app o1) (fun e => by rcases o3 with o3 | o3; exact hx10.n (o3.symm.trans e); rw [o3] at e; injection e with e; have := hx10.lt; omega)
      have hcl2 : (out ++ [2] ++ [1]).length = out.length + 2 := hcl
      rw [hcl2] at hx30
      have hbw5 := ((hbw4.trans (hbg'.mono hs4)).trans o4).setCell (p := ⟨w.heap.size, 0, none⟩) (Nat.le_refl _) (.slice A5 (out.length + 2 + (gnum (zig vn)).length) c5)
      generalize w30.setCell ⟨w.heap.size, 0, none⟩ (.slice A5 (out.length + 2 + (gnum (zig vn)).length) c5) = W5 at hx30 hbw5 ⊢
      clear o1 o2 o3 o4 hc3 hf3 hx10 hgs hg hbg hbg' HSd BX
      have hrow := hx30
      rw [show out ++ [2] ++ [1] ++ gnum (zig vn) = out ++ wireOf (⟨2, 1, vn, vt, ty, lb⟩ : Ev) by rw [wo_num2 vn vt ty lb]; simp] at hrow
      have hlen : (out ++ wireOf (⟨2, 1, vn, vt, ty, lb⟩ : Ev)).length ≤ (j + 1) * 7000 := by rw [List.length_append]; have := hlw.out; omega
      go_wp2_with fail
      go_roundw
      case rel => exact ⟨j + 1, out ++ wireOf (⟨2, 1, vn, vt, ty, lb⟩ : Ev), _, by omega, by go_num, HWA, hlen, hrow, hbw5⟩
      case measure => simp [intOf] <;> omega


    ·have hvn1 := HEF.out.n1
     have hvn2 := HEF.out.n2
     simp only at hvn1 hvn2
     by_cases hpos : (0 : Int) ≤ vn
     ·have B0 : Below wr.heap.size wr (wr.alloc (.cells (evCells (⟨3, 1, vn, vt, ty, lb⟩ : Ev) (.slice A1 ty.labels.length c1) (.slice A2 ty.kids.length c2)) 32)) := by go_grown
      have hO1 := hO.out.keep B0
      have hbw1 := hb.trans (B0.mono hszr)
      have hs1 := hbw1.size
      have hx1 := hnew.out
      have HW1 := Lib.hid (And.intro hO1 (And.intro hbw1 (And.intro hs1 (And.intro hx1 B0))))
      clear B0 hO1 hbw1 hs1 hx1
      go_wp2_with (first | ((with_reducible change wpList _ _ _ (_ :: _ :: _ :: _ :: _ :: _ :: _ :: []) _ (World.alloc _ _)); generalize wr.alloc (.cells (evCells (⟨3, 1, vn, vt, ty, lb⟩ : Ev) (.slice A1 ty.labels.length c1) (.slice A2 ty.kids.length c2)) 32) = W1 at HW1 hnew ⊢; obtain ⟨hO1, hbw1, hs1, hx1, B0⟩ := HW1.out; clear HW1; have y0 := hO1.c; have y1 := hO1.f; obtain ⟨b0, b1, b2, b3, b4, b5, b6, b7, b8, b9⟩ := hx1.box) | (at_builtin; (refine wpList_app1 rt_bytes W1 (.int .u8 3) rfl (.tmp 19) (.tmp 23) rfl w.heap.size (.slice A3 (out.length) c3) out.length (Lib.byteCells out) rfl hO1.r rfl rfl (by simp; omega) (by simp; omega) hs1 ?_; intro v3 w3 o1 o2 o3 o4; have hx3 := wbox_app hx1 o2 hqo; have hq3 : v3.ownBlock ≠ some wr.heap.size := wrow_other hqo hx1.lt o3; obtain ⟨yy0, yy1, hO3⟩ := hO1.one (K := 3) o2 (byteRow_one o1 rfl) o3; obtain ⟨AA3, cc3, rfl⟩ := own_form o1; (try simp only [List.length_append, List.length_singleton] at hO3); (try simp only [List.length_append, List.length_singleton] at hq3); have hbw3 := (hbw1.trans o4).setCell (p := ⟨w.heap.size, 0, none⟩) (Nat.le_refl _) (.slice AA3 (out.length + 1) cc3); clear o1 o2 o3 o4 b0 b1 b2 b3 b4 b5 b6 b7 b8 b9 y0 y1; obtain ⟨b0, b1, b2, b3, b4, b5, b6, b7, b8, b9⟩ := hx3.box)) | ((with_reducible change wpList _ _ _ (_ :: _ :: []) _ (World.setCell _ _ _)); have hxx3 := hx3.beside (u := (.slice AA3 (out.length + 1) cc3)) hqp; have hs3 := hbw3.size; clear yy0 yy1 hx3 b0 b1 b2 b3 b4 b5 b6 b7 b8 b9; generalize w3.setCell ⟨w.heap.size, 0, none⟩ (.slice AA3 (out.length + 1) cc3) = W3 at hO3 hbw3 hxx3 hs3 ⊢; obtain ⟨b0, b1, b2, b3, b4, b5, b6, b7, b8, b9⟩ := hxx3.box; have y0 := hO3.c; have y1 := hO3.f) | (at_builtin; (refine wpList_app1 rt_bytes W3 (.int .u8 1) rfl (.tmp 34) (.tmp 39) rfl w.heap.size (.slice AA3 (out.length + 1) cc3) (out ++ [3]).length (Lib.byteCells (out ++ [3])) rfl hO3.r rfl rfl (by simp; omega) (by simp; omega) hs3 ?_; intro v4 w4 o1 o2 o3 o4; have hx4 := wbox_app hxx3 o2 hq3; have hq4 : v4.ownBlock ≠ some wr.heap.size := wrow_other hq3 hxx3.lt o3; obtain ⟨yy0, yy1, hO4⟩ := hO3.one (K := 1) o2 (byteRow_one o1 rfl) o3; obtain ⟨AA4, cc4, rfl⟩ := own_form o1; (try simp only [List.length_append, List.length_singleton] at hO4); (try simp only [List.length_append, List.length_singleton] at hq4); have hbw4 := (hbw3.trans o4).setCell (p := ⟨w.heap.size, 0, none⟩) (Nat.le_refl _) (.slice AA4 (out.length + 1 + 1) cc4); clear o1 o2 o3 o4 b0 b1 b2 b3 b4 b5 b6 b7 b8 b9 y0 y1; obtain ⟨b0, b1, b2, b3, b4, b5, b6, b7, b8, b9⟩ := hx4.box)) | ((with_reducible change wpList _ _ _ (_ :: _ :: _ :: _ :: []) _ (World.setCell _ _ _)); have hxx4 := hx4.beside (u := (.slice AA4 (out.length + 1 + 1) cc4)) hqp; have hs4 := hbw4.size; clear yy0 yy1 hx4 b0 b1 b2 b3 b4 b5 b6 b7 b8 b9; generalize w4.setCell ⟨w.heap.size, 0, none⟩ (.slice AA4 (out.length + 1 + 1) cc4) = W4 at hO4 hbw4 hxx4 hs4 ⊢; obtain ⟨b0, b1, b2, b3, b4, b5, b6, b7, b8, b9⟩ := hxx4.box; have y0 := hO4.c; have y1 := hO4.f))
      clear b0 b1 b2 b3 b4 b5 b6 b7 b8 b9 y0 y1
      have hm := zig_lt hvn1 hvn2
      have BX := Lib.hid hO4
      have hcl : (out ++ [3] ++ [1]).length = out.length + 1 + 1 := by simp
      have HN := Lib.hid (NEQ1 vn hvn1 hvn2 hpos)
      have HSd := Lib.hid (show (fun w' : World => w'.cell? ⟨w.heap.size, 0, none⟩ = some (.slice AA4 (out.length + 1 + 1) cc4)) W4.drew from BX.out.c)
      refine wp_region_T 6 (fun w' : World => w'.cell? ⟨w.heap.size, 0, none⟩ = some (.slice AA4 (out.length + 1 + 1) cc4)) (by kernel_rfl) ?_
      refine zT 0 ?_ rfl (Or.inl ⟨by rfl, ?_⟩) HSd.out ?_
      rotate_left
      ·(intro wq hSw; have z6 : wq.cell? ⟨w.heap.size, 0, none⟩ = some (.slice AA4 (out.length + 1 + 1) cc4) := hSw; go_simp; all_goals (first | (with_reducible rfl) | (rw [zI])))
      simp only [zA, zB, zC, Act.put, zD, zE, zF]
      refine zT 1 ?_ rfl (Or.inl ⟨by rfl, ?_⟩) HSd.out ?_
      rotate_left
      ·(intro wq hSw; have z6 : wq.cell? ⟨w.heap.size, 0, none⟩ = some (.slice AA4 (out.length + 1 + 1) cc4) := hSw; go_simp; all_goals (first | (with_reducible rfl) | (rw [zI])))
      simp only [zA, zB, zC, Act.put, zD, zE, zF]
      refine zT 2 ?_ rfl (Or.inl ⟨by rfl, ?_⟩) HSd.out ?_
      rotate_left
      ·(intro wq hSw; have z6 : wq.cell? ⟨w.heap.size, 0, none⟩ = some (.slice AA4 (out.length + 1 + 1) cc4) := hSw; go_simp; all_goals (first | (with_reducible rfl) | (rw [zI])))
      simp only [zA, zB, zC, Act.put, zD, zE, zF]
      refine zT 3 ?_ rfl (Or.inl ⟨by rfl, ?_⟩) HSd.out ?_
      rotate_left
      ·(intro wq hSw; have z6 : wq.cell? ⟨w.heap.size, 0, none⟩ = some (.slice AA4 (out.length + 1 + 1) cc4) := hSw; go_simp; all_goals (first | (with_reducible rfl) | (rw [zI])))
      simp only [zA, zB, zC, Act.put, zD, zE, zF]
      rw [HN.out]
      refine zO 4 fun K hK => ?_
      go_simp
      refine (groups_any (zig vn) W4.drew hm).mono ?_
      rintro e w10 ⟨⟨vg, rfl, hg⟩, hbg⟩
      have hbg' : Below W4.heap.size W4 w10 := chain (Below.refl W4.heap.size W4).drew hbg
      have hx10 := BX.out.keep hbg'
      refine hK.out _ _ (fun _ => hx10.c) ?_
      clear hK K
      try simp only [zA, zB, zC, Act.put, zD, zE, zF]
      obtain ⟨gb, gc, rfl, hgs⟩ := byteRow_at hg (gnum_ne _)
      have hgl := gnum_len10 hm
      refine zO 5 fun K hK => ?_
      refine step_app rt_bytes rfl (.tmp 76) (.tmp 80) rfl w.heap.size (.slice AA4 (out.length + 1 + 1) cc4) (out ++ [3] ++ [1]).length (Lib.byteCells (out ++ [3] ++ [1])) rfl hx10.r ⟨gb, 0, none⟩ (gnum (zig vn)).length gc (Lib.byteCells (gnum (zig vn))) rfl (by rw [byteCells_length, Nat.mul_one]) hgs (byteCells_one _) (by unfold maxLen; omega) (by omega) (by have := hbg'.size; omega) (fun v3 w30 o1 o2 o3 o4 => ?_)
      obtain ⟨hc3, hf3⟩ := hx10.grown o2
      obtain ⟨A5, c5, rfl⟩ := own_form o1
      refine hK.out _ _ (fun _ => hc3) ?_
      clear hK K
      try simp only [zA, zB, zC, Act.put, zD, zE, zF]
      refine zO 6 fun K hK => ?_
      go_simp
      refine hK.out _ _ (fun h => absurd h (by decide)) ?_
      clear hK K
      try simp only [zA, zB, zC, Act.put, zD, zE, zF]
      refine wpT_done (by kernel_rfl) ?_
      have hx30 : OBx (w30.setCell ⟨w.heap.size, 0, none⟩ (.slice A5 ((out ++ [3] ++ [1]).length + (gnum (zig vn)).length) c5)) w.heap.size w.heap.size (.slice A5 ((out ++ [3] ++ [1]).length + (gnum (zig vn)).length) c5) ((out ++ [3] ++ [1]) ++ gnum (zig vn)) := hx10.put o2 (byteRow_app o1) (fun e => by rcases o3 with o3 | o3; exact hx10.n (o3.symm.trans e); rw [o3] at e; injection e with e; have := hx10.lt; omega)
      have hcl2 : (out ++ [3] ++ [1]).length = out.length + 2 := hcl
      rw [hcl2] at hx30
      have hbw5 := ((hbw4.trans (hbg'.mono hs4)).trans o4).setCell (p := ⟨w.heap.size, 0, none⟩) (Nat.le_refl _) (.slice A5 (out.length + 2 + (gnum (zig vn)).length) c5)
      generalize w30.setCell ⟨w.heap.size, 0, none⟩ (.slice A5 (out.length + 2 + (gnum (zig vn)).length) c5) = W5 at hx30 hbw5 ⊢
      clear o1 o2 o3 o4 hc3 hf3 hx10 hgs hg hbg hbg' HSd BX
      have hrow := hx30
      rw [show out ++ [3] ++ [1] ++ gnum (zig vn) = out ++ wireOf (⟨3, 1, vn, vt, ty, lb⟩ : Ev) by rw [wo_num3 vn vt ty lb]; simp] at hrow
      have hlen : (out ++ wireOf (⟨3, 1, vn, vt, ty, lb⟩ : Ev)).length ≤ (j + 1) * 7000 := by rw [List.length_append]; have := hlw.out; omega
      go_wp2_with fail
      go_roundw
      case rel => exact ⟨j + 1, out ++ wireOf (⟨3, 1, vn, vt, ty, lb⟩ : Ev), _, by omega, by go_num, HWA, hlen, hrow, hbw5⟩
      case measure => simp [intOf] <;> omega

     ·have B0 : Below wr.heap.size wr (wr.alloc (.cells (evCells (⟨3, 1, vn, vt, ty, lb⟩ : Ev) (.slice A1 ty.labels.length c1) (.slice A2 ty.kids.length c2)) 32)) := by go_grown
      have hO1 := hO.out.keep B0
      have hbw1 := hb.trans (B0.mono hszr)
      have hs1 := hbw1.size
      have hx1 := hnew.out
      have HW1 := Lib.hid (And.intro hO1 (And.intro hbw1 (And.intro hs1 (And.intro hx1 B0))))
      clear B0 hO1 hbw1 hs1 hx1
      go_wp2_with (first | ((with_reducible change wpList _ _ _ (_ :: _ :: _ :: _ :: _ :: _ :: _ :: []) _ (World.alloc _ _)); generalize wr.alloc (.cells (evCells (⟨3, 1, vn, vt, ty, lb⟩ : Ev) (.slice A1 ty.labels.length c1) (.slice A2 ty.kids.length c2)) 32) = W1 at HW1 hnew ⊢; obtain ⟨hO1, hbw1, hs1, hx1, B0⟩ := HW1.out; clear HW1; have y0 := hO1.c; have y1 := hO1.f; obtain ⟨b0, b1, b2, b3, b4, b5, b6, b7, b8, b9⟩ := hx1.box) | (at_builtin; (refine wpList_app1 rt_bytes W1 (.int .u8 3) rfl (.tmp 19) (.tmp 23) rfl w.heap.size (.slice A3 (out.length) c3) out.length (Lib.byteCells out) rfl hO1.r rfl rfl (by simp; omega) (by simp; omega) hs1 ?_; intro v3 w3 o1 o2 o3 o4; have hx3 := wbox_app hx1 o2 hqo; have hq3 : v3.ownBlock ≠ some wr.heap.size := wrow_other hqo hx1.lt o3; obtain ⟨yy0, yy1, hO3⟩ := hO1.one (K := 3) o2 (byteRow_one o1 rfl) o3; obtain ⟨AA3, cc3, rfl⟩ := own_form o1; (try simp only [List.length_append, List.length_singleton] at hO3); (try simp only [List.length_append, List.length_singleton] at hq3); have hbw3 := (hbw1.trans o4).setCell (p := ⟨w.heap.size, 0, none⟩) (Nat.le_refl _) (.slice AA3 (out.length + 1) cc3); clear o1 o2 o3 o4 b0 b1 b2 b3 b4 b5 b6 b7 b8 b9 y0 y1; obtain ⟨b0, b1, b2, b3, b4, b5, b6, b7, b8, b9⟩ := hx3.box)) | ((with_reducible change wpList _ _ _ (_ :: _ :: []) _ (World.setCell _ _ _)); have hxx3 := hx3.beside (u := (.slice AA3 (out.length + 1) cc3)) hqp; have hs3 := hbw3.size; clear yy0 yy1 hx3 b0 b1 b2 b3 b4 b5 b6 b7 b8 b9; generalize w3.setCell ⟨w.heap.size, 0, none⟩ (.slice AA3 (out.length + 1) cc3) = W3 at hO3 hbw3 hxx3 hs3 ⊢; obtain ⟨b0, b1, b2, b3, b4, b5, b6, b7, b8, b9⟩ := hxx3.box; have y0 := hO3.c; have y1 := hO3.f) | (at_builtin; (refine wpList_app1 rt_bytes W3 (.int .u8 1) rfl (.tmp 34) (.tmp 39) rfl w.heap.size (.slice AA3 (out.length + 1) cc3) (out ++ [3]).length (Lib.byteCells (out ++ [3])) rfl hO3.r rfl rfl (by simp; omega) (by simp; omega) hs3 ?_; intro v4 w4 o1 o2 o3 o4; have hx4 := wbox_app hxx3 o2 hq3; have hq4 : v4.ownBlock ≠ some wr.heap.size := wrow_other hq3 hxx3.lt o3; obtain ⟨yy0, yy1, hO4⟩ := hO3.one (K := 1) o2 (byteRow_one o1 rfl) o3; obtain ⟨AA4, cc4, rfl⟩ := own_form o1; (try simp only [List.length_append, List.length_singleton] at hO4); (try simp only [List.length_append, List.length_singleton] at hq4); have hbw4 := (hbw3.trans o4).setCell (p := ⟨w.heap.size, 0, none⟩) (Nat.le_refl _) (.slice AA4 (out.length + 1 + 1) cc4); clear o1 o2 o3 o4 b0 b1 b2 b3 b4 b5 b6 b7 b8 b9 y0 y1; obtain ⟨b0, b1, b2, b3, b4, b5, b6, b7, b8, b9⟩ := hx4.box)) | ((with_reducible change wpList _ _ _ (_ :: _ :: _ :: _ :: []) _ (World.setCell _ _ _)); have hxx4 := hx4.beside (u := (.slice AA4 (out.length + 1 + 1) cc4)) hqp; have hs4 := hbw4.size; clear yy0 yy1 hx4 b0 b1 b2 b3 b4 b5 b6 b7 b8 b9; generalize w4.setCell ⟨w.heap.size, 0, none⟩ (.slice AA4 (out.length + 1 + 1) cc4) = W4 at hO4 hbw4 hxx4 hs4 ⊢; obtain ⟨b0, b1, b2, b3, b4, b5, b6, b7, b8, b9⟩ := hxx4.box; have y0 := hO4.c; have y1 := hO4.f))
      clear b0 b1 b2 b3 b4 b5 b6 b7 b8 b9 y0 y1
      have hm := zig_lt hvn1 hvn2
      have BX := Lib.hid hO4
      have hcl : (out ++ [3] ++ [1]).length = out.length + 1 + 1 := by simp
      have HN := Lib.hid (NEQ0 vn hvn1 hvn2 hpos)
      have HSd := Lib.hid (show (fun w' : World => w'.cell? ⟨w.heap.size, 0, none⟩ = some (.slice AA4 (out.length + 1 + 1) cc4)) W4.drew from BX.out.c)
      refine wp_region_T 9 (fun w' : World => w'.cell? ⟨w.heap.size, 0, none⟩ = some (.slice AA4 (out.length + 1 + 1) cc4)) (by kernel_rfl) ?_
      refine zT 0 ?_ rfl (Or.inl ⟨by rfl, ?_⟩) HSd.out ?_
      rotate_left
      ·(intro wq hSw; have z6 : wq.cell? ⟨w.heap.size, 0, none⟩ = some (.slice AA4 (out.length + 1 + 1) cc4) := hSw; go_simp; all_goals (first | (with_reducible rfl) | (rw [zI])))
      simp only [zA, zB, zC, Act.put, zD, zE, zF]
      refine zT 1 ?_ rfl (Or.inl ⟨by rfl, ?_⟩) HSd.out ?_
      rotate_left
      ·(intro wq hSw; have z6 : wq.cell? ⟨w.heap.size, 0, none⟩ = some (.slice AA4 (out.length + 1 + 1) cc4) := hSw; go_simp; all_goals (first | (with_reducible rfl) | (rw [zI])))
      simp only [zA, zB, zC, Act.put, zD, zE, zF]
      refine zT 2 ?_ rfl (Or.inl ⟨by rfl, ?_⟩) HSd.out ?_
      rotate_left
      ·(intro wq hSw; have z6 : wq.cell? ⟨w.heap.size, 0, none⟩ = some (.slice AA4 (out.length + 1 + 1) cc4) := hSw; go_simp; all_goals (first | (with_reducible rfl) | (rw [zI])))
      simp only [zA, zB, zC, Act.put, zD, zE, zF]
      refine zT 3 ?_ rfl (Or.inl ⟨by rfl, ?_⟩) HSd.out ?_
      rotate_left
      ·(intro wq hSw; have z6 : wq.cell? ⟨w.heap.size, 0, none⟩ = some (.slice AA4 (out.length + 1 + 1) cc4) := hSw; go_simp; all_goals (first | (with_reducible rfl) | (rw [zI])))
      simp only [zA, zB, zC, Act.put, zD, zE, zF]
      refine zT 4 ?_ rfl (Or.inl ⟨by rfl, ?_⟩) HSd.out ?_
      rotate_left
      ·(intro wq hSw; have z6 : wq.cell? ⟨w.heap.size, 0, none⟩ = some (.slice AA4 (out.length + 1 + 1) cc4) := hSw; go_simp; all_goals (first | (with_reducible rfl) | (rw [zI])))
      simp only [zA, zB, zC, Act.put, zD, zE, zF]
      refine zT 5 ?_ rfl (Or.inl ⟨by rfl, ?_⟩) HSd.out ?_
      rotate_left
      ·(intro wq hSw; have z6 : wq.cell? ⟨w.heap.size, 0, none⟩ = some (.slice AA4 (out.length + 1 + 1) cc4) := hSw; go_simp; all_goals (first | (with_reducible rfl) | (rw [zI])))
      simp only [zA, zB, zC, Act.put, zD, zE, zF]
      refine zT 6 ?_ rfl (Or.inl ⟨by rfl, ?_⟩) HSd.out ?_
      rotate_left
      ·(intro wq hSw; have z6 : wq.cell? ⟨w.heap.size, 0, none⟩ = some (.slice AA4 (out.length + 1 + 1) cc4) := hSw; go_simp; all_goals (first | (with_reducible rfl) | (rw [zI])))
      simp only [zA, zB, zC, Act.put, zD, zE, zF]
      rw [HN.out]
      refine zO 7 fun K hK => ?_
      go_simp
      refine (groups_any (zig vn) W4.drew hm).mono ?_
      rintro e w10 ⟨⟨vg, rfl, hg⟩, hbg⟩
      have hbg' : Below W4.heap.size W4 w10 := chain (Below.refl W4.heap.size W4).drew hbg
      have hx10 := BX.out.keep hbg'
      refine hK.out _ _ (fun _ => hx10.c) ?_
      clear hK K
      try simp only [zA, zB, zC, Act.put, zD, zE, zF]
      obtain ⟨gb, gc, rfl, hgs⟩ := byteRow_at hg (gnum_ne _)
      have hgl := gnum_len10 hm
      refine zO 8 fun K hK => ?_
      refine step_app rt_bytes rfl (.tmp 44) (.tmp 51) rfl w.heap.size (.slice AA4 (out.length + 1 + 1) cc4) (out ++ [3] ++ [1]).length (Lib.byteCells (out ++ [3] ++ [1])) rfl hx10.r ⟨gb, 0, none⟩ (gnum (zig vn)).length gc (Lib.byteCells (gnum (zig vn))) rfl (by rw [byteCells_length, Nat.mul_one]) hgs (byteCells_one _) (by unfold maxLen; omega) (by omega) (by have := hbg'.size; omega) (fun v3 w30 o1 o2 o3 o4 => ?_)
      obtain ⟨hc3, hf3⟩ := hx10.grown o2
      obtain ⟨A5, c5, rfl⟩ := own_form o1
      refine hK.out _ _ (fun _ => hc3) ?_
      clear hK K
      try simp only [zA, zB, zC, Act.put, zD, zE, zF]
      refine zO 9 fun K hK => ?_
      go_simp
      refine hK.out _ _ (fun h => absurd h (by decide)) ?_
      clear hK K
      try simp only [zA, zB, zC, Act.put, zD, zE, zF]
      refine wpT_done (by kernel_rfl) ?_
      have hx30 : OBx (w30.setCell ⟨w.heap.size, 0, none⟩ (.slice A5 ((out ++ [3] ++ [1]).length + (gnum (zig vn)).length) c5)) w.heap.size w.heap.size (.slice A5 ((out ++ [3] ++ [1]).length + (gnum (zig vn)).length) c5) ((out ++ [3] ++ [1]) ++ gnum (zig vn)) := hx10.put o2 (byteRow_app o1) (fun e => by rcases o3 with o3 | o3; exact hx10.n (o3.symm.trans e); rw [o3] at e; injection e with e; have := hx10.lt; omega)
      have hcl2 : (out ++ [3] ++ [1]).length = out.length + 2 := hcl
      rw [hcl2] at hx30
      have hbw5 := ((hbw4.trans (hbg'.mono hs4)).trans o4).setCell (p := ⟨w.heap.size, 0, none⟩) (Nat.le_refl _) (.slice A5 (out.length + 2 + (gnum (zig vn)).length) c5)
      generalize w30.setCell ⟨w.heap.size, 0, none⟩ (.slice A5 (out.length + 2 + (gnum (zig vn)).length) c5) = W5 at hx30 hbw5 ⊢
      clear o1 o2 o3 o4 hc3 hf3 hx10 hgs hg hbg hbg' HSd BX
      have hrow := hx30
      rw [show out ++ [3] ++ [1] ++ gnum (zig vn) = out ++ wireOf (⟨3, 1, vn, vt, ty, lb⟩ : Ev) by rw [wo_num3 vn vt ty lb]; simp] at hrow
      have hlen : (out ++ wireOf (⟨3, 1, vn, vt, ty, lb⟩ : Ev)).length ≤ (j + 1) * 7000 := by rw [List.length_append]; have := hlw.out; omega
      go_wp2_with fail
      go_roundw
      case rel => exact ⟨j + 1, out ++ wireOf (⟨3, 1, vn, vt, ty, lb⟩ : Ev), _, by omega, by go_num, HWA, hlen, hrow, hbw5⟩
      case measure => simp [intOf] <;> omega


   | bool k vn vt ty lb hk hn =>
    dsimp only at e0 e1 e2 e3 e4 e5 e6 e7 e8 e9 HIN hnew
    rcases hk with rfl | rfl <;> rcases hn with rfl | rfl
    ·have B0 : Below wr.heap.size wr (wr.alloc (.cells (evCells (⟨2, 2, 0, vt, ty, lb⟩ : Ev) (.slice A1 ty.labels.length c1) (.slice A2 ty.kids.length c2)) 32)) := by go_grown
     have hO1 := hO.out.keep B0
     have hbw1 := hb.trans (B0.mono hszr)
     have hs1 := hbw1.size
     have hx1 := hnew.out
     have HW1 := Lib.hid (And.intro hO1 (And.intro hbw1 (And.intro hs1 (And.intro hx1 B0))))
     clear B0 hO1 hbw1 hs1 hx1
     go_wp2_with (first | ((with_reducible change wpList _ _ _ (_ :: _ :: _ :: _ :: _ :: _ :: _ :: []) _ (World.alloc _ _)); generalize wr.alloc (.cells (evCells (⟨2, 2, 0, vt, ty, lb⟩ : Ev) (.slice A1 ty.labels.length c1) (.slice A2 ty.kids.length c2)) 32) = W1 at HW1 hnew ⊢; obtain ⟨hO1, hbw1, hs1, hx1, B0⟩ := HW1.out; clear HW1; have y0 := hO1.c; have y1 := hO1.f; obtain ⟨b0, b1, b2, b3, b4, b5, b6, b7, b8, b9⟩ := hx1.box) | (at_builtin; (refine wpList_app1 rt_bytes W1 (.int .u8 2) rfl (.tmp 19) (.tmp 23) rfl w.heap.size (.slice A3 (out.length) c3) out.length (Lib.byteCells out) rfl hO1.r rfl rfl (by simp; omega) (by simp; omega) hs1 ?_; intro v3 w3 o1 o2 o3 o4; have hx3 := wbox_app hx1 o2 hqo; have hq3 : v3.ownBlock ≠ some wr.heap.size := wrow_other hqo hx1.lt o3; obtain ⟨yy0, yy1, hO3⟩ := hO1.one (K := 2) o2 (byteRow_one o1 rfl) o3; obtain ⟨AA3, cc3, rfl⟩ := own_form o1; (try simp only [List.length_append, List.length_singleton] at hO3); (try simp only [List.length_append, List.length_singleton] at hq3); have hbw3 := (hbw1.trans o4).setCell (p := ⟨w.heap.size, 0, none⟩) (Nat.le_refl _) (.slice AA3 (out.length + 1) cc3); clear o1 o2 o3 o4 b0 b1 b2 b3 b4 b5 b6 b7 b8 b9 y0 y1; obtain ⟨b0, b1, b2, b3, b4, b5, b6, b7, b8, b9⟩ := hx3.box)) | ((with_reducible change wpList _ _ _ (_ :: _ :: []) _ (World.setCell _ _ _)); have hxx3 := hx3.beside (u := (.slice AA3 (out.length + 1) cc3)) hqp; have hs3 := hbw3.size; clear yy0 yy1 hx3 b0 b1 b2 b3 b4 b5 b6 b7 b8 b9; generalize w3.setCell ⟨w.heap.size, 0, none⟩ (.slice AA3 (out.length + 1) cc3) = W3 at hO3 hbw3 hxx3 hs3 ⊢; obtain ⟨b0, b1, b2, b3, b4, b5, b6, b7, b8, b9⟩ := hxx3.box; have y0 := hO3.c; have y1 := hO3.f) | (at_builtin; (refine wpList_app1 rt_bytes W3 (.int .u8 2) rfl (.tmp 34) (.tmp 39) rfl w.heap.size (.slice AA3 (out.length + 1) cc3) (out ++ [2]).length (Lib.byteCells (out ++ [2])) rfl hO3.r rfl rfl (by simp; omega) (by simp; omega) hs3 ?_; intro v4 w4 o1 o2 o3 o4; have hx4 := wbox_app hxx3 o2 hq3; have hq4 : v4.ownBlock ≠ some wr.heap.size := wrow_other hq3 hxx3.lt o3; obtain ⟨yy0, yy1, hO4⟩ := hO3.one (K := 2) o2 (byteRow_one o1 rfl) o3; obtain ⟨AA4, cc4, rfl⟩ := own_form o1; (try simp only [List.length_append, List.length_singleton] at hO4); (try simp only [List.length_append, List.length_singleton] at hq4); have hbw4 := (hbw3.trans o4).setCell (p := ⟨w.heap.size, 0, none⟩) (Nat.le_refl _) (.slice AA4 (out.length + 1 + 1) cc4); clear o1 o2 o3 o4 b0 b1 b2 b3 b4 b5 b6 b7 b8 b9 y0 y1; obtain ⟨b0, b1, b2, b3, b4, b5, b6, b7, b8, b9⟩ := hx4.box)) | ((with_reducible change wpList _ _ _ (_ :: _ :: _ :: _ :: []) _ (World.setCell _ _ _)); have hxx4 := hx4.beside (u := (.slice AA4 (out.length + 1 + 1) cc4)) hqp; have hs4 := hbw4.size; clear yy0 yy1 hx4 b0 b1 b2 b3 b4 b5 b6 b7 b8 b9; generalize w4.setCell ⟨w.heap.size, 0, none⟩ (.slice AA4 (out.length + 1 + 1) cc4) = W4 at hO4 hbw4 hxx4 hs4 ⊢; obtain ⟨b0, b1, b2, b3, b4, b5, b6, b7, b8, b9⟩ := hxx4.box; have y0 := hO4.c; have y1 := hO4.f) | (at_builtin; (refine wpList_app1 rt_bytes W4 (.int .u8 0) rfl (.tmp 68) (.tmp 71) rfl w.heap.size (.slice AA4 (out.length + 1 + 1) cc4) (out ++ [2] ++ [2]).length (Lib.byteCells (out ++ [2] ++ [2])) rfl hO4.r rfl rfl (by simp; omega) (by simp; omega) hs4 ?_; intro v5 w5 o1 o2 o3 o4; have hx5 := wbox_app hxx4 o2 hq4; have hq5 : v5.ownBlock ≠ some wr.heap.size := wrow_other hq4 hxx4.lt o3; obtain ⟨yy0, yy1, hO5⟩ := hO4.one (K := 0) o2 (byteRow_one o1 rfl) o3; obtain ⟨AA5, cc5, rfl⟩ := own_form o1; (try simp only [List.length_append, List.length_singleton] at hO5); (try simp only [List.length_append, List.length_singleton] at hq5); have hbw5 := (hbw4.trans o4).setCell (p := ⟨w.heap.size, 0, none⟩) (Nat.le_refl _) (.slice AA5 (out.length + 1 + 1 + 1) cc5); clear o1 o2 o3 o4 b0 b1 b2 b3 b4 b5 b6 b7 b8 b9 y0 y1; obtain ⟨b0, b1, b2, b3, b4, b5, b6, b7, b8, b9⟩ := hx5.box)))
     have hrow := hO5
     rw [show out ++ [2] ++ [2] ++ [0] = out ++ wireOf (⟨2, 2, 0, vt, ty, lb⟩ : Ev) by rw [wo_bool2_0 vt ty lb]; simp] at hrow
     have hlen : (out ++ wireOf (⟨2, 2, 0, vt, ty, lb⟩ : Ev)).length ≤ (j + 1) * 7000 := by rw [List.length_append]; have := hlw.out; omega
     refine ⟨⟨j + 1, out ++ wireOf (⟨2, 2, 0, vt, ty, lb⟩ : Ev), _, by omega, by go_num, HWA, hlen, hrow, hbw5⟩, ?_⟩
     simp [intOf] <;> omega

    ·have B0 : Below wr.heap.size wr (wr.alloc (.cells (evCells (⟨2, 2, 1, vt, ty, lb⟩ : Ev) (.slice A1 ty.labels.length c1) (.slice A2 ty.kids.length c2)) 32)) := by go_grown
     have hO1 := hO.out.keep B0
     have hbw1 := hb.trans (B0.mono hszr)
     have hs1 := hbw1.size
     have hx1 := hnew.out
     have HW1 := Lib.hid (And.intro hO1 (And.intro hbw1 (And.intro hs1 (And.intro hx1 B0))))
     clear B0 hO1 hbw1 hs1 hx1
     go_wp2_with (first | ((with_reducible change wpList _ _ _ (_ :: _ :: _ :: _ :: _ :: _ :: _ :: []) _ (World.alloc _ _)); generalize wr.alloc (.cells (evCells (⟨2, 2, 1, vt, ty, lb⟩ : Ev) (.slice A1 ty.labels.length c1) (.slice A2 ty.kids.length c2)) 32) = W1 at HW1 hnew ⊢; obtain ⟨hO1, hbw1, hs1, hx1, B0⟩ := HW1.out; clear HW1; have y0 := hO1.c; have y1 := hO1.f; obtain ⟨b0, b1, b2, b3, b4, b5, b6, b7, b8, b9⟩ := hx1.box) | (at_builtin; (refine wpList_app1 rt_bytes W1 (.int .u8 2) rfl (.tmp 19) (.tmp 23) rfl w.heap.size (.slice A3 (out.length) c3) out.length (Lib.byteCells out) rfl hO1.r rfl rfl (by simp; omega) (by simp; omega) hs1 ?_; intro v3 w3 o1 o2 o3 o4; have hx3 := wbox_app hx1 o2 hqo; have hq3 : v3.ownBlock ≠ some wr.heap.size := wrow_other hqo hx1.lt o3; obtain ⟨yy0, yy1, hO3⟩ := hO1.one (K := 2) o2 (byteRow_one o1 rfl) o3; obtain ⟨AA3, cc3, rfl⟩ := own_form o1; (try simp only [List.length_append, List.length_singleton] at hO3); (try simp only [List.length_append, List.length_singleton] at hq3); have hbw3 := (hbw1.trans o4).setCell (p := ⟨w.heap.size, 0, none⟩) (Nat.le_refl _) (.slice AA3 (out.length + 1) cc3); clear o1 o2 o3 o4 b0 b1 b2 b3 b4 b5 b6 b7 b8 b9 y0 y1; obtain ⟨b0, b1, b2, b3, b4, b5, b6, b7, b8, b9⟩ := hx3.box)) | ((with_reducible change wpList _ _ _ (_ :: _ :: []) _ (World.setCell _ _ _)); have hxx3 := hx3.beside (u := (.slice AA3 (out.length + 1) cc3)) hqp; have hs3 := hbw3.size; clear yy0 yy1 hx3 b0 b1 b2 b3 b4 b5 b6 b7 b8 b9; generalize w3.setCell ⟨w.heap.size, 0, none⟩ (.slice AA3 (out.length + 1) cc3) = W3 at hO3 hbw3 hxx3 hs3 ⊢; obtain ⟨b0, b1, b2, b3, b4, b5, b6, b7, b8, b9⟩ := hxx3.box; have y0 := hO3.c; have y1 := hO3.f) | (at_builtin; (refine wpList_app1 rt_bytes W3 (.int .u8 2) rfl (.tmp 34) (.tmp 39) rfl w.heap.size (.slice AA3 (out.length + 1) cc3) (out ++ [2]).length (Lib.byteCells (out ++ [2])) rfl hO3.r rfl rfl (by simp; omega) (by simp; omega) hs3 ?_; intro v4 w4 o1 o2 o3 o4; have hx4 := wbox_app hxx3 o2 hq3; have hq4 : v4.ownBlock ≠ some wr.heap.size := wrow_other hq3 hxx3.lt o3; obtain ⟨yy0, yy1, hO4⟩ := hO3.one (K := 2) o2 (byteRow_one o1 rfl) o3; obtain ⟨AA4, cc4, rfl⟩ := own_form o1; (try simp only [List.length_append, List.length_singleton] at hO4); (try simp only [List.length_append, List.length_singleton] at hq4); have hbw4 := (hbw3.trans o4).setCell (p := ⟨w.heap.size, 0, none⟩) (Nat.le_refl _) (.slice AA4 (out.length + 1 + 1) cc4); clear o1 o2 o3 o4 b0 b1 b2 b3 b4 b5 b6 b7 b8 b9 y0 y1; obtain ⟨b0, b1, b2, b3, b4, b5, b6, b7, b8, b9⟩ := hx4.box)) | ((with_reducible change wpList _ _ _ (_ :: _ :: _ :: _ :: []) _ (World.setCell _ _ _)); have hxx4 := hx4.beside (u := (.slice AA4 (out.length + 1 + 1) cc4)) hqp; have hs4 := hbw4.size; clear yy0 yy1 hx4 b0 b1 b2 b3 b4 b5 b6 b7 b8 b9; generalize w4.setCell ⟨w.heap.size, 0, none⟩ (.slice AA4 (out.length + 1 + 1) cc4) = W4 at hO4 hbw4 hxx4 hs4 ⊢; obtain ⟨b0, b1, b2, b3, b4, b5, b6, b7, b8, b9⟩ := hxx4.box; have y0 := hO4.c; have y1 := hO4.f) | (at_builtin; (refine wpList_app1 rt_bytes W4 (.int .u8 1) rfl (.tmp 68) (.tmp 71) rfl w.heap.size (.slice AA4 (out.length + 1 + 1) cc4) (out ++ [2] ++ [2]).length (Lib.byteCells (out ++ [2] ++ [2])) rfl hO4.r rfl rfl (by simp; omega) (by simp; omega) hs4 ?_; intro v5 w5 o1 o2 o3 o4; have hx5 := wbox_app hxx4 o2 hq4; have hq5 : v5.ownBlock ≠ some wr.heap.size := wrow_other hq4 hxx4.lt o3; obtain ⟨yy0, yy1, hO5⟩ := hO4.one (K := 1) o2 (byteRow_one o1 rfl) o3; obtain ⟨AA5, cc5, rfl⟩ := own_form o1; (try simp only [List.length_append, List.length_singleton] at hO5); (try simp only [List.length_append, List.length_singleton] at hq5); have hbw5 := (hbw4.trans o4).setCell (p := ⟨w.heap.size, 0, none⟩) (Nat.le_refl _) (.slice AA5 (out.length + 1 + 1 + 1) cc5); clear o1 o2 o3 o4 b0 b1 b2 b3 b4 b5 b6 b7 b8 b9 y0 y1; obtain ⟨b0, b1, b2, b3, b4, b5, b6, b7, b8, b9⟩ := hx5.box)))
     have hrow := hO5
     rw [show out ++ [2] ++ [2] ++ [1] = out ++ wireOf (⟨2, 2, 1, vt, ty, lb⟩ : Ev) by rw [wo_bool2_1 vt ty lb]; simp] at hrow
     have hlen : (out ++ wireOf (⟨2, 2, 1, vt, ty, lb⟩ : Ev)).length ≤ (j + 1) * 7000 := by rw [List.length_append]; have := hlw.out; omega
     refine ⟨⟨j + 1, out ++ wireOf (⟨2, 2, 1, vt, ty, lb⟩ : Ev), _, by omega, by go_num, HWA, hlen, hrow, hbw5⟩, ?_⟩
     simp [intOf] <;> omega

    ·have B0 : Below wr.heap.size wr (wr.alloc (.cells (evCells (⟨3, 2, 0, vt, ty, lb⟩ : Ev) (.slice A1 ty.labels.length c1) (.slice A2 ty.kids.length c2)) 32)) := by go_grown
     have hO1 := hO.out.keep B0
     have hbw1 := hb.trans (B0.mono hszr)
     have hs1 := hbw1.size
     have hx1 := hnew.out
     have HW1 := Lib.hid (And.intro hO1 (And.intro hbw1 (And.intro hs1 (And.intro hx1 B0))))
     clear B0 hO1 hbw1 hs1 hx1
     go_wp2_with (first | ((with_reducible change wpList _ _ _ (_ :: _ :: _ :: _ :: _ :: _ :: _ :: []) _ (World.alloc _ _)); generalize wr.alloc (.cells (evCells (⟨3, 2, 0, vt, ty, lb⟩ : Ev) (.slice A1 ty.labels.length c1) (.slice A2 ty.kids.length c2)) 32) = W1 at HW1 hnew ⊢; obtain ⟨hO1, hbw1, hs1, hx1, B0⟩ := HW1.out; clear HW1; have y0 := hO1.c; have y1 := hO1.f; obtain ⟨b0, b1, b2, b3, b4, b5, b6, b7, b8, b9⟩ := hx1.box) | (at_builtin; (refine wpList_app1 rt_bytes W1 (.int .u8 3) rfl (.tmp 19) (.tmp 23) rfl w.heap.size (.slice A3 (out.length) c3) out.length (Lib.byteCells out) rfl hO1.r rfl rfl (by simp; omega) (by simp; omega) hs1 ?_; intro v3 w3 o1 o2 o3 o4; have hx3 := wbox_app hx1 o2 hqo; have hq3 : v3.ownBlock ≠ some wr.heap.size := wrow_other hqo hx1.lt o3; obtain ⟨yy0, yy1, hO3⟩ := hO1.one (K := 3) o2 (byteRow_one o1 rfl) o3; obtain ⟨AA3, cc3, rfl⟩ := own_form o1; (try simp only [List.length_append, List.length_singleton] at hO3); (try simp only [List.length_append, List.length_singleton] at hq3); have hbw3 := (hbw1.trans o4).setCell (p := ⟨w.heap.size, 0, none⟩) (Nat.le_refl _) (.slice AA3 (out.length + 1) cc3); clear o1 o2 o3 o4 b0 b1 b2 b3 b4 b5 b6 b7 b8 b9 y0 y1; obtain ⟨b0, b1, b2, b3, b4, b5, b6, b7, b8, b9⟩ := hx3.box)) | ((with_reducible change wpList _ _ _ (_ :: _ :: []) _ (World.setCell _ _ _)); have hxx3 := hx3.beside (u := (.slice AA3 (out.length + 1) cc3)) hqp; have hs3 := hbw3.size; clear yy0 yy1 hx3 b0 b1 b2 b3 b4 b5 b6 b7 b8 b9; generalize w3.setCell ⟨w.heap.size, 0, none⟩ (.slice AA3 (out.length + 1) cc3) = W3 at hO3 hbw3 hxx3 hs3 ⊢; obtain ⟨b0, b1, b2, b3, b4, b5, b6, b7, b8, b9⟩ := hxx3.box; have y0 := hO3.c; have y1 := hO3.f) | (at_builtin; (refine wpList_app1 rt_bytes W3 (.int .u8 2) rfl (.tmp 34) (.tmp 39) rfl w.heap.size (.slice AA3 (out.length + 1) cc3) (out ++ [3]).length (Lib.byteCells (out ++ [3])) rfl hO3.r rfl rfl (by simp; omega) (by simp; omega) hs3 ?_; intro v4 w4 o1 o2 o3 o4; have hx4 := wbox_app hxx3 o2 hq3; have hq4 : v4.ownBlock ≠ some wr.heap.size := wrow_other hq3 hxx3.lt o3; obtain ⟨yy0, yy1, hO4⟩ := hO3.one (K := 2) o2 (byteRow_one o1 rfl) o3; obtain ⟨AA4, cc4, rfl⟩ := own_form o1; (try simp only [List.length_append, List.length_singleton] at hO4); (try simp only [List.length_append, List.length_singleton] at hq4); have hbw4 := (hbw3.trans o4).setCell (p := ⟨w.heap.size, 0, none⟩) (Nat.le_refl _) (.slice AA4 (out.length + 1 + 1) cc4); clear o1 o2 o3 o4 b0 b1 b2 b3 b4 b5 b6 b7 b8 b9 y0 y1; obtain ⟨b0, b1, b2, b3, b4, b5, b6, b7, b8, b9⟩ := hx4.box)) | ((with_reducible change wpList _ _ _ (_ :: _ :: _ :: _ :: []) _ (World.setCell _ _ _)); have hxx4 := hx4.beside (u := (.slice AA4 (out.length + 1 + 1) cc4)) hqp; have hs4 := hbw4.size; clear yy0 yy1 hx4 b0 b1 b2 b3 b4 b5 b6 b7 b8 b9; generalize w4.setCell ⟨w.heap.size, 0, none⟩ (.slice AA4 (out.length + 1 + 1) cc4) = W4 at hO4 hbw4 hxx4 hs4 ⊢; obtain ⟨b0, b1, b2, b3, b4, b5, b6, b7, b8, b9⟩ := hxx4.box; have y0 := hO4.c; have y1 := hO4.f) | (at_builtin; (refine wpList_app1 rt_bytes W4 (.int .u8 0) rfl (.tmp 68) (.tmp 71) rfl w.heap.size (.slice AA4 (out.length + 1 + 1) cc4) (out ++ [3] ++ [2]).length (Lib.byteCells (out ++ [3] ++ [2])) rfl hO4.r rfl rfl (by simp; omega) (by simp; omega) hs4 ?_; intro v5 w5 o1 o2 o3 o4; have hx5 := wbox_app hxx4 o2 hq4; have hq5 : v5.ownBlock ≠ some wr.heap.size := wrow_other hq4 hxx4.lt o3; obtain ⟨yy0, yy1, hO5⟩ := hO4.one (K := 0) o2 (byteRow_one o1 rfl) o3; obtain ⟨AA5, cc5, rfl⟩ := own_form o1; (try simp only [List.length_append, List.length_singleton] at hO5); (try simp only [List.length_append, List.length_singleton] at hq5); have hbw5 := (hbw4.trans o4).setCell (p := ⟨w.heap.size, 0, none⟩) (Nat.le_refl _) (.slice AA5 (out.length + 1 + 1 + 1) cc5); clear o1 o2 o3 o4 b0 b1 b2 b3 b4 b5 b6 b7 b8 b9 y0 y1; obtain ⟨b0, b1, b2, b3, b4, b5, b6, b7, b8, b9⟩ := hx5.box)))
     have hrow := hO5
     rw [show out ++ [3] ++ [2] ++ [0] = out ++ wireOf (⟨3, 2, 0, vt, ty, lb⟩ : Ev) by rw [wo_bool3_0 vt ty lb]; simp] at hrow
     have hlen : (out ++ wireOf (⟨3, 2, 0, vt, ty, lb⟩ : Ev)).length ≤ (j + 1) * 7000 := by rw [List.length_append]; have := hlw.out; omega
     refine ⟨⟨j + 1, out ++ wireOf (⟨3, 2, 0, vt, ty, lb⟩ : Ev), _, by omega, by go_num, HWA, hlen, hrow, hbw5⟩, ?_⟩
     simp [intOf] <;> omega

    ·have B0 : Below wr.heap.size wr (wr.alloc (.cells (evCells (⟨3, 2, 1, vt, ty, lb⟩ : Ev) (.slice A1 ty.labels.length c1) (.slice A2 ty.kids.length c2)) 32)) := by go_grown
     have hO1 := hO.out.keep B0
     have hbw1 := hb.trans (B0.mono hszr)
     have hs1 := hbw1.size
     have hx1 := hnew.out
     have HW1 := Lib.hid (And.intro hO1 (And.intro hbw1 (And.intro hs1 (And.intro hx1 B0))))
     clear B0 hO1 hbw1 hs1 hx1
     go_wp2_with (first | ((with_reducible change wpList _ _ _ (_ :: _ :: _ :: _ :: _ :: _ :: _ :: []) _ (World.alloc _ _)); generalize wr.alloc (.cells (evCells (⟨3, 2, 1, vt, ty, lb⟩ : Ev) (.slice A1 ty.labels.length c1) (.slice A2 ty.kids.length c2)) 32) = W1 at HW1 hnew ⊢; obtain ⟨hO1, hbw1, hs1, hx1, B0⟩ := HW1.out; clear HW1; have y0 := hO1.c; have y1 := hO1.f; obtain ⟨b0, b1, b2, b3, b4, b5, b6, b7, b8, b9⟩ := hx1.box) | (at_builtin; (refine wpList_app1 rt_bytes W1 (.int .u8 3) rfl (.tmp 19) (.tmp 23) rfl w.heap.size (.slice A3 (out.length) c3) out.length (Lib.byteCells out) rfl hO1.r rfl rfl (by simp; omega) (by simp; omega) hs1 ?_; intro v3 w3 o1 o2 o3 o4; have hx3 := wbox_app hx1 o2 hqo; have hq3 : v3.ownBlock ≠ some wr.heap.size := wrow_other hqo hx1.lt o3; obtain ⟨yy0, yy1, hO3⟩ := hO1.one (K := 3) o2 (byteRow_one o1 rfl) o3; obtain ⟨AA3, cc3, rfl⟩ := own_form o1; (try simp only [List.length_append, List.length_singleton] at hO3); (try simp only [List.length_append, List.length_singleton] at hq3); have hbw3 := (hbw1.trans o4).setCell (p := ⟨w.heap.size, 0, none⟩) (Nat.le_refl _) (.slice AA3 (out.length + 1) cc3); clear o1 o2 o3 o4 b0 b1 b2 b3 b4 b5 b6 b7 b8 b9 y0 y1; obtain ⟨b0, b1, b2, b3, b4, b5, b6, b7, b8, b9⟩ := hx3.box)) | ((with_reducible change wpList _ _ _ (_ :: _ :: []) _ (World.setCell _ _ _)); have hxx3 := hx3.beside (u := (.slice AA3 (out.length + 1) cc3)) hqp; have hs3 := hbw3.size; clear yy0 yy1 hx3 b0 b1 b2 b3 b4 b5 b6 b7 b8 b9; generalize w3.setCell ⟨w.heap.size, 0, none⟩ (.slice AA3 (out.length + 1) cc3) = W3 at hO3 hbw3 hxx3 hs3 ⊢; obtain ⟨b0, b1, b2, b3, b4, b5, b6, b7, b8, b9⟩ := hxx3.box; have y0 := hO3.c; have y1 := hO3.f) | (at_builtin; (refine wpList_app1 rt_bytes W3 (.int .u8 2) rfl (.tmp 34) (.tmp 39) rfl w.heap.size (.slice AA3 (out.length + 1) cc3) (out ++ [3]).length (Lib.byteCells (out ++ [3])) rfl hO3.r rfl rfl (by simp; omega) (by simp; omega) hs3 ?_; intro v4 w4 o1 o2 o3 o4; have hx4 := wbox_app hxx3 o2 hq3; have hq4 : v4.ownBlock ≠ some wr.heap.size := wrow_other hq3 hxx3.lt o3; obtain ⟨yy0, yy1, hO4⟩ := hO3.one (K := 2) o2 (byteRow_one o1 rfl) o3; obtain ⟨AA4, cc4, rfl⟩ := own_form o1; (try simp only [List.length_append, List.length_singleton] at hO4); (try simp only [List.length_append, List.length_singleton] at hq4); have hbw4 := (hbw3.trans o4).setCell (p := ⟨w.heap.size, 0, none⟩) (Nat.le_refl _) (.slice AA4 (out.length + 1 + 1) cc4); clear o1 o2 o3 o4 b0 b1 b2 b3 b4 b5 b6 b7 b8 b9 y0 y1; obtain ⟨b0, b1, b2, b3, b4, b5, b6, b7, b8, b9⟩ := hx4.box)) | ((with_reducible change wpList _ _ _ (_ :: _ :: _ :: _ :: []) _ (World.setCell _ _ _)); have hxx4 := hx4.beside (u := (.slice AA4 (out.length + 1 + 1) cc4)) hqp; have hs4 := hbw4.size; clear yy0 yy1 hx4 b0 b1 b2 b3 b4 b5 b6 b7 b8 b9; generalize w4.setCell ⟨w.heap.size, 0, none⟩ (.slice AA4 (out.length + 1 + 1) cc4) = W4 at hO4 hbw4 hxx4 hs4 ⊢; obtain ⟨b0, b1, b2, b3, b4, b5, b6, b7, b8, b9⟩ := hxx4.box; have y0 := hO4.c; have y1 := hO4.f) | (at_builtin; (refine wpList_app1 rt_bytes W4 (.int .u8 1) rfl (.tmp 68) (.tmp 71) rfl w.heap.size (.slice AA4 (out.length + 1 + 1) cc4) (out ++ [3] ++ [2]).length (Lib.byteCells (out ++ [3] ++ [2])) rfl hO4.r rfl rfl (by simp; omega) (by simp; omega) hs4 ?_; intro v5 w5 o1 o2 o3 o4; have hx5 := wbox_app hxx4 o2 hq4; have hq5 : v5.ownBlock ≠ some wr.heap.size := wrow_other hq4 hxx4.lt o3; obtain ⟨yy0, yy1, hO5⟩ := hO4.one (K := 1) o2 (byteRow_one o1 rfl) o3; obtain ⟨AA5, cc5, rfl⟩ := own_form o1; (try simp only [List.length_append, List.length_singleton] at hO5); (try simp only [List.length_append, List.length_singleton] at hq5); have hbw5 := (hbw4.trans o4).setCell (p := ⟨w.heap.size, 0, none⟩) (Nat.le_refl _) (.slice AA5 (out.length + 1 + 1 + 1) cc5); clear o1 o2 o3 o4 b0 b1 b2 b3 b4 b5 b6 b7 b8 b9 y0 y1; obtain ⟨b0, b1, b2, b3, b4, b5, b6, b7, b8, b9⟩ := hx5.box)))
     have hrow := hO5
     rw [show out ++ [3] ++ [2] ++ [1] = out ++ wireOf (⟨3, 2, 1, vt, ty, lb⟩ : Ev) by rw [wo_bool3_1 vt ty lb]; simp] at hrow
     have hlen : (out ++ wireOf (⟨3, 2, 1, vt, ty, lb⟩ : Ev)).length ≤ (j + 1) * 7000 := by rw [List.length_append]; have := hlw.out; omega
     refine ⟨⟨j + 1, out ++ wireOf (⟨3, 2, 1, vt, ty, lb⟩ : Ev), _, by omega, by go_num, HWA, hlen, hrow, hbw5⟩, ?_⟩
     simp [intOf] <;> omega

   | text k vt ty lb hk ht =>
    dsimp only at e0 e1 e2 e3 e4 e5 e6 e7 e8 e9 HIN hnew
    rcases hk with rfl | rfl
    ·have B0 : Below wr.heap.size wr (wr.alloc (.cells (evCells (⟨2, 3, 0, vt, ty, lb⟩ : Ev) (.slice A1 ty.labels.length c1) (.slice A2 ty.kids.length c2)) 32)) := by go_grown
     have hO1 := hO.out.keep B0
     have hbw1 := hb.trans (B0.mono hszr)
     have hs1 := hbw1.size
     have hx1 := hnew.out
     have HW1 := Lib.hid (And.intro hO1 (And.intro hbw1 (And.intro hs1 (And.intro hx1 B0))))
     clear B0 hO1 hbw1 hs1 hx1
     go_wp2_with (first | ((with_reducible change wpList _ _ _ (_ :: _ :: _ :: _ :: _ :: _ :: _ :: []) _ (World.alloc _ _)); generalize wr.alloc (.cells (evCells (⟨2, 3, 0, vt, ty, lb⟩ : Ev) (.slice A1 ty.labels.length c1) (.slice A2 ty.kids.length c2)) 32) = W1 at HW1 hnew ⊢; obtain ⟨hO1, hbw1, hs1, hx1, B0⟩ := HW1.out; clear HW1; have y0 := hO1.c; have y1 := hO1.f; obtain ⟨b0, b1, b2, b3, b4, b5, b6, b7, b8, b9⟩ := hx1.box) | (at_builtin; (refine wpList_app1 rt_bytes W1 (.int .u8 2) rfl (.tmp 19) (.tmp 23) rfl w.heap.size (.slice A3 (out.length) c3) out.length (Lib.byteCells out) rfl hO1.r rfl rfl (by simp; omega) (by simp; omega) hs1 ?_; intro v3 w3 o1 o2 o3 o4; have hx3 := wbox_app hx1 o2 hqo; have hq3 : v3.ownBlock ≠ some wr.heap.size := wrow_other hqo hx1.lt o3; obtain ⟨yy0, yy1, hO3⟩ := hO1.one (K := 2) o2 (byteRow_one o1 rfl) o3; obtain ⟨AA3, cc3, rfl⟩ := own_form o1; (try simp only [List.length_append, List.length_singleton] at hO3); (try simp only [List.length_append, List.length_singleton] at hq3); have hbw3 := (hbw1.trans o4).setCell (p := ⟨w.heap.size, 0, none⟩) (Nat.le_refl _) (.slice AA3 (out.length + 1) cc3); clear o1 o2 o3 o4 b0 b1 b2 b3 b4 b5 b6 b7 b8 b9 y0 y1; obtain ⟨b0, b1, b2, b3, b4, b5, b6, b7, b8, b9⟩ := hx3.box)) | ((with_reducible change wpList _ _ _ (_ :: _ :: []) _ (World.setCell _ _ _)); have hxx3 := hx3.beside (u := (.slice AA3 (out.length + 1) cc3)) hqp; have hs3 := hbw3.size; clear yy0 yy1 hx3 b0 b1 b2 b3 b4 b5 b6 b7 b8 b9; generalize w3.setCell ⟨w.heap.size, 0, none⟩ (.slice AA3 (out.length + 1) cc3) = W3 at hO3 hbw3 hxx3 hs3 ⊢; obtain ⟨b0, b1, b2, b3, b4, b5, b6, b7, b8, b9⟩ := hxx3.box; have y0 := hO3.c; have y1 := hO3.f) | (at_builtin; (refine wpList_app1 rt_bytes W3 (.int .u8 3) rfl (.tmp 34) (.tmp 39) rfl w.heap.size (.slice AA3 (out.length + 1) cc3) (out ++ [2]).length (Lib.byteCells (out ++ [2])) rfl hO3.r rfl rfl (by simp; omega) (by simp; omega) hs3 ?_; intro v4 w4 o1 o2 o3 o4; have hx4 := wbox_app hxx3 o2 hq3; have hq4 : v4.ownBlock ≠ some wr.heap.size := wrow_other hq3 hxx3.lt o3; obtain ⟨yy0, yy1, hO4⟩ := hO3.one (K := 3) o2 (byteRow_one o1 rfl) o3; obtain ⟨AA4, cc4, rfl⟩ := own_form o1; (try simp only [List.length_append, List.length_singleton] at hO4); (try simp only [List.length_append, List.length_singleton] at hq4); have hbw4 := (hbw3.trans o4).setCell (p := ⟨w.heap.size, 0, none⟩) (Nat.le_refl _) (.slice AA4 (out.length + 1 + 1) cc4); clear o1 o2 o3 o4 b0 b1 b2 b3 b4 b5 b6 b7 b8 b9 y0 y1; obtain ⟨b0, b1, b2, b3, b4, b5, b6, b7, b8, b9⟩ := hx4.box)) | ((with_reducible change wpList _ _ _ (_ :: _ :: _ :: _ :: []) _ (World.setCell _ _ _)); have hxx4 := hx4.beside (u := (.slice AA4 (out.length + 1 + 1) cc4)) hqp; have hs4 := hbw4.size; clear yy0 yy1 hx4 b0 b1 b2 b3 b4 b5 b6 b7 b8 b9; generalize w4.setCell ⟨w.heap.size, 0, none⟩ (.slice AA4 (out.length + 1 + 1) cc4) = W4 at hO4 hbw4 hxx4 hs4 ⊢; obtain ⟨b0, b1, b2, b3, b4, b5, b6, b7, b8, b9⟩ := hxx4.box; have y0 := hO4.c; have y1 := hO4.f))
     clear b0 b1 b2 b3 b4 b5 b6 b7 b8 b9 y0 y1
     refine (wtext1_any w.heap.size w.heap.size _ (out ++ [2] ++ [3]) vt W4 hO4 (by omega) (by simp; omega) hs4).mono ?_
     rintro r w9 ⟨rfl, ⟨v9, hO9⟩, hb9⟩
     have hrow := hO9
     rw [show out ++ [2] ++ [3] ++ gtext vt = out ++ wireOf (⟨2, 3, 0, vt, ty, lb⟩ : Ev) by rw [wo_text2 vt ty lb]; simp] at hrow
     have hlen : (out ++ wireOf (⟨2, 3, 0, vt, ty, lb⟩ : Ev)).length ≤ (j + 1) * 7000 := by rw [List.length_append]; have := hlw.out; omega
     go_wp2_with fail
     go_roundw
     case rel => exact ⟨j + 1, out ++ wireOf (⟨2, 3, 0, vt, ty, lb⟩ : Ev), v9, by omega, by go_num, HWA, hlen, hrow, hbw4.trans hb9⟩
     case measure => simp [intOf] <;> omega

    ·have B0 : Below wr.heap.size wr (wr.alloc (.cells (evCells (⟨3, 3, 0, vt, ty, lb⟩ : Ev) (.slice A1 ty.labels.length c1) (.slice A2 ty.kids.length c2)) 32)) := by go_grown
     have hO1 := hO.out.keep B0
     have hbw1 := hb.trans (B0.mono hszr)
     have hs1 := hbw1.size
     have hx1 := hnew.out
     have HW1 := Lib.hid (And.intro hO1 (And.intro hbw1 (And.intro hs1 (And.intro hx1 B0))))
     clear B0 hO1 hbw1 hs1 hx1
     go_wp2_with (first | ((with_reducible change wpList _ _ _ (_ :: _ :: _ :: _ :: _ :: _ :: _ :: []) _ (World.alloc _ _)); generalize wr.alloc (.cells (evCells (⟨3, 3, 0, vt, ty, lb⟩ : Ev) (.slice A1 ty.labels.length c1) (.slice A2 ty.kids.length c2)) 32) = W1 at HW1 hnew ⊢; obtain ⟨hO1, hbw1, hs1, hx1, B0⟩ := HW1.out; clear HW1; have y0 := hO1.c; have y1 := hO1.f; obtain ⟨b0, b1, b2, b3, b4, b5, b6, b7, b8, b9⟩ := hx1.box) | (at_builtin; (refine wpList_app1 rt_bytes W1 (.int .u8 3) rfl (.tmp 19) (.tmp 23) rfl w.heap.size (.slice A3 (out.length) c3) out.length (Lib.byteCells out) rfl hO1.r rfl rfl (by simp; omega) (by simp; omega) hs1 ?_; intro v3 w3 o1 o2 o3 o4; have hx3 := wbox_app hx1 o2 hqo; have hq3 : v3.ownBlock ≠ some wr.heap.size := wrow_other hqo hx1.lt o3; obtain ⟨yy0, yy1, hO3⟩ := hO1.one (K := 3) o2 (byteRow_one o1 rfl) o3; obtain ⟨AA3, cc3, rfl⟩ := own_form o1; (try simp only [List.length_append, List.length_singleton] at hO3); (try simp only [List.length_append, List.length_singleton] at hq3); have hbw3 := (hbw1.trans o4).setCell (p := ⟨w.heap.size, 0, none⟩) (Nat.le_refl _) (.slice AA3 (out.length + 1) cc3); clear o1 o2 o3 o4 b0 b1 b2 b3 b4 b5 b6 b7 b8 b9 y0 y1; obtain ⟨b0, b1, b2, b3, b4, b5, b6, b7, b8, b9⟩ := hx3.box)) | ((with_reducible change wpList _ _ _ (_ :: _ :: []) _ (World.setCell _ _ _)); have hxx3 := hx3.beside (u := (.slice AA3 (out.length + 1) cc3)) hqp; have hs3 := hbw3.size; clear yy0 yy1 hx3 b0 b1 b2 b3 b4 b5 b6 b7 b8 b9; generalize w3.setCell ⟨w.heap.size, 0, none⟩ (.slice AA3 (out.length + 1) cc3) = W3 at hO3 hbw3 hxx3 hs3 ⊢; obtain ⟨b0, b1, b2, b3, b4, b5, b6, b7, b8, b9⟩ := hxx3.box; have y0 := hO3.c; have y1 := hO3.f) | (at_builtin; (refine wpList_app1 rt_bytes W3 (.int .u8 3) rfl (.tmp 34) (.tmp 39) rfl w.heap.size (.slice AA3 (out.length + 1) cc3) (out ++ [3]).length (Lib.byteCells (out ++ [3])) rfl hO3.r rfl rfl (by simp; omega) (by simp; omega) hs3 ?_; intro v4 w4 o1 o2 o3 o4; have hx4 := wbox_app hxx3 o2 hq3; have hq4 : v4.ownBlock ≠ some wr.heap.size := wrow_other hq3 hxx3.lt o3; obtain ⟨yy0, yy1, hO4⟩ := hO3.one (K := 3) o2 (byteRow_one o1 rfl) o3; obtain ⟨AA4, cc4, rfl⟩ := own_form o1; (try simp only [List.length_append, List.length_singleton] at hO4); (try simp only [List.length_append, List.length_singleton] at hq4); have hbw4 := (hbw3.trans o4).setCell (p := ⟨w.heap.size, 0, none⟩) (Nat.le_refl _) (.slice AA4 (out.length + 1 + 1) cc4); clear o1 o2 o3 o4 b0 b1 b2 b3 b4 b5 b6 b7 b8 b9 y0 y1; obtain ⟨b0, b1, b2, b3, b4, b5, b6, b7, b8, b9⟩ := hx4.box)) | ((with_reducible change wpList _ _ _ (_ :: _ :: _ :: _ :: []) _ (World.setCell _ _ _)); have hxx4 := hx4.beside (u := (.slice AA4 (out.length + 1 + 1) cc4)) hqp; have hs4 := hbw4.size; clear yy0 yy1 hx4 b0 b1 b2 b3 b4 b5 b6 b7 b8 b9; generalize w4.setCell ⟨w.heap.size, 0, none⟩ (.slice AA4 (out.length + 1 + 1) cc4) = W4 at hO4 hbw4 hxx4 hs4 ⊢; obtain ⟨b0, b1, b2, b3, b4, b5, b6, b7, b8, b9⟩ := hxx4.box; have y0 := hO4.c; have y1 := hO4.f))
     clear b0 b1 b2 b3 b4 b5 b6 b7 b8 b9 y0 y1
     refine (wtext1_any w.heap.size w.heap.size _ (out ++ [3] ++ [3]) vt W4 hO4 (by omega) (by simp; omega) hs4).mono ?_
     rintro r w9 ⟨rfl, ⟨v9, hO9⟩, hb9⟩
     have hrow := hO9
     rw [show out ++ [3] ++ [3] ++ gtext vt = out ++ wireOf (⟨3, 3, 0, vt, ty, lb⟩ : Ev) by rw [wo_text3 vt ty lb]; simp] at hrow
     have hlen : (out ++ wireOf (⟨3, 3, 0, vt, ty, lb⟩ : Ev)).length ≤ (j + 1) * 7000 := by rw [List.length_append]; have := hlw.out; omega
     go_wp2_with fail
     go_roundw
     case rel => exact ⟨j + 1, out ++ wireOf (⟨3, 3, 0, vt, ty, lb⟩ : Ev), v9, by omega, by go_num, HWA, hlen, hrow, hbw4.trans hb9⟩
     case measure => simp [intOf] <;> omega

   | type k vs vn vt ty lb hk ht =>
    dsimp only at e0 e1 e2 e3 e4 e5 e6 e7 e8 e9 HIN hnew
    rcases hk with rfl | rfl
    ·have B0 : Below wr.heap.size wr (wr.alloc (.cells (evCells (⟨4, vs, vn, vt, ty, lb⟩ : Ev) (.slice A1 ty.labels.length c1) (.slice A2 ty.kids.length c2)) 32)) := by go_grown
     have hO1 := hO.out.keep B0
     have hbw1 := hb.trans (B0.mono hszr)
     have hs1 := hbw1.size
     have hx1 := hnew.out
     have HW1 := Lib.hid (And.intro hO1 (And.intro hbw1 (And.intro hs1 (And.intro hx1 B0))))
     clear B0 hO1 hbw1 hs1 hx1
     go_wp2_with (first | ((with_reducible change wpList _ _ _ (_ :: _ :: _ :: _ :: _ :: _ :: _ :: []) _ (World.alloc _ _)); generalize wr.alloc (.cells (evCells (⟨4, vs, vn, vt, ty, lb⟩ : Ev) (.slice A1 ty.labels.length c1) (.slice A2 ty.kids.length c2)) 32) = W1 at HW1 hnew ⊢; obtain ⟨hO1, hbw1, hs1, hx1, B0⟩ := HW1.out; clear HW1; have y0 := hO1.c; have y1 := hO1.f; obtain ⟨b0, b1, b2, b3, b4, b5, b6, b7, b8, b9⟩ := hx1.box) | (at_builtin; (refine wpList_app1 rt_bytes W1 (.int .u8 4) rfl (.tmp 19) (.tmp 23) rfl w.heap.size (.slice A3 (out.length) c3) out.length (Lib.byteCells out) rfl hO1.r rfl rfl (by simp; omega) (by simp; omega) hs1 ?_; intro v3 w3 o1 o2 o3 o4; have hx3 := wbox_app hx1 o2 hqo; have hq3 : v3.ownBlock ≠ some wr.heap.size := wrow_other hqo hx1.lt o3; obtain ⟨yy0, yy1, hO3⟩ := hO1.one (K := 4) o2 (byteRow_one o1 rfl) o3; obtain ⟨AA3, cc3, rfl⟩ := own_form o1; (try simp only [List.length_append, List.length_singleton] at hO3); (try simp only [List.length_append, List.length_singleton] at hq3); have hbw3 := (hbw1.trans o4).setCell (p := ⟨w.heap.size, 0, none⟩) (Nat.le_refl _) (.slice AA3 (out.length + 1) cc3); clear o1 o2 o3 o4 b0 b1 b2 b3 b4 b5 b6 b7 b8 b9 y0 y1; obtain ⟨b0, b1, b2, b3, b4, b5, b6, b7, b8, b9⟩ := hx3.box)) | ((with_reducible change wpList _ _ _ (_ :: _ :: []) _ (World.setCell _ _ _)); have hxx3 := hx3.beside (u := (.slice AA3 (out.length + 1) cc3)) hqp; have hs3 := hbw3.size; clear yy0 yy1 hx3 b0 b1 b2 b3 b4 b5 b6 b7 b8 b9; generalize w3.setCell ⟨w.heap.size, 0, none⟩ (.slice AA3 (out.length + 1) cc3) = W3 at hO3 hbw3 hxx3 hs3 ⊢; obtain ⟨b0, b1, b2, b3, b4, b5, b6, b7, b8, b9⟩ := hxx3.box; have y0 := hO3.c; have y1 := hO3.f))
     clear b0 b1 b2 b3 b4 b5 b6 b7 b8 b9 y0 y1
     have hp := parts_ok ht
     have hg := good_of_chk ty [] 60 ht
     have htl := txt_len ty hg
     have hcall := refText_any (parts ty) ty _ W3 (Nat.le_refl _) hp (HIN.out.below hbw3).ty.is hg
     unfold TextSays at hcall
     refine hcall.mono ?_
     clear hcall
     rintro r w4 ⟨rfl, hb4⟩
     have hO4 := hO3.keep hb4
     have hbw4 := chain hbw3 hb4
     go_wp2_with fail
     refine (wtext1_any w.heap.size w.heap.size _ (out ++ [4]) (txt ty) w4 hO4 (by omega) (by simp; omega) hbw4.size).mono ?_
     rintro r w9 ⟨rfl, ⟨v9, hO9⟩, hb9⟩
     have hrow := hO9
     rw [show out ++ [4] ++ gtext (txt ty) = out ++ wireOf (⟨4, vs, vn, vt, ty, lb⟩ : Ev) by rw [wo_type4 vs vn vt ty lb]; simp] at hrow
     have hlen : (out ++ wireOf (⟨4, vs, vn, vt, ty, lb⟩ : Ev)).length ≤ (j + 1) * 7000 := by rw [List.length_append]; have := hlw.out; omega
     go_wp2_with fail
     go_roundw
     case rel => exact ⟨j + 1, out ++ wireOf (⟨4, vs, vn, vt, ty, lb⟩ : Ev), v9, by omega, by go_num, HWA, hlen, hrow, hbw4.trans hb9⟩
     case measure => simp [intOf] <;> omega

    ·have B0 : Below wr.heap.size wr (wr.alloc (.cells (evCells (⟨5, vs, vn, vt, ty, lb⟩ : Ev) (.slice A1 ty.labels.length c1) (.slice A2 ty.kids.length c2)) 32)) := by go_grown
     have hO1 := hO.out.keep B0
     have hbw1 := hb.trans (B0.mono hszr)
     have hs1 := hbw1.size
     have hx1 := hnew.out
     have HW1 := Lib.hid (And.intro hO1 (And.intro hbw1 (And.intro hs1 (And.intro hx1 B0))))
     clear B0 hO1 hbw1 hs1 hx1
     go_wp2_with (first | ((with_reducible change wpList _ _ _ (_ :: _ :: _ :: _ :: _ :: _ :: _ :: []) _ (World.alloc _ _)); generalize wr.alloc (.cells (evCells (⟨5, vs, vn, vt, ty, lb⟩ : Ev) (.slice A1 ty.labels.length c1) (.slice A2 ty.kids.length c2)) 32) = W1 at HW1 hnew ⊢; obtain ⟨hO1, hbw1, hs1, hx1, B0⟩ := HW1.out; clear HW1; have y0 := hO1.c; have y1 := hO1.f; obtain ⟨b0, b1, b2, b3, b4, b5, b6, b7, b8, b9⟩ := hx1.box) | (at_builtin; (refine wpList_app1 rt_bytes W1 (.int .u8 5) rfl (.tmp 19) (.tmp 23) rfl w.heap.size (.slice A3 (out.length) c3) out.length (Lib.byteCells out) rfl hO1.r rfl rfl (by simp; omega) (by simp; omega) hs1 ?_; intro v3 w3 o1 o2 o3 o4; have hx3 := wbox_app hx1 o2 hqo; have hq3 : v3.ownBlock ≠ some wr.heap.size := wrow_other hqo hx1.lt o3; obtain ⟨yy0, yy1, hO3⟩ := hO1.one (K := 5) o2 (byteRow_one o1 rfl) o3; obtain ⟨AA3, cc3, rfl⟩ := own_form o1; (try simp only [List.length_append, List.length_singleton] at hO3); (try simp only [List.length_append, List.length_singleton] at hq3); have hbw3 := (hbw1.trans o4).setCell (p := ⟨w.heap.size, 0, none⟩) (Nat.le_refl _) (.slice AA3 (out.length + 1) cc3); clear o1 o2 o3 o4 b0 b1 b2 b3 b4 b5 b6 b7 b8 b9 y0 y1; obtain ⟨b0, b1, b2, b3, b4, b5, b6, b7, b8, b9⟩ := hx3.box)) | ((with_reducible change wpList _ _ _ (_ :: _ :: []) _ (World.setCell _ _ _)); have hxx3 := hx3.beside (u := (.slice AA3 (out.length + 1) cc3)) hqp; have hs3 := hbw3.size; clear yy0 yy1 hx3 b0 b1 b2 b3 b4 b5 b6 b7 b8 b9; generalize w3.setCell ⟨w.heap.size, 0, none⟩ (.slice AA3 (out.length + 1) cc3) = W3 at hO3 hbw3 hxx3 hs3 ⊢; obtain ⟨b0, b1, b2, b3, b4, b5, b6, b7, b8, b9⟩ := hxx3.box; have y0 := hO3.c; have y1 := hO3.f))
     clear b0 b1 b2 b3 b4 b5 b6 b7 b8 b9 y0 y1
     have hp := parts_ok ht
     have hg := good_of_chk ty [] 60 ht
     have htl := txt_len ty hg
     have hcall := refText_any (parts ty) ty _ W3 (Nat.le_refl _) hp (HIN.out.below hbw3).ty.is hg
     unfold TextSays at hcall
     refine hcall.mono ?_
     clear hcall
     rintro r w4 ⟨rfl, hb4⟩
     have hO4 := hO3.keep hb4
     have hbw4 := chain hbw3 hb4
     go_wp2_with fail
     refine (wtext1_any w.heap.size w.heap.size _ (out ++ [5]) (txt ty) w4 hO4 (by omega) (by simp; omega) hbw4.size).mono ?_
     rintro r w9 ⟨rfl, ⟨v9, hO9⟩, hb9⟩
     have hrow := hO9
     rw [show out ++ [5] ++ gtext (txt ty) = out ++ wireOf (⟨5, vs, vn, vt, ty, lb⟩ : Ev) by rw [wo_type5 vs vn vt ty lb]; simp] at hrow
     have hlen : (out ++ wireOf (⟨5, vs, vn, vt, ty, lb⟩ : Ev)).length ≤ (j + 1) * 7000 := by rw [List.length_append]; have := hlw.out; omega
     go_wp2_with fail
     go_roundw
     case rel => exact ⟨j + 1, out ++ wireOf (⟨5, vs, vn, vt, ty, lb⟩ : Ev), v9, by omega, by go_num, HWA, hlen, hrow, hbw4.trans hb9⟩
     case measure => simp [intOf] <;> omega

   | label k vs vn vt ty lb hk hl =>
    dsimp only at e0 e1 e2 e3 e4 e5 e6 e7 e8 e9 HIN hnew
    rcases hk with rfl | rfl
    ·have B0 : Below wr.heap.size wr (wr.alloc (.cells (evCells (⟨6, vs, vn, vt, ty, lb⟩ : Ev) (.slice A1 ty.labels.length c1) (.slice A2 ty.kids.length c2)) 32)) := by go_grown
     have hO1 := hO.out.keep B0
     have hbw1 := hb.trans (B0.mono hszr)
     have hs1 := hbw1.size
     have hx1 := hnew.out
     have HW1 := Lib.hid (And.intro hO1 (And.intro hbw1 (And.intro hs1 (And.intro hx1 B0))))
     clear B0 hO1 hbw1 hs1 hx1
     go_wp2_with (first | ((with_reducible change wpList _ _ _ (_ :: _ :: _ :: _ :: _ :: _ :: _ :: []) _ (World.alloc _ _)); generalize wr.alloc (.cells (evCells (⟨6, vs, vn, vt, ty, lb⟩ : Ev) (.slice A1 ty.labels.length c1) (.slice A2 ty.kids.length c2)) 32) = W1 at HW1 hnew ⊢; obtain ⟨hO1, hbw1, hs1, hx1, B0⟩ := HW1.out; clear HW1; have y0 := hO1.c; have y1 := hO1.f; obtain ⟨b0, b1, b2, b3, b4, b5, b6, b7, b8, b9⟩ := hx1.box) | (at_builtin; (refine wpList_app1 rt_bytes W1 (.int .u8 6) rfl (.tmp 19) (.tmp 23) rfl w.heap.size (.slice A3 (out.length) c3) out.length (Lib.byteCells out) rfl hO1.r rfl rfl (by simp; omega) (by simp; omega) hs1 ?_; intro v3 w3 o1 o2 o3 o4; have hx3 := wbox_app hx1 o2 hqo; have hq3 : v3.ownBlock ≠ some wr.heap.size := wrow_other hqo hx1.lt o3; obtain ⟨yy0, yy1, hO3⟩ := hO1.one (K := 6) o2 (byteRow_one o1 rfl) o3; obtain ⟨AA3, cc3, rfl⟩ := own_form o1; (try simp only [List.length_append, List.length_singleton] at hO3); (try simp only [List.length_append, List.length_singleton] at hq3); have hbw3 := (hbw1.trans o4).setCell (p := ⟨w.heap.size, 0, none⟩) (Nat.le_refl _) (.slice AA3 (out.length + 1) cc3); clear o1 o2 o3 o4 b0 b1 b2 b3 b4 b5 b6 b7 b8 b9 y0 y1; obtain ⟨b0, b1, b2, b3, b4, b5, b6, b7, b8, b9⟩ := hx3.box)) | ((with_reducible change wpList _ _ _ (_ :: _ :: []) _ (World.setCell _ _ _)); have hxx3 := hx3.beside (u := (.slice AA3 (out.length + 1) cc3)) hqp; have hs3 := hbw3.size; clear yy0 yy1 hx3 b0 b1 b2 b3 b4 b5 b6 b7 b8 b9; generalize w3.setCell ⟨w.heap.size, 0, none⟩ (.slice AA3 (out.length + 1) cc3) = W3 at hO3 hbw3 hxx3 hs3 ⊢; obtain ⟨b0, b1, b2, b3, b4, b5, b6, b7, b8, b9⟩ := hxx3.box; have y0 := hO3.c; have y1 := hO3.f))
     clear b0 b1 b2 b3 b4 b5 b6 b7 b8 b9 y0 y1
     refine (wtext1_any w.heap.size w.heap.size _ (out ++ [6]) lb W3 hO3 (by omega) (by simp; omega) hs3).mono ?_
     rintro r w9 ⟨rfl, ⟨v9, hO9⟩, hb9⟩
     have hrow := hO9
     rw [show out ++ [6] ++ gtext lb = out ++ wireOf (⟨6, vs, vn, vt, ty, lb⟩ : Ev) by rw [wo_label6 vs vn vt ty lb]; simp] at hrow
     have hlen : (out ++ wireOf (⟨6, vs, vn, vt, ty, lb⟩ : Ev)).length ≤ (j + 1) * 7000 := by rw [List.length_append]; have := hlw.out; omega
     go_wp2_with fail
     go_roundw
     case rel => exact ⟨j + 1, out ++ wireOf (⟨6, vs, vn, vt, ty, lb⟩ : Ev), v9, by omega, by go_num, HWA, hlen, hrow, hbw3.trans hb9⟩
     case measure => simp [intOf] <;> omega

    ·have B0 : Below wr.heap.size wr (wr.alloc (.cells (evCells (⟨7, vs, vn, vt, ty, lb⟩ : Ev) (.slice A1 ty.labels.length c1) (.slice A2 ty.kids.length c2)) 32)) := by go_grown
     have hO1 := hO.out.keep B0
     have hbw1 := hb.trans (B0.mono hszr)
     have hs1 := hbw1.size
     have hx1 := hnew.out
     have HW1 := Lib.hid (And.intro hO1 (And.intro hbw1 (And.intro hs1 (And.intro hx1 B0))))
     clear B0 hO1 hbw1 hs1 hx1
     go_wp2_with (first | ((with_reducible change wpList _ _ _ (_ :: _ :: _ :: _ :: _ :: _ :: _ :: []) _ (World.alloc _ _)); generalize wr.alloc (.cells (evCells (⟨7, vs, vn, vt, ty, lb⟩ : Ev) (.slice A1 ty.labels.length c1) (.slice A2 ty.kids.length c2)) 32) = W1 at HW1 hnew ⊢; obtain ⟨hO1, hbw1, hs1, hx1, B0⟩ := HW1.out; clear HW1; have y0 := hO1.c; have y1 := hO1.f; obtain ⟨b0, b1, b2, b3, b4, b5, b6, b7, b8, b9⟩ := hx1.box) | (at_builtin; (refine wpList_app1 rt_bytes W1 (.int .u8 7) rfl (.tmp 19) (.tmp 23) rfl w.heap.size (.slice A3 (out.length) c3) out.length (Lib.byteCells out) rfl hO1.r rfl rfl (by simp; omega) (by simp; omega) hs1 ?_; intro v3 w3 o1 o2 o3 o4; have hx3 := wbox_app hx1 o2 hqo; have hq3 : v3.ownBlock ≠ some wr.heap.size := wrow_other hqo hx1.lt o3; obtain ⟨yy0, yy1, hO3⟩ := hO1.one (K := 7) o2 (byteRow_one o1 rfl) o3; obtain ⟨AA3, cc3, rfl⟩ := own_form o1; (try simp only [List.length_append, List.length_singleton] at hO3); (try simp only [List.length_append, List.length_singleton] at hq3); have hbw3 := (hbw1.trans o4).setCell (p := ⟨w.heap.size, 0, none⟩) (Nat.le_refl _) (.slice AA3 (out.length + 1) cc3); clear o1 o2 o3 o4 b0 b1 b2 b3 b4 b5 b6 b7 b8 b9 y0 y1; obtain ⟨b0, b1, b2, b3, b4, b5, b6, b7, b8, b9⟩ := hx3.box)) | ((with_reducible change wpList _ _ _ (_ :: _ :: []) _ (World.setCell _ _ _)); have hxx3 := hx3.beside (u := (.slice AA3 (out.length + 1) cc3)) hqp; have hs3 := hbw3.size; clear yy0 yy1 hx3 b0 b1 b2 b3 b4 b5 b6 b7 b8 b9; generalize w3.setCell ⟨w.heap.size, 0, none⟩ (.slice AA3 (out.length + 1) cc3) = W3 at hO3 hbw3 hxx3 hs3 ⊢; obtain ⟨b0, b1, b2, b3, b4, b5, b6, b7, b8, b9⟩ := hxx3.box; have y0 := hO3.c; have y1 := hO3.f))
     clear b0 b1 b2 b3 b4 b5 b6 b7 b8 b9 y0 y1
     refine (wtext1_any w.heap.size w.heap.size _ (out ++ [7]) lb W3 hO3 (by omega) (by simp; omega) hs3).mono ?_
     rintro r w9 ⟨rfl, ⟨v9, hO9⟩, hb9⟩
     have hrow := hO9
     rw [show out ++ [7] ++ gtext lb = out ++ wireOf (⟨7, vs, vn, vt, ty, lb⟩ : Ev) by rw [wo_label7 vs vn vt ty lb]; simp] at hrow
     have hlen : (out ++ wireOf (⟨7, vs, vn, vt, ty, lb⟩ : Ev)).length ≤ (j + 1) * 7000 := by rw [List.length_append]; have := hlw.out; omega
     go_wp2_with fail
     go_roundw
     case rel => exact ⟨j + 1, out ++ wireOf (⟨7, vs, vn, vt, ty, lb⟩ : Ev), v9, by omega, by go_num, HWA, hlen, hrow, hbw3.trans hb9⟩
     case measure => simp [intOf] <;> omega

  ·obtain rfl : j = L := by omega
   have hwl : wireAll l = out := by
    have := hout.out
    rw [List.take_of_length_le (by rw [HL.out]; exact Nat.le_refl _)] at this
    exact this
   have hres : TXT = out := by rw [← HTXT.out, hwl]
   subst hres
   have hcv := conv_bytes0 hO.out.r
   have y0 := hO.out.c
   clear hout hwl
   go_wp2_with fail
   go_ret
   exact ⟨rfl, hb⟩
end Go.Proofs.YtpidjanngbaiiaaGreatDoor
