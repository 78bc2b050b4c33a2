/-
  The program's reader of expressions: one, by what stands there.
-/
import Derived.Test.YtpidjanngbaiiaaGreatDoorYpL
import Derived.Test.YtpidjanngbaiiaaGreatDoorM11
import Derived.Test.YtpidjanngbaiiaaGreatDoorM4
namespace Go.Proofs.YtpidjanngbaiiaaGreatDoor
open Go.RowKit Go.Proofs

set_option maxRecDepth 100000
theorem ExBox.at {w : World} {b : Nat} {t : Ex} {kv : Value} {D : Blocks} (h : ExBox w b t kv) (hk : Exs D w kv t.kids) : ExAt D w b 0 t := (ExAt_iff _ _ _ _ _).2 ⟨kv, h.c0, h.c1, h.c2, h.c3, h.c4, h.c5, hk⟩
theorem row_new1 {w : World} {D D' : Blocks} {t : Ex} {kv : Value} (E : TypeId) (h : Exs D w kv t.kids) (hD : ∀ k, D k → D' k) (hs : D' w.heap.size) :
  Exs D' (w.alloc (.cells #[.int .i64 t.kind, .string ⟨t.name.toArray⟩, .int .i64 t.vs, .int .i64 t.vn, .string ⟨t.vt.toArray⟩, kv] E)) (.slice (some ⟨w.heap.size, 0, none⟩) 1 1) [t] := by
 have hb : Below w.heap.size w (w.alloc (.cells #[.int .i64 t.kind, .string ⟨t.name.toArray⟩, .int .i64 t.vs, .int .i64 t.vn, .string ⟨t.vt.toArray⟩, kv] E)) := by go_grown
 exact ⟨_, 1, rfl, Nat.le_refl _, (fun e => by cases e), fun _ => ⟨w.heap.size, 0, rfl, hs, (new_exval w t kv E).at (h.keep (Same.below hb) (fun k hk _ => hD k hk)), trivial⟩⟩
theorem eword_sk (l : Str) (p : Nat) : eword l (sk l p) = eword l p := by unfold eword; rw [sk_sk]
structure Bs (W0 w : World) (b : Nat) : Prop where
 l : Laid W0
 w : Below W0.heap.size W0 w
 b : W0.heap.size ≤ b
theorem Bs.grown {W0 w w' : World} {b : Nat} (h : Bs W0 w b) (hg : w.grownBy w' (some b)) : Bs W0 w' b := ⟨h.l, ⟨hg.os.trans h.w.os, hg.tape.trans h.w.tape, hg.output.trans h.w.output, Nat.le_trans h.w.size hg.size, fun q hl => (hg.block q (Nat.lt_of_lt_of_le hl h.w.size) (fun e => by have := h.b; injection e; omega)).trans (h.w.block q hl)⟩, h.b⟩
theorem Bs.laid {W0 w : World} {b : Nat} (h : Bs W0 w b) : Laid w := h.l.below h.w
def unR (u : Str) : Yd.Res Ex → Yd.Res Ex
 | .ok x q => .ok (unX u x) q
 | r => r
def skR (l : Str) : Yd.Res Ex → Yd.Res Ex
 | .ok x q => .ok x (sk l q)
 | r => r
def parR (l : Str) : Yd.Res Ex → Yd.Res Ex
 | .ok x q => match eclose l q with
  | some q' => .ok x q'
  | none => .err 3 (sk l q)
 | r => r
set_option maxHeartbeats 4000000 in
theorem eone_bad (l : Str) (b p : Nat) (w : World) (hl : l.length ≤ 2000) (hR : RBox w b l p) (q : Nat) (hq : q ≤ l.length) (W : Str) (hcall : ∀ w, RBox w b l p → Calls Tryz.prog 86 #[.pointer (some ⟨b, 0, none⟩)] w fun e w' => e = .returned (.string ⟨W.toArray⟩) ∧ w.grownBy w' (some b) ∧ RBox w' b l q) (n1 : (W == [110, 111, 116]) = false) (n2 : (W == [35]) = false) (n3 : (W == [45]) = false) (n4 : (W == [40]) = false) (hn : isName W = false) (n5 : List.isEmpty W = false) (n6 : (W == [116, 114, 117, 101]) = false) (n7 : (W == [102, 97, 108, 115, 101]) = false) (hWl : W.length ≤ 2000) :
  Calls Tryz.prog 85 #[.pointer (some ⟨b, 0, none⟩)] w (AnsE w b l (.err 3 q)) := by
 have hbw := hR.lt
 go_enter Tryz.func85, Tryz.ntmps85
 go_wp2_with fail
 have XB := new_exbox w 52
 have hbW : Below w.heap.size w (w.alloc (.cells #[.int .i64 0, .string ⟨#[]⟩, .int .i64 0, .int .i64 0, .string ⟨#[]⟩, .slice none 0 0] 52)) := by go_grown
 have hR0 := hR.keep hbW
 have hg0 := grown_belowB (grown_refl w b) hbW
 have hz0 : (w.alloc (.cells #[.int .i64 0, .string ⟨#[]⟩, .int .i64 0, .int .i64 0, .string ⟨#[]⟩, .slice none 0 0] 52)).heap.size = w.heap.size + 1 := by simp
 generalize w.alloc (.cells #[.int .i64 0, .string ⟨#[]⟩, .int .i64 0, .int .i64 0, .string ⟨#[]⟩, .slice none 0 0] 52) = w0 at XB hR0 hg0 hz0 ⊢
 clear hbW hR
 have hne1 : ¬ w.heap.size = b := by omega
 have hne2 : ¬ b = w.heap.size := by omega
 refine (hcall w0 hR0).mono ?_
 rintro e w1 ⟨rfl, hg, hR1⟩
 have hg1 := grown_trans hg0 hg
 have XB1 := XB.grown hg (fun e => hne1 (Option.some.inj e))
 have hz1 : w.heap.size + 1 ≤ w1.heap.size := by rw [← hz0]; exact hg.size
 clear hg hR0 hg0 XB hz0 hcall
 clear w0
 obtain ⟨r0, r1, r2, r3⟩ := id hR1
 have hnm := Lib.hid (fun w => isName_any W w (by omega))
 rw [hn] at hnm
 clear hn
 go_wp2_with fail
 refine (hnm.out _).mono ?_
 rintro e w2 ⟨rfl, hb2⟩
 have hR2 := hR1.keep hb2
 have hg2 := grown_belowB hg1 hb2
 go_wp2_with fail
 refine (efail_any 3 l b q _ hR2).mono ?_
 rintro e w3 ⟨rfl, hg3⟩
 exact ⟨rfl, grown_trans hg2 hg3, rfl⟩
set_option maxHeartbeats 4000000 in
theorem eone_not (l : Str) (b p : Nat) (w : World) (hl : l.length ≤ 2000) (hR : RBox w b l p) (q : Nat) (hq : q ≤ l.length) (hcall : ∀ w, RBox w b l p → Calls Tryz.prog 86 #[.pointer (some ⟨b, 0, none⟩)] w fun e w' => e = .returned (.string ⟨#[110, 111, 116]⟩) ∧ w.grownBy w' (some b) ∧ RBox w' b l q) (W0 : World) (hB : Bs W0 w b) (z : Nat) (hz : q + 3 = z) (hzl : z ≤ l.length) (rr : Yd.Res Ex) (ih : ∀ w, RBox w b l z → Bs W0 w b → Calls Tryz.prog 85 #[.pointer (some ⟨b, 0, none⟩)] w (AnsE w b l rr)) :
  Calls Tryz.prog 85 #[.pointer (some ⟨b, 0, none⟩)] w (AnsE w b l (unR [110, 111, 116] rr)) := by
 have hbw := hR.lt
 go_enter Tryz.func85, Tryz.ntmps85
 go_wp2_with fail
 have XB := new_exbox w 52
 have hbW : Below w.heap.size w (w.alloc (.cells #[.int .i64 0, .string ⟨#[]⟩, .int .i64 0, .int .i64 0, .string ⟨#[]⟩, .slice none 0 0] 52)) := by go_grown
 have hR0 := hR.keep hbW
 have hg0 := grown_belowB (grown_refl w b) hbW
 have hz0 : (w.alloc (.cells #[.int .i64 0, .string ⟨#[]⟩, .int .i64 0, .int .i64 0, .string ⟨#[]⟩, .slice none 0 0] 52)).heap.size = w.heap.size + 1 := by simp
 generalize w.alloc (.cells #[.int .i64 0, .string ⟨#[]⟩, .int .i64 0, .int .i64 0, .string ⟨#[]⟩, .slice none 0 0] 52) = w0 at XB hR0 hg0 hz0 ⊢
 clear hbW hR
 have hne1 : ¬ w.heap.size = b := by omega
 have hne2 : ¬ b = w.heap.size := by omega
 refine (hcall w0 hR0).mono ?_
 rintro e w1 ⟨rfl, hg, hR1⟩
 have hg1 := grown_trans hg0 hg
 have XB1 := XB.grown hg (fun e => hne1 (Option.some.inj e))
 have hz1 : w.heap.size + 1 ≤ w1.heap.size := by rw [← hz0]; exact hg.size
 clear hg hR0 hg0 XB hz0 hcall
 clear w0
 obtain ⟨r0, r1, r2, r3⟩ := id hR1
 have hz' : (q : Int) + 3 = (z : Int) := by omega
 clear hz
 go_wp2_with (rw [hz'])
 have hR2 := hR1.set z
 have hg2 := grown_trans hg1 (grown_at w1 b 1 (.int .i64 (z : Int)))
 have XB2 := XB1.far (p := ⟨b, 1, none⟩) hne2 (.int .i64 (z : Int))
 have hz2 : w.heap.size + 1 ≤ (w1.setCell ⟨b, 1, none⟩ (.int .i64 (z : Int))).heap.size := by rw [World.size_setCell]; exact hz1
 generalize w1.setCell ⟨b, 1, none⟩ (.int .i64 (z : Int)) = w2 at hR2 hg2 XB2 hz2 ⊢
 clear r0 r1 r2 r3 XB1 hR1 hg1 hz1
 clear w1
 refine (ih w2 hR2 (hB.grown hg2)).mono ?_
 rintro e w3 ⟨hg3, hans⟩
 cases rr with
 | err c q2 =>
  obtain rfl := hans
  exact ⟨rfl, grown_trans hg2 hg3, rfl⟩
 | ok x q2 =>
  obtain ⟨v, rfl, hv, hR4⟩ := hans
  have hg4 := grown_trans hg2 hg3
  have XB4 := XB2.grown hg3 (fun e => hne1 (Option.some.inj e))
  have hz4 : w.heap.size + 1 ≤ w3.heap.size := Nat.le_trans hz2 hg3.size
  obtain ⟨A, n, c, rfl, hk⟩ := hv.one'
  have HK := Lib.hid hk
  clear hk hv XB2 hR2 hg2 hg3
  rename_i K3 K2 K1 k3 k2 k1
  have H2 := Lib.hid k2
  have H3 := Lib.hid k3
  clear k2 k3
  have hb5 : Below w3.heap.size w3 (w3.alloc (.cells #[.int .i64 x.kind, .string ⟨x.name.toArray⟩, .int .i64 x.vs, .int .i64 x.vn, .string ⟨x.vt.toArray⟩, .slice A n c] 52)) := by go_grown
  have hk5 := row_new1 (D' := fun k => w.heap.size ≤ k ∧ k ≠ w.heap.size) 52 HK.out (fun k hk => by have : w2.heap.size ≤ k := hk; omega) (by omega)
  obtain ⟨wn, hwn⟩ : ∃ y, (w3.alloc (.cells #[.int .i64 x.kind, .string ⟨x.name.toArray⟩, .int .i64 x.vs, .int .i64 x.vn, .string ⟨x.vt.toArray⟩, .slice A n c] 52)) = y := ⟨_, rfl⟩
  rw [hwn] at hb5 hk5
  have XB5 := XB4.keep hb5 XB4.lt
  have hR5 := hR4.keep hb5
  have hg5 := grown_belowB hg4 hb5
  have hz5 : w.heap.size + 1 ≤ wn.heap.size := Nat.le_trans hz4 hb5.size
  obtain ⟨x0, x1, x2, x3, x4, x5, x6, x7⟩ := id XB5
  go_wp2_with (rw [hwn])
  clear hwn
  obtain ⟨WF, hW⟩ : ∃ wF, ((((((wn.setCell ⟨w.heap.size, 0, none⟩ (.int .i64 3)).setCell ⟨w.heap.size, 1, none⟩ (.string ⟨#[110, 111, 116]⟩)).setCell ⟨w.heap.size, 2, none⟩ (.int .i64 0)).setCell ⟨w.heap.size, 3, none⟩ (.int .i64 0)).setCell ⟨w.heap.size, 4, none⟩ (.string ⟨#[]⟩)).setCell ⟨w.heap.size, 5, none⟩ (.slice (some ⟨w3.heap.size, 0, none⟩) 1 1)) = wF := ⟨_, rfl⟩
  rw [hW]
  obtain ⟨hF, hgF, hRF, hT⟩ := efinish hbw (Nat.le_refl _) hg5 hR5 XB5 (unX [110, 111, 116] x) (.slice (some ⟨w3.heap.size, 0, none⟩) 1 1) hk5 hW
  clear hW x0 x1 x2 x3 x4 x5 x6 x7
  obtain ⟨d0, d1, d2, d3, d4, d5, d6, d7⟩ := hF
  refine H2.out _ _ ?_
  clear H2
  go_step
  refine bodyPost_ret (v := .agg #[.int .i64 3, .string ⟨#[110, 111, 116]⟩, .int .i64 0, .int .i64 0, .string ⟨#[]⟩, (.slice (some ⟨w3.heap.size, 0, none⟩) 1 1)]) (by simp [results, Tryz.results85, go_sem, d0, d1, d2, d3, d4, d5, Ex.kind, Ex.name, Ex.vs, Ex.vn, Ex.vt]) rfl ?_
  exact ⟨hgF, _, rfl, hT, hRF⟩
set_option maxHeartbeats 4000000 in
theorem eone_hash (l : Str) (b p : Nat) (w : World) (hl : l.length ≤ 2000) (hR : RBox w b l p) (q : Nat) (hq : q ≤ l.length) (hcall : ∀ w, RBox w b l p → Calls Tryz.prog 86 #[.pointer (some ⟨b, 0, none⟩)] w fun e w' => e = .returned (.string ⟨#[35]⟩) ∧ w.grownBy w' (some b) ∧ RBox w' b l q) (W0 : World) (hB : Bs W0 w b) (z : Nat) (hz : q + 1 = z) (hzl : z ≤ l.length) (rr : Yd.Res Ex) (ih : ∀ w, RBox w b l z → Bs W0 w b → Calls Tryz.prog 85 #[.pointer (some ⟨b, 0, none⟩)] w (AnsE w b l rr)) :
  Calls Tryz.prog 85 #[.pointer (some ⟨b, 0, none⟩)] w (AnsE w b l (unR [35] rr)) := by
 have hbw := hR.lt
 go_enter Tryz.func85, Tryz.ntmps85
 go_wp2_with fail
 have XB := new_exbox w 52
 have hbW : Below w.heap.size w (w.alloc (.cells #[.int .i64 0, .string ⟨#[]⟩, .int .i64 0, .int .i64 0, .string ⟨#[]⟩, .slice none 0 0] 52)) := by go_grown
 have hR0 := hR.keep hbW
 have hg0 := grown_belowB (grown_refl w b) hbW
 have hz0 : (w.alloc (.cells #[.int .i64 0, .string ⟨#[]⟩, .int .i64 0, .int .i64 0, .string ⟨#[]⟩, .slice none 0 0] 52)).heap.size = w.heap.size + 1 := by simp
 generalize w.alloc (.cells #[.int .i64 0, .string ⟨#[]⟩, .int .i64 0, .int .i64 0, .string ⟨#[]⟩, .slice none 0 0] 52) = w0 at XB hR0 hg0 hz0 ⊢
 clear hbW hR
 have hne1 : ¬ w.heap.size = b := by omega
 have hne2 : ¬ b = w.heap.size := by omega
 refine (hcall w0 hR0).mono ?_
 rintro e w1 ⟨rfl, hg, hR1⟩
 have hg1 := grown_trans hg0 hg
 have XB1 := XB.grown hg (fun e => hne1 (Option.some.inj e))
 have hz1 : w.heap.size + 1 ≤ w1.heap.size := by rw [← hz0]; exact hg.size
 clear hg hR0 hg0 XB hz0 hcall
 clear w0
 obtain ⟨r0, r1, r2, r3⟩ := id hR1
 have hz' : (q : Int) + 1 = (z : Int) := by omega
 clear hz
 go_wp2_with (rw [hz'])
 have hR2 := hR1.set z
 have hg2 := grown_trans hg1 (grown_at w1 b 1 (.int .i64 (z : Int)))
 have XB2 := XB1.far (p := ⟨b, 1, none⟩) hne2 (.int .i64 (z : Int))
 have hz2 : w.heap.size + 1 ≤ (w1.setCell ⟨b, 1, none⟩ (.int .i64 (z : Int))).heap.size := by rw [World.size_setCell]; exact hz1
 generalize w1.setCell ⟨b, 1, none⟩ (.int .i64 (z : Int)) = w2 at hR2 hg2 XB2 hz2 ⊢
 clear r0 r1 r2 r3 XB1 hR1 hg1 hz1
 clear w1
 refine (ih w2 hR2 (hB.grown hg2)).mono ?_
 rintro e w3 ⟨hg3, hans⟩
 cases rr with
 | err c q2 =>
  obtain rfl := hans
  exact ⟨rfl, grown_trans hg2 hg3, rfl⟩
 | ok x q2 =>
  obtain ⟨v, rfl, hv, hR4⟩ := hans
  have hg4 := grown_trans hg2 hg3
  have XB4 := XB2.grown hg3 (fun e => hne1 (Option.some.inj e))
  have hz4 : w.heap.size + 1 ≤ w3.heap.size := Nat.le_trans hz2 hg3.size
  obtain ⟨A, n, c, rfl, hk⟩ := hv.one'
  have HK := Lib.hid hk
  clear hk hv XB2 hR2 hg2 hg3
  rename_i K3 K2 K1 k3 k2 k1
  have H2 := Lib.hid k2
  have H3 := Lib.hid k3
  clear k2 k3
  have hb5 : Below w3.heap.size w3 (w3.alloc (.cells #[.int .i64 x.kind, .string ⟨x.name.toArray⟩, .int .i64 x.vs, .int .i64 x.vn, .string ⟨x.vt.toArray⟩, .slice A n c] 52)) := by go_grown
  have hk5 := row_new1 (D' := fun k => w.heap.size ≤ k ∧ k ≠ w.heap.size) 52 HK.out (fun k hk => by have : w2.heap.size ≤ k := hk; omega) (by omega)
  obtain ⟨wn, hwn⟩ : ∃ y, (w3.alloc (.cells #[.int .i64 x.kind, .string ⟨x.name.toArray⟩, .int .i64 x.vs, .int .i64 x.vn, .string ⟨x.vt.toArray⟩, .slice A n c] 52)) = y := ⟨_, rfl⟩
  rw [hwn] at hb5 hk5
  have XB5 := XB4.keep hb5 XB4.lt
  have hR5 := hR4.keep hb5
  have hg5 := grown_belowB hg4 hb5
  have hz5 : w.heap.size + 1 ≤ wn.heap.size := Nat.le_trans hz4 hb5.size
  obtain ⟨x0, x1, x2, x3, x4, x5, x6, x7⟩ := id XB5
  go_wp2_with (rw [hwn])
  clear hwn
  obtain ⟨WF, hW⟩ : ∃ wF, ((((((wn.setCell ⟨w.heap.size, 0, none⟩ (.int .i64 3)).setCell ⟨w.heap.size, 1, none⟩ (.string ⟨#[35]⟩)).setCell ⟨w.heap.size, 2, none⟩ (.int .i64 0)).setCell ⟨w.heap.size, 3, none⟩ (.int .i64 0)).setCell ⟨w.heap.size, 4, none⟩ (.string ⟨#[]⟩)).setCell ⟨w.heap.size, 5, none⟩ (.slice (some ⟨w3.heap.size, 0, none⟩) 1 1)) = wF := ⟨_, rfl⟩
  rw [hW]
  obtain ⟨hF, hgF, hRF, hT⟩ := efinish hbw (Nat.le_refl _) hg5 hR5 XB5 (unX [35] x) (.slice (some ⟨w3.heap.size, 0, none⟩) 1 1) hk5 hW
  clear hW x0 x1 x2 x3 x4 x5 x6 x7
  obtain ⟨d0, d1, d2, d3, d4, d5, d6, d7⟩ := hF
  refine H2.out _ _ ?_
  clear H2
  go_step
  refine bodyPost_ret (v := .agg #[.int .i64 3, .string ⟨#[35]⟩, .int .i64 0, .int .i64 0, .string ⟨#[]⟩, (.slice (some ⟨w3.heap.size, 0, none⟩) 1 1)]) (by simp [results, Tryz.results85, go_sem, d0, d1, d2, d3, d4, d5, Ex.kind, Ex.name, Ex.vs, Ex.vn, Ex.vt]) rfl ?_
  exact ⟨hgF, _, rfl, hT, hRF⟩
set_option maxHeartbeats 4000000 in
theorem eone_minus (l : Str) (b p : Nat) (w : World) (hl : l.length ≤ 2000) (hR : RBox w b l p) (q : Nat) (hq : q ≤ l.length) (hcall : ∀ w, RBox w b l p → Calls Tryz.prog 86 #[.pointer (some ⟨b, 0, none⟩)] w fun e w' => e = .returned (.string ⟨#[45]⟩) ∧ w.grownBy w' (some b) ∧ RBox w' b l q) (W0 : World) (hB : Bs W0 w b) (z : Nat) (hz : q + 1 = z) (hzl : z ≤ l.length) (x : UInt8) (hx : l[z]? = some x) (hfx : figb x = true) :
  Calls Tryz.prog 85 #[.pointer (some ⟨b, 0, none⟩)] w (AnsE w b l (litEnd l q)) := by
 obtain ⟨RR, hRR⟩ : ∃ x, litEnd l q = x := ⟨_, rfl⟩
 rw [hRR]
 have HRR := Lib.hid hRR
 clear hRR
 have hbw := hR.lt
 go_enter Tryz.func85, Tryz.ntmps85
 go_wp2_with fail
 have XB := new_exbox w 52
 have hbW : Below w.heap.size w (w.alloc (.cells #[.int .i64 0, .string ⟨#[]⟩, .int .i64 0, .int .i64 0, .string ⟨#[]⟩, .slice none 0 0] 52)) := by go_grown
 have hR0 := hR.keep hbW
 have hg0 := grown_belowB (grown_refl w b) hbW
 have hz0 : (w.alloc (.cells #[.int .i64 0, .string ⟨#[]⟩, .int .i64 0, .int .i64 0, .string ⟨#[]⟩, .slice none 0 0] 52)).heap.size = w.heap.size + 1 := by simp
 generalize w.alloc (.cells #[.int .i64 0, .string ⟨#[]⟩, .int .i64 0, .int .i64 0, .string ⟨#[]⟩, .slice none 0 0] 52) = w0 at XB hR0 hg0 hz0 ⊢
 clear hbW hR
 have hne1 : ¬ w.heap.size = b := by omega
 have hne2 : ¬ b = w.heap.size := by omega
 refine (hcall w0 hR0).mono ?_
 rintro e w1 ⟨rfl, hg, hR1⟩
 have hg1 := grown_trans hg0 hg
 have XB1 := XB.grown hg (fun e => hne1 (Option.some.inj e))
 have hz1 : w.heap.size + 1 ≤ w1.heap.size := by rw [← hz0]; exact hg.size
 clear hg hR0 hg0 XB hz0 hcall
 clear w0
 obtain ⟨r0, r1, r2, r3⟩ := id hR1
 have hz' : (q : Int) + 1 = (z : Int) := by omega
 clear hz
 go_wp2_with (rw [hz'])
 have hR2 := hR1.set z
 have hg2 := grown_trans hg1 (grown_at w1 b 1 (.int .i64 (z : Int)))
 have XB2 := XB1.far (p := ⟨b, 1, none⟩) hne2 (.int .i64 (z : Int))
 have hz2 : w.heap.size + 1 ≤ (w1.setCell ⟨b, 1, none⟩ (.int .i64 (z : Int))).heap.size := by rw [World.size_setCell]; exact hz1
 generalize w1.setCell ⟨b, 1, none⟩ (.int .i64 (z : Int)) = w2 at hR2 hg2 XB2 hz2 ⊢
 clear r0 r1 r2 r3 XB1 hR1 hg1 hz1
 clear w1
 obtain ⟨r0, r1, r2, r3⟩ := id hR2
 have hlt : z < l.length := (List.getElem?_eq_some_iff.1 hx).1
 have E : (⟨l.toArray⟩ : ByteArray)[z]'(by simpa [ByteArray.size] using hlt) = x := byte_at' hx _
 have hlt' : (z : Int) < (l.length : Int) := by omega
 have hd := Lib.hid (fun W => digit_any x W)
 rw [hfx] at hd
 clear hx hfx
 go_quiet (refine Calls.quiet_of_same (hd.out _))
 have XB3 := XB2.drewN nq
 have hR3 := hR2.drewN nq
 have hg3 := grown_drewN hg2 nq
 have hz3 : w.heap.size + 1 ≤ (w2.drewN nq).heap.size := hz2
 generalize w2.drewN nq = w3 at XB3 hR3 hg3 hz3 ⊢
 clear r0 r1 r2 r3 XB2 hR2 hg2 hz2
 clear w2
 obtain ⟨r0, r1, r2, r3⟩ := id hR3
 have hzq : (z : Int) - 1 = (q : Int) := by omega
 go_wp2_with (rw [hzq])
 have hR2 := hR3.set q
 have hg2 := grown_trans hg3 (grown_at w3 b 1 (.int .i64 (q : Int)))
 have XB2 := XB3.far (p := ⟨b, 1, none⟩) hne2 (.int .i64 (q : Int))
 have hz2 : w.heap.size + 1 ≤ (w3.setCell ⟨b, 1, none⟩ (.int .i64 (q : Int))).heap.size := by rw [World.size_setCell]; exact hz3
 generalize w3.setCell ⟨b, 1, none⟩ (.int .i64 (q : Int)) = w2 at hR2 hg2 XB2 hz2 ⊢
 clear r0 r1 r2 r3 XB3 hR3 hg3 hz3
 clear w3
 refine (elit_any l b q w2 hl hq hR2 (hB.grown hg2).laid).mono ?_
 rw [HRR.out]
 rintro e w3 ⟨hg3, hans⟩
 cases RR with
 | err c q2 =>
  obtain rfl := hans
  exact ⟨rfl, grown_trans hg2 hg3, rfl⟩
 | ok x q2 =>
  obtain ⟨v, rfl, hv, hR4⟩ := hans
  have hg4 := grown_trans hg2 hg3
  have XB4 := XB2.grown hg3 (fun e => hne1 (Option.some.inj e))
  obtain ⟨A, n, c, rfl, hk⟩ := hv.one'
  have hk' := hk.keep (D' := fun k => w.heap.size ≤ k ∧ k ≠ w.heap.size) (Same.refl _ _) (fun k h _ => by have : w2.heap.size ≤ k := h; omega)
  clear hk hv XB2 hR2 hg2 hg3
  rename_i K1 K2 h1 h2
  have H1 := Lib.hid h1
  clear h1
  obtain ⟨x0, x1, x2, x3, x4, x5, x6, x7⟩ := id XB4
  go_wp2_with fail
  obtain ⟨WF, hW⟩ : ∃ wF, ((((((w3.setCell ⟨w.heap.size, 0, none⟩ (.int .i64 x.kind)).setCell ⟨w.heap.size, 1, none⟩ (.string ⟨x.name.toArray⟩)).setCell ⟨w.heap.size, 2, none⟩ (.int .i64 x.vs)).setCell ⟨w.heap.size, 3, none⟩ (.int .i64 x.vn)).setCell ⟨w.heap.size, 4, none⟩ (.string ⟨x.vt.toArray⟩)).setCell ⟨w.heap.size, 5, none⟩ (.slice A n c)) = wF := ⟨_, rfl⟩
  rw [hW]
  obtain ⟨hF, hgF, hRF, hT⟩ := efinish hbw (Nat.le_refl _) hg4 hR4 XB4 x (.slice A n c) hk' hW
  clear hW x0 x1 x2 x3 x4 x5 x6 x7
  obtain ⟨d0, d1, d2, d3, d4, d5, d6, d7⟩ := hF
  refine H1.out _ _ ?_
  clear H1
  go_step
  refine bodyPost_ret (v := .agg #[.int .i64 x.kind, .string ⟨x.name.toArray⟩, .int .i64 x.vs, .int .i64 x.vn, .string ⟨x.vt.toArray⟩, (.slice A n c)]) (by simp [results, Tryz.results85, go_sem, d0, d1, d2, d3, d4, d5, Ex.kind, Ex.name, Ex.vs, Ex.vn, Ex.vt]) rfl ?_
  exact ⟨hgF, _, rfl, hT, hRF⟩
set_option maxHeartbeats 4000000 in
theorem eone_neg1 (l : Str) (b p : Nat) (w : World) (hl : l.length ≤ 2000) (hR : RBox w b l p) (q : Nat) (hq : q ≤ l.length) (hcall : ∀ w, RBox w b l p → Calls Tryz.prog 86 #[.pointer (some ⟨b, 0, none⟩)] w fun e w' => e = .returned (.string ⟨#[45]⟩) ∧ w.grownBy w' (some b) ∧ RBox w' b l q) (W0 : World) (hB : Bs W0 w b) (z : Nat) (hz : q + 1 = z) (hzl : z ≤ l.length) (rr : Yd.Res Ex) (ih : ∀ w, RBox w b l z → Bs W0 w b → Calls Tryz.prog 85 #[.pointer (some ⟨b, 0, none⟩)] w (AnsE w b l rr)) (x : UInt8) (hx : l[z]? = some x) (hfx : figb x = false) :
  Calls Tryz.prog 85 #[.pointer (some ⟨b, 0, none⟩)] w (AnsE w b l (unR [110, 101, 103] rr)) := by
 have hbw := hR.lt
 go_enter Tryz.func85, Tryz.ntmps85
 go_wp2_with fail
 have XB := new_exbox w 52
 have hbW : Below w.heap.size w (w.alloc (.cells #[.int .i64 0, .string ⟨#[]⟩, .int .i64 0, .int .i64 0, .string ⟨#[]⟩, .slice none 0 0] 52)) := by go_grown
 have hR0 := hR.keep hbW
 have hg0 := grown_belowB (grown_refl w b) hbW
 have hz0 : (w.alloc (.cells #[.int .i64 0, .string ⟨#[]⟩, .int .i64 0, .int .i64 0, .string ⟨#[]⟩, .slice none 0 0] 52)).heap.size = w.heap.size + 1 := by simp
 generalize w.alloc (.cells #[.int .i64 0, .string ⟨#[]⟩, .int .i64 0, .int .i64 0, .string ⟨#[]⟩, .slice none 0 0] 52) = w0 at XB hR0 hg0 hz0 ⊢
 clear hbW hR
 have hne1 : ¬ w.heap.size = b := by omega
 have hne2 : ¬ b = w.heap.size := by omega
 refine (hcall w0 hR0).mono ?_
 rintro e w1 ⟨rfl, hg, hR1⟩
 have hg1 := grown_trans hg0 hg
 have XB1 := XB.grown hg (fun e => hne1 (Option.some.inj e))
 have hz1 : w.heap.size + 1 ≤ w1.heap.size := by rw [← hz0]; exact hg.size
 clear hg hR0 hg0 XB hz0 hcall
 clear w0
 obtain ⟨r0, r1, r2, r3⟩ := id hR1
 have hz' : (q : Int) + 1 = (z : Int) := by omega
 clear hz
 go_wp2_with (rw [hz'])
 have hR2 := hR1.set z
 have hg2 := grown_trans hg1 (grown_at w1 b 1 (.int .i64 (z : Int)))
 have XB2 := XB1.far (p := ⟨b, 1, none⟩) hne2 (.int .i64 (z : Int))
 have hz2 : w.heap.size + 1 ≤ (w1.setCell ⟨b, 1, none⟩ (.int .i64 (z : Int))).heap.size := by rw [World.size_setCell]; exact hz1
 generalize w1.setCell ⟨b, 1, none⟩ (.int .i64 (z : Int)) = w2 at hR2 hg2 XB2 hz2 ⊢
 clear r0 r1 r2 r3 XB1 hR1 hg1 hz1
 clear w1
 obtain ⟨r0, r1, r2, r3⟩ := id hR2
 have hlt : z < l.length := (List.getElem?_eq_some_iff.1 hx).1
 have E : (⟨l.toArray⟩ : ByteArray)[z]'(by simpa [ByteArray.size] using hlt) = x := byte_at' hx _
 have hlt' : (z : Int) < (l.length : Int) := by omega
 have hd := Lib.hid (fun W => digit_any x W)
 rw [hfx] at hd
 clear hx hfx
 go_quiet (refine Calls.quiet_of_same (hd.out _))
 have XB3 := XB2.drewN nq
 have hR3 := hR2.drewN nq
 have hg3 := grown_drewN hg2 nq
 have hz3 : w.heap.size + 1 ≤ (w2.drewN nq).heap.size := hz2
 generalize w2.drewN nq = w3 at XB3 hR3 hg3 hz3 ⊢
 clear r0 r1 r2 r3 XB2 hR2 hg2 hz2
 clear w2
 obtain ⟨r0, r1, r2, r3⟩ := id hR3
 go_wp2_with fail
 have hR2 := hR3
 have hg2 := hg3
 have XB2 := XB3
 have hz2 := hz3
 clear hR3 hg3 XB3 hz3 r0 r1 r2 r3
 generalize w3 = w2 at hR2 hg2 XB2 hz2 ⊢
 refine (ih w2 hR2 (hB.grown hg2)).mono ?_
 rintro e w3 ⟨hg3, hans⟩
 cases rr with
 | err c q2 =>
  obtain rfl := hans
  exact ⟨rfl, grown_trans hg2 hg3, rfl⟩
 | ok x q2 =>
  obtain ⟨v, rfl, hv, hR4⟩ := hans
  have hg4 := grown_trans hg2 hg3
  have XB4 := XB2.grown hg3 (fun e => hne1 (Option.some.inj e))
  have hz4 : w.heap.size + 1 ≤ w3.heap.size := Nat.le_trans hz2 hg3.size
  obtain ⟨A, n, c, rfl, hk⟩ := hv.one'
  have HK := Lib.hid hk
  clear hk hv XB2 hR2 hg2 hg3
  rename_i K3 K2 K1 k3 k2 k1
  have H2 := Lib.hid k2
  have H3 := Lib.hid k3
  clear k2 k3
  have hb5 : Below w3.heap.size w3 (w3.alloc (.cells #[.int .i64 x.kind, .string ⟨x.name.toArray⟩, .int .i64 x.vs, .int .i64 x.vn, .string ⟨x.vt.toArray⟩, .slice A n c] 52)) := by go_grown
  have hk5 := row_new1 (D' := fun k => w.heap.size ≤ k ∧ k ≠ w.heap.size) 52 HK.out (fun k hk => by have : w2.heap.size ≤ k := hk; omega) (by omega)
  obtain ⟨wn, hwn⟩ : ∃ y, (w3.alloc (.cells #[.int .i64 x.kind, .string ⟨x.name.toArray⟩, .int .i64 x.vs, .int .i64 x.vn, .string ⟨x.vt.toArray⟩, .slice A n c] 52)) = y := ⟨_, rfl⟩
  rw [hwn] at hb5 hk5
  have XB5 := XB4.keep hb5 XB4.lt
  have hR5 := hR4.keep hb5
  have hg5 := grown_belowB hg4 hb5
  have hz5 : w.heap.size + 1 ≤ wn.heap.size := Nat.le_trans hz4 hb5.size
  obtain ⟨x0, x1, x2, x3, x4, x5, x6, x7⟩ := id XB5
  go_wp2_with (rw [hwn])
  clear hwn
  obtain ⟨WF, hW⟩ : ∃ wF, ((((((wn.setCell ⟨w.heap.size, 0, none⟩ (.int .i64 3)).setCell ⟨w.heap.size, 1, none⟩ (.string ⟨#[110, 101, 103]⟩)).setCell ⟨w.heap.size, 2, none⟩ (.int .i64 0)).setCell ⟨w.heap.size, 3, none⟩ (.int .i64 0)).setCell ⟨w.heap.size, 4, none⟩ (.string ⟨#[]⟩)).setCell ⟨w.heap.size, 5, none⟩ (.slice (some ⟨w3.heap.size, 0, none⟩) 1 1)) = wF := ⟨_, rfl⟩
  rw [hW]
  obtain ⟨hF, hgF, hRF, hT⟩ := efinish hbw (Nat.le_refl _) hg5 hR5 XB5 (unX [110, 101, 103] x) (.slice (some ⟨w3.heap.size, 0, none⟩) 1 1) hk5 hW
  clear hW x0 x1 x2 x3 x4 x5 x6 x7
  obtain ⟨d0, d1, d2, d3, d4, d5, d6, d7⟩ := hF
  refine H2.out _ _ ?_
  clear H2
  go_step
  refine bodyPost_ret (v := .agg #[.int .i64 3, .string ⟨#[110, 101, 103]⟩, .int .i64 0, .int .i64 0, .string ⟨#[]⟩, (.slice (some ⟨w3.heap.size, 0, none⟩) 1 1)]) (by simp [results, Tryz.results85, go_sem, d0, d1, d2, d3, d4, d5, Ex.kind, Ex.name, Ex.vs, Ex.vn, Ex.vt]) rfl ?_
  exact ⟨hgF, _, rfl, hT, hRF⟩
set_option maxHeartbeats 4000000 in
theorem eone_neg2 (l : Str) (b p : Nat) (w : World) (hl : l.length ≤ 2000) (hR : RBox w b l p) (q : Nat) (hq : q ≤ l.length) (hcall : ∀ w, RBox w b l p → Calls Tryz.prog 86 #[.pointer (some ⟨b, 0, none⟩)] w fun e w' => e = .returned (.string ⟨#[45]⟩) ∧ w.grownBy w' (some b) ∧ RBox w' b l q) (W0 : World) (hB : Bs W0 w b) (z : Nat) (hz : q + 1 = z) (hzl : z ≤ l.length) (rr : Yd.Res Ex) (ih : ∀ w, RBox w b l z → Bs W0 w b → Calls Tryz.prog 85 #[.pointer (some ⟨b, 0, none⟩)] w (AnsE w b l rr)) (hlen : Hid (z = l.length)) :
  Calls Tryz.prog 85 #[.pointer (some ⟨b, 0, none⟩)] w (AnsE w b l (unR [110, 101, 103] rr)) := by
 have hbw := hR.lt
 go_enter Tryz.func85, Tryz.ntmps85
 go_wp2_with fail
 have XB := new_exbox w 52
 have hbW : Below w.heap.size w (w.alloc (.cells #[.int .i64 0, .string ⟨#[]⟩, .int .i64 0, .int .i64 0, .string ⟨#[]⟩, .slice none 0 0] 52)) := by go_grown
 have hR0 := hR.keep hbW
 have hg0 := grown_belowB (grown_refl w b) hbW
 have hz0 : (w.alloc (.cells #[.int .i64 0, .string ⟨#[]⟩, .int .i64 0, .int .i64 0, .string ⟨#[]⟩, .slice none 0 0] 52)).heap.size = w.heap.size + 1 := by simp
 generalize w.alloc (.cells #[.int .i64 0, .string ⟨#[]⟩, .int .i64 0, .int .i64 0, .string ⟨#[]⟩, .slice none 0 0] 52) = w0 at XB hR0 hg0 hz0 ⊢
 clear hbW hR
 have hne1 : ¬ w.heap.size = b := by omega
 have hne2 : ¬ b = w.heap.size := by omega
 refine (hcall w0 hR0).mono ?_
 rintro e w1 ⟨rfl, hg, hR1⟩
 have hg1 := grown_trans hg0 hg
 have XB1 := XB.grown hg (fun e => hne1 (Option.some.inj e))
 have hz1 : w.heap.size + 1 ≤ w1.heap.size := by rw [← hz0]; exact hg.size
 clear hg hR0 hg0 XB hz0 hcall
 clear w0
 obtain ⟨r0, r1, r2, r3⟩ := id hR1
 have hz' : (q : Int) + 1 = (z : Int) := by omega
 clear hz
 go_wp2_with (rw [hz'])
 have hR2 := hR1.set z
 have hg2 := grown_trans hg1 (grown_at w1 b 1 (.int .i64 (z : Int)))
 have XB2 := XB1.far (p := ⟨b, 1, none⟩) hne2 (.int .i64 (z : Int))
 have hz2 : w.heap.size + 1 ≤ (w1.setCell ⟨b, 1, none⟩ (.int .i64 (z : Int))).heap.size := by rw [World.size_setCell]; exact hz1
 generalize w1.setCell ⟨b, 1, none⟩ (.int .i64 (z : Int)) = w2 at hR2 hg2 XB2 hz2 ⊢
 clear r0 r1 r2 r3 XB1 hR1 hg1 hz1
 clear w1
 obtain ⟨r0, r1, r2, r3⟩ := id hR2
 have hlt' : ¬ (z : Int) < (l.length : Int) := by have := hlen.out; omega
 go_quiet (fail)
 have XB3 := XB2.drewN nq
 have hR3 := hR2.drewN nq
 have hg3 := grown_drewN hg2 nq
 have hz3 : w.heap.size + 1 ≤ (w2.drewN nq).heap.size := hz2
 generalize w2.drewN nq = w3 at XB3 hR3 hg3 hz3 ⊢
 clear r0 r1 r2 r3 XB2 hR2 hg2 hz2
 clear w2
 obtain ⟨r0, r1, r2, r3⟩ := id hR3
 go_wp2_with fail
 have hR2 := hR3
 have hg2 := hg3
 have XB2 := XB3
 have hz2 := hz3
 clear hR3 hg3 XB3 hz3 r0 r1 r2 r3
 generalize w3 = w2 at hR2 hg2 XB2 hz2 ⊢
 refine (ih w2 hR2 (hB.grown hg2)).mono ?_
 rintro e w3 ⟨hg3, hans⟩
 cases rr with
 | err c q2 =>
  obtain rfl := hans
  exact ⟨rfl, grown_trans hg2 hg3, rfl⟩
 | ok x q2 =>
  obtain ⟨v, rfl, hv, hR4⟩ := hans
  have hg4 := grown_trans hg2 hg3
  have XB4 := XB2.grown hg3 (fun e => hne1 (Option.some.inj e))
  have hz4 : w.heap.size + 1 ≤ w3.heap.size := Nat.le_trans hz2 hg3.size
  obtain ⟨A, n, c, rfl, hk⟩ := hv.one'
  have HK := Lib.hid hk
  clear hk hv XB2 hR2 hg2 hg3
  rename_i K3 K2 K1 k3 k2 k1
  have H2 := Lib.hid k2
  have H3 := Lib.hid k3
  clear k2 k3
  have hb5 : Below w3.heap.size w3 (w3.alloc (.cells #[.int .i64 x.kind, .string ⟨x.name.toArray⟩, .int .i64 x.vs, .int .i64 x.vn, .string ⟨x.vt.toArray⟩, .slice A n c] 52)) := by go_grown
  have hk5 := row_new1 (D' := fun k => w.heap.size ≤ k ∧ k ≠ w.heap.size) 52 HK.out (fun k hk => by have : w2.heap.size ≤ k := hk; omega) (by omega)
  obtain ⟨wn, hwn⟩ : ∃ y, (w3.alloc (.cells #[.int .i64 x.kind, .string ⟨x.name.toArray⟩, .int .i64 x.vs, .int .i64 x.vn, .string ⟨x.vt.toArray⟩, .slice A n c] 52)) = y := ⟨_, rfl⟩
  rw [hwn] at hb5 hk5
  have XB5 := XB4.keep hb5 XB4.lt
  have hR5 := hR4.keep hb5
  have hg5 := grown_belowB hg4 hb5
  have hz5 : w.heap.size + 1 ≤ wn.heap.size := Nat.le_trans hz4 hb5.size
  obtain ⟨x0, x1, x2, x3, x4, x5, x6, x7⟩ := id XB5
  go_wp2_with (rw [hwn])
  clear hwn
  obtain ⟨WF, hW⟩ : ∃ wF, ((((((wn.setCell ⟨w.heap.size, 0, none⟩ (.int .i64 3)).setCell ⟨w.heap.size, 1, none⟩ (.string ⟨#[110, 101, 103]⟩)).setCell ⟨w.heap.size, 2, none⟩ (.int .i64 0)).setCell ⟨w.heap.size, 3, none⟩ (.int .i64 0)).setCell ⟨w.heap.size, 4, none⟩ (.string ⟨#[]⟩)).setCell ⟨w.heap.size, 5, none⟩ (.slice (some ⟨w3.heap.size, 0, none⟩) 1 1)) = wF := ⟨_, rfl⟩
  rw [hW]
  obtain ⟨hF, hgF, hRF, hT⟩ := efinish hbw (Nat.le_refl _) hg5 hR5 XB5 (unX [110, 101, 103] x) (.slice (some ⟨w3.heap.size, 0, none⟩) 1 1) hk5 hW
  clear hW x0 x1 x2 x3 x4 x5 x6 x7
  obtain ⟨d0, d1, d2, d3, d4, d5, d6, d7⟩ := hF
  refine H2.out _ _ ?_
  clear H2
  go_step
  refine bodyPost_ret (v := .agg #[.int .i64 3, .string ⟨#[110, 101, 103]⟩, .int .i64 0, .int .i64 0, .string ⟨#[]⟩, (.slice (some ⟨w3.heap.size, 0, none⟩) 1 1)]) (by simp [results, Tryz.results85, go_sem, d0, d1, d2, d3, d4, d5, Ex.kind, Ex.name, Ex.vs, Ex.vn, Ex.vt]) rfl ?_
  exact ⟨hgF, _, rfl, hT, hRF⟩
set_option maxHeartbeats 4000000 in
theorem eone_par (l : Str) (b p : Nat) (w : World) (hl : l.length ≤ 2000) (hR : RBox w b l p) (q : Nat) (hq : q ≤ l.length) (hcall : ∀ w, RBox w b l p → Calls Tryz.prog 86 #[.pointer (some ⟨b, 0, none⟩)] w fun e w' => e = .returned (.string ⟨#[40]⟩) ∧ w.grownBy w' (some b) ∧ RBox w' b l q) (W0 : World) (hB : Bs W0 w b) (z : Nat) (hz : q + 1 = z) (hzl : z ≤ l.length) (rr : Yd.Res Ex) (hrr : ∀ x q, rr = .ok x q → q ≤ l.length) (ih : ∀ w, RBox w b l z → Bs W0 w b → Calls Tryz.prog 53 #[.pointer (some ⟨b, 0, none⟩), .int .i64 1] w (AnsE w b l (skR l rr))) :
  Calls Tryz.prog 85 #[.pointer (some ⟨b, 0, none⟩)] w (AnsE w b l (parR l rr)) := by
 obtain ⟨RES, hRES⟩ : ∃ x, parR l rr = x := ⟨_, rfl⟩
 rw [hRES]
 have HRES := Lib.hid hRES
 clear hRES
 have hbw := hR.lt
 go_enter Tryz.func85, Tryz.ntmps85
 go_wp2_with fail
 have XB := new_exbox w 52
 have hbW : Below w.heap.size w (w.alloc (.cells #[.int .i64 0, .string ⟨#[]⟩, .int .i64 0, .int .i64 0, .string ⟨#[]⟩, .slice none 0 0] 52)) := by go_grown
 have hR0 := hR.keep hbW
 have hg0 := grown_belowB (grown_refl w b) hbW
 have hz0 : (w.alloc (.cells #[.int .i64 0, .string ⟨#[]⟩, .int .i64 0, .int .i64 0, .string ⟨#[]⟩, .slice none 0 0] 52)).heap.size = w.heap.size + 1 := by simp
 generalize w.alloc (.cells #[.int .i64 0, .string ⟨#[]⟩, .int .i64 0, .int .i64 0, .string ⟨#[]⟩, .slice none 0 0] 52) = w0 at XB hR0 hg0 hz0 ⊢
 clear hbW hR
 have hne1 : ¬ w.heap.size = b := by omega
 have hne2 : ¬ b = w.heap.size := by omega
 refine (hcall w0 hR0).mono ?_
 rintro e w1 ⟨rfl, hg, hR1⟩
 have hg1 := grown_trans hg0 hg
 have XB1 := XB.grown hg (fun e => hne1 (Option.some.inj e))
 have hz1 : w.heap.size + 1 ≤ w1.heap.size := by rw [← hz0]; exact hg.size
 clear hg hR0 hg0 XB hz0 hcall
 clear w0
 obtain ⟨r0, r1, r2, r3⟩ := id hR1
 have hz' : (q : Int) + 1 = (z : Int) := by omega
 clear hz
 go_wp2_with (rw [hz'])
 have hR2 := hR1.set z
 have hg2 := grown_trans hg1 (grown_at w1 b 1 (.int .i64 (z : Int)))
 have XB2 := XB1.far (p := ⟨b, 1, none⟩) hne2 (.int .i64 (z : Int))
 have hz2 : w.heap.size + 1 ≤ (w1.setCell ⟨b, 1, none⟩ (.int .i64 (z : Int))).heap.size := by rw [World.size_setCell]; exact hz1
 generalize w1.setCell ⟨b, 1, none⟩ (.int .i64 (z : Int)) = w2 at hR2 hg2 XB2 hz2 ⊢
 clear r0 r1 r2 r3 XB1 hR1 hg1 hz1
 clear w1
 refine (ih w2 hR2 (hB.grown hg2)).mono ?_
 rintro e w3 ⟨hg3, hans⟩
 cases rr with
 | err c q2 =>
  obtain rfl := hans
  have A := HRES.out
  subst A
  exact ⟨rfl, grown_trans hg2 hg3, rfl⟩
 | ok x q2 =>
  obtain ⟨v, rfl, hv, hR4⟩ := hans
  have hq2 := hrr _ _ rfl
  have hg4 := grown_trans hg2 hg3
  have XB4 := XB2.grown hg3 (fun e => hne1 (Option.some.inj e))
  have hz4 : w.heap.size + 1 ≤ w3.heap.size := Nat.le_trans hz2 hg3.size
  obtain ⟨A, n, c, rfl, hk⟩ := hv.one'
  have HK := Lib.hid hk
  clear hk hv XB2 hR2 hg2 hg3 hrr
  go_wp2_with fail
  have KB := new_exval w3 x (.slice A n c) 52
  have hb5 : Below w3.heap.size w3 (w3.alloc (.cells #[.int .i64 x.kind, .string ⟨x.name.toArray⟩, .int .i64 x.vs, .int .i64 x.vn, .string ⟨x.vt.toArray⟩, .slice A n c] 52)) := by go_grown
  generalize w3.alloc (.cells #[.int .i64 x.kind, .string ⟨x.name.toArray⟩, .int .i64 x.vs, .int .i64 x.vn, .string ⟨x.vt.toArray⟩, .slice A n c] 52) = w5 at KB hb5 ⊢
  have XB5 := XB4.keep hb5 XB4.lt
  have hR5 := hR4.keep hb5
  have hg5 := grown_belowB hg4 hb5
  have hk5 := HK.out.keep (D' := fun k => w.heap.size ≤ k ∧ k ≠ w.heap.size) (Same.below hb5) (fun k hk _ => by have : w2.heap.size ≤ k := hk; omega)
  have hX1 : ¬ w3.heap.size = b := by omega
  have hX2 : ¬ b = w3.heap.size := by omega
  have hX3 : ¬ w3.heap.size = w.heap.size := by omega
  have hX4 : ¬ w.heap.size = w3.heap.size := by omega
  clear HK XB4 hR4 hg4 hb5 hz4 hz2
  generalize w3.heap.size = X at KB hX1 hX2 hX3 hX4 ⊢
  clear w3 w2
  have hs := sk_le hq2
  refine (eword_any l b (sk l q2) w5 hl hs.2 hR5).mono ?_
  rw [eword_sk, sk_sk]
  obtain ⟨W4, hW4⟩ : ∃ y, eword l q2 = y := ⟨_, rfl⟩
  rw [hW4]
  have HW4 := Lib.hid hW4
  clear hW4
  rintro e w6 ⟨rfl, hg6, hR6⟩
  have KB6 := KB.grown hg6 (fun e => hX1 (Option.some.inj e))
  have XB6 := XB5.grown hg6 (fun e => hne1 (Option.some.inj e))
  have hk6 := Lib.hid (hk5.keep (D' := fun k => w.heap.size ≤ k ∧ k ≠ w.heap.size) (Same.grown hg6 (fun k hk e => by have := Option.some.inj e; omega)) (fun _ h _ => h))
  have hg7 := grown_trans hg5 hg6
  clear KB XB5 hR5 hk5 hg5 hg6
  clear w5
  by_cases hc : W4 = [41]
  ·subst hc
   have hsl : sk l q2 + 1 ≤ l.length := by have := eword_len hq2; rw [HW4.out] at this; exact this
   obtain ⟨z5, hz5⟩ : ∃ z5, sk l q2 + 1 = z5 := ⟨_, rfl⟩
   rw [hz5] at hsl
   have hres : RES = .ok x z5 := by rw [← HRES.out]; unfold parR; simp only; unfold eclose; rw [if_pos HW4.out, hz5]
   subst hres
   obtain ⟨z4, hz4⟩ : ∃ z4, sk l q2 = z4 := ⟨_, rfl⟩
   rw [hz4] at hR6 hz5 hs
   clear hz4 HRES HW4
   have hz6 : (z4 : Int) + 1 = (z5 : Int) := by omega
   obtain ⟨r0, r1, r2, r3⟩ := id hR6
   rename_i K3 K2 K1 K0 k3 k2 k1 k0
   have H3 := Lib.hid k3
   have H2 := Lib.hid k2
   have H1 := Lib.hid k1
   clear k1 k2 k3
   go_wp2_with fail
   refine H1.out _ _ ?_
   clear H1
   go_step
   go_step
   refine H2.out _ _ ?_
   clear H2
   go_step
   rename_i K4 h4
   have H4 := Lib.hid h4
   clear h4
   go_wp2_with (rw [hz6])
   have hR7 := hR6.set z5
   have hg8 := grown_trans hg7 (grown_at w6 b 1 (.int .i64 (z5 : Int)))
   have XB7 := XB6.far (p := ⟨b, 1, none⟩) hne2 (.int .i64 (z5 : Int))
   have KB7 := KB6.far (p := ⟨b, 1, none⟩) hX2 (.int .i64 (z5 : Int))
   have hk7 := hk6.out.keep (D' := fun k => w.heap.size ≤ k ∧ k ≠ w.heap.size) (Same.grown (grown_at w6 b 1 (.int .i64 (z5 : Int))) (fun k hk e => by have := Option.some.inj e; omega)) (fun _ h _ => h)
   generalize w6.setCell ⟨b, 1, none⟩ (.int .i64 (z5 : Int)) = w7 at hR7 hg8 XB7 KB7 hk7 ⊢
   clear r0 r1 r2 r3 XB6 KB6 hR6 hg7 hk6
   clear w6
   obtain ⟨y0, y1, y2, y3, y4, y5, y6, y7⟩ := id KB7
   refine H4.out _ _ ?_
   clear H4
   go_step
   rename_i K5 h5
   have H1 := Lib.hid h5
   clear h5
   obtain ⟨x0, x1, x2, x3, x4, x5, x6, x7⟩ := id XB7
   go_wp2_with fail
   obtain ⟨WF, hW⟩ : ∃ wF, ((((((w7.setCell ⟨w.heap.size, 0, none⟩ (.int .i64 x.kind)).setCell ⟨w.heap.size, 1, none⟩ (.string ⟨x.name.toArray⟩)).setCell ⟨w.heap.size, 2, none⟩ (.int .i64 x.vs)).setCell ⟨w.heap.size, 3, none⟩ (.int .i64 x.vn)).setCell ⟨w.heap.size, 4, none⟩ (.string ⟨x.vt.toArray⟩)).setCell ⟨w.heap.size, 5, none⟩ (.slice A n c)) = wF := ⟨_, rfl⟩
   rw [hW]
   obtain ⟨hF, hgF, hRF, hT⟩ := efinish hbw (Nat.le_refl _) hg8 hR7 XB7 x (.slice A n c) hk7 hW
   clear hW x0 x1 x2 x3 x4 x5 x6 x7
   obtain ⟨d0, d1, d2, d3, d4, d5, d6, d7⟩ := hF
   refine H1.out _ _ ?_
   clear H1
   go_step
   refine bodyPost_ret (v := .agg #[.int .i64 x.kind, .string ⟨x.name.toArray⟩, .int .i64 x.vs, .int .i64 x.vn, .string ⟨x.vt.toArray⟩, (.slice A n c)]) (by simp [results, Tryz.results85, go_sem, d0, d1, d2, d3, d4, d5, Ex.kind, Ex.name, Ex.vs, Ex.vn, Ex.vt]) rfl ?_
   exact ⟨hgF, _, rfl, hT, hRF⟩

  ·have hc' : (W4 == [41]) = false := by rw [beq_eq_false_iff_ne]; exact hc
   have hres : RES = .err 3 (sk l q2) := by rw [← HRES.out]; unfold parR; simp only; unfold eclose; rw [if_neg (by rw [HW4.out]; exact hc)]
   subst hres
   clear hc
   go_wp2_with fail
   refine (efail_any 3 l b _ _ hR6).mono ?_
   rintro e w8 ⟨rfl, hg8⟩
   exact ⟨rfl, grown_trans hg7 hg8, rfl⟩
set_option maxHeartbeats 4000000 in
theorem eone_name (l : Str) (b p : Nat) (w : World) (hl : l.length ≤ 2000) (hR : RBox w b l p) (q : Nat) (hq : q ≤ l.length) (W : Str) (hcall : ∀ w, RBox w b l p → Calls Tryz.prog 86 #[.pointer (some ⟨b, 0, none⟩)] w fun e w' => e = .returned (.string ⟨W.toArray⟩) ∧ w.grownBy w' (some b) ∧ RBox w' b l q) (n1 : (W == [110, 111, 116]) = false) (n2 : (W == [35]) = false) (n3 : (W == [45]) = false) (n4 : (W == [40]) = false) (hn : isName W = true) (hWl : W.length ≤ 2000) (z : Nat) (hz : q + W.length = z) (hzl : z ≤ l.length) :
  Calls Tryz.prog 85 #[.pointer (some ⟨b, 0, none⟩)] w (AnsE w b l (.ok (.mk 2 W 0 0 [] []) z)) := by
 have hbw := hR.lt
 go_enter Tryz.func85, Tryz.ntmps85
 go_wp2_with fail
 have XB := new_exbox w 52
 have hbW : Below w.heap.size w (w.alloc (.cells #[.int .i64 0, .string ⟨#[]⟩, .int .i64 0, .int .i64 0, .string ⟨#[]⟩, .slice none 0 0] 52)) := by go_grown
 have hR0 := hR.keep hbW
 have hg0 := grown_belowB (grown_refl w b) hbW
 have hz0 : (w.alloc (.cells #[.int .i64 0, .string ⟨#[]⟩, .int .i64 0, .int .i64 0, .string ⟨#[]⟩, .slice none 0 0] 52)).heap.size = w.heap.size + 1 := by simp
 generalize w.alloc (.cells #[.int .i64 0, .string ⟨#[]⟩, .int .i64 0, .int .i64 0, .string ⟨#[]⟩, .slice none 0 0] 52) = w0 at XB hR0 hg0 hz0 ⊢
 clear hbW hR
 have hne1 : ¬ w.heap.size = b := by omega
 have hne2 : ¬ b = w.heap.size := by omega
 refine (hcall w0 hR0).mono ?_
 rintro e w1 ⟨rfl, hg, hR1⟩
 have hg1 := grown_trans hg0 hg
 have XB1 := XB.grown hg (fun e => hne1 (Option.some.inj e))
 have hz1 : w.heap.size + 1 ≤ w1.heap.size := by rw [← hz0]; exact hg.size
 clear hg hR0 hg0 XB hz0 hcall
 clear w0
 obtain ⟨r0, r1, r2, r3⟩ := id hR1
 have hnm := Lib.hid (fun w => isName_any W w (by omega))
 rw [hn] at hnm
 clear hn
 go_wp2_with fail
 refine (hnm.out _).mono ?_
 rintro e w2 ⟨rfl, hb2⟩
 have hR2 := hR1.keep hb2
 have hg2 := grown_belowB hg1 hb2
 have XB2 := XB1.keep hb2 XB1.lt
 have hz2 := Nat.le_trans hz1 hb2.size
 clear r0 r1 r2 r3 XB1 hR1 hg1 hz1 hb2
 clear w1
 obtain ⟨r0, r1, r2, r3⟩ := id hR2
 have hz' : (q : Int) + (W.length : Int) = (z : Int) := by omega
 clear hz
 rename_i K3 k3 K2 k2 K1 k1
 have H2 := Lib.hid k2
 have H3 := Lib.hid k3
 clear k2 k3
 go_wp2_with fail
 refine H2.out _ _ ?_
 clear H2
 go_step
 go_step
 rename_i K4 h4
 have H4 := Lib.hid h4
 clear h4
 go_wp2_with (rw [hz'])
 have hR3 := hR2.set z
 have hg3 := grown_trans hg2 (grown_at w2 b 1 (.int .i64 (z : Int)))
 have XB3 := XB2.far (p := ⟨b, 1, none⟩) hne2 (.int .i64 (z : Int))
 generalize w2.setCell ⟨b, 1, none⟩ (.int .i64 (z : Int)) = w3 at hR3 hg3 XB3 ⊢
 clear r0 r1 r2 r3 XB2 hR2 hg2 hz2
 clear w2
 refine H4.out _ _ ?_
 clear H4
 go_step
 rename_i K1 h1
 have H1 := Lib.hid h1
 clear h1
 obtain ⟨x0, x1, x2, x3, x4, x5, x6, x7⟩ := id XB3
 go_wp2_with fail
 obtain ⟨WF, hW⟩ : ∃ wF, ((((((w3.setCell ⟨w.heap.size, 0, none⟩ (.int .i64 2)).setCell ⟨w.heap.size, 1, none⟩ (.string ⟨W.toArray⟩)).setCell ⟨w.heap.size, 2, none⟩ (.int .i64 0)).setCell ⟨w.heap.size, 3, none⟩ (.int .i64 0)).setCell ⟨w.heap.size, 4, none⟩ (.string ⟨([] : Str).toArray⟩)).setCell ⟨w.heap.size, 5, none⟩ (.slice none 0 0)) = wF := ⟨_, rfl⟩
 rw [hW]
 obtain ⟨hF, hgF, hRF, hT⟩ := efinish hbw (Nat.le_refl _) hg3 hR3 XB3 (.mk 2 W 0 0 [] []) (.slice none 0 0) (no_exs _ _) hW
 clear hW x0 x1 x2 x3 x4 x5 x6 x7
 obtain ⟨d0, d1, d2, d3, d4, d5, d6, d7⟩ := hF
 refine H1.out _ _ ?_
 clear H1
 go_step
 refine bodyPost_ret (v := .agg #[.int .i64 2, .string ⟨W.toArray⟩, .int .i64 0, .int .i64 0, .string ⟨([] : Str).toArray⟩, (.slice none 0 0)]) (by simp [results, Tryz.results85, go_sem, d0, d1, d2, d3, d4, d5, Ex.kind, Ex.name, Ex.vs, Ex.vn, Ex.vt]) rfl ?_
 exact ⟨hgF, _, rfl, hT, hRF⟩
set_option maxHeartbeats 4000000 in
theorem eone_lit0 (l : Str) (b p : Nat) (w : World) (hl : l.length ≤ 2000) (hR : RBox w b l p) (q : Nat) (hq : q ≤ l.length) (hcall : ∀ w, RBox w b l p → Calls Tryz.prog 86 #[.pointer (some ⟨b, 0, none⟩)] w fun e w' => e = .returned (.string ⟨#[]⟩) ∧ w.grownBy w' (some b) ∧ RBox w' b l q) (W0 : World) (hB : Bs W0 w b) :
  Calls Tryz.prog 85 #[.pointer (some ⟨b, 0, none⟩)] w (AnsE w b l (litEnd l q)) := by
 obtain ⟨RR, hRR⟩ : ∃ x, litEnd l q = x := ⟨_, rfl⟩
 rw [hRR]
 have HRR := Lib.hid hRR
 clear hRR
 have hbw := hR.lt
 go_enter Tryz.func85, Tryz.ntmps85
 go_wp2_with fail
 have XB := new_exbox w 52
 have hbW : Below w.heap.size w (w.alloc (.cells #[.int .i64 0, .string ⟨#[]⟩, .int .i64 0, .int .i64 0, .string ⟨#[]⟩, .slice none 0 0] 52)) := by go_grown
 have hR0 := hR.keep hbW
 have hg0 := grown_belowB (grown_refl w b) hbW
 have hz0 : (w.alloc (.cells #[.int .i64 0, .string ⟨#[]⟩, .int .i64 0, .int .i64 0, .string ⟨#[]⟩, .slice none 0 0] 52)).heap.size = w.heap.size + 1 := by simp
 generalize w.alloc (.cells #[.int .i64 0, .string ⟨#[]⟩, .int .i64 0, .int .i64 0, .string ⟨#[]⟩, .slice none 0 0] 52) = w0 at XB hR0 hg0 hz0 ⊢
 clear hbW hR
 have hne1 : ¬ w.heap.size = b := by omega
 have hne2 : ¬ b = w.heap.size := by omega
 refine (hcall w0 hR0).mono ?_
 rintro e w1 ⟨rfl, hg, hR1⟩
 have hg1 := grown_trans hg0 hg
 have XB1 := XB.grown hg (fun e => hne1 (Option.some.inj e))
 have hz1 : w.heap.size + 1 ≤ w1.heap.size := by rw [← hz0]; exact hg.size
 clear hg hR0 hg0 XB hz0 hcall
 clear w0
 obtain ⟨r0, r1, r2, r3⟩ := id hR1
 go_wp2_with fail
 refine (isName_any [] _ (by decide)).mono ?_
 rw [show isName [] = false by decide]
 rintro e w2 ⟨rfl, hb2⟩
 have hR2 := hR1.keep hb2
 have hg2 := grown_belowB hg1 hb2
 have XB2 := XB1.keep hb2 XB1.lt
 have hz2 := Nat.le_trans hz1 hb2.size
 clear r0 r1 r2 r3 XB1 hR1 hg1 hz1 hb2
 clear w1
 go_wp2_with fail
 refine (elit_any l b q w2 hl hq hR2 (hB.grown hg2).laid).mono ?_
 rw [HRR.out]
 rintro e w3 ⟨hg3, hans⟩
 cases RR with
 | err c q2 =>
  obtain rfl := hans
  exact ⟨rfl, grown_trans hg2 hg3, rfl⟩
 | ok x q2 =>
  obtain ⟨v, rfl, hv, hR4⟩ := hans
  have hg4 := grown_trans hg2 hg3
  have XB4 := XB2.grown hg3 (fun e => hne1 (Option.some.inj e))
  obtain ⟨A, n, c, rfl, hk⟩ := hv.one'
  have hk' := hk.keep (D' := fun k => w.heap.size ≤ k ∧ k ≠ w.heap.size) (Same.refl _ _) (fun k h _ => by have : w2.heap.size ≤ k := h; omega)
  clear hk hv XB2 hR2 hg2 hg3
  rename_i K1 K2 h1 h2
  have H1 := Lib.hid h1
  clear h1
  obtain ⟨x0, x1, x2, x3, x4, x5, x6, x7⟩ := id XB4
  go_wp2_with fail
  obtain ⟨WF, hW⟩ : ∃ wF, ((((((w3.setCell ⟨w.heap.size, 0, none⟩ (.int .i64 x.kind)).setCell ⟨w.heap.size, 1, none⟩ (.string ⟨x.name.toArray⟩)).setCell ⟨w.heap.size, 2, none⟩ (.int .i64 x.vs)).setCell ⟨w.heap.size, 3, none⟩ (.int .i64 x.vn)).setCell ⟨w.heap.size, 4, none⟩ (.string ⟨x.vt.toArray⟩)).setCell ⟨w.heap.size, 5, none⟩ (.slice A n c)) = wF := ⟨_, rfl⟩
  rw [hW]
  obtain ⟨hF, hgF, hRF, hT⟩ := efinish hbw (Nat.le_refl _) hg4 hR4 XB4 x (.slice A n c) hk' hW
  clear hW x0 x1 x2 x3 x4 x5 x6 x7
  obtain ⟨d0, d1, d2, d3, d4, d5, d6, d7⟩ := hF
  refine H1.out _ _ ?_
  clear H1
  go_step
  refine bodyPost_ret (v := .agg #[.int .i64 x.kind, .string ⟨x.name.toArray⟩, .int .i64 x.vs, .int .i64 x.vn, .string ⟨x.vt.toArray⟩, (.slice A n c)]) (by simp [results, Tryz.results85, go_sem, d0, d1, d2, d3, d4, d5, Ex.kind, Ex.name, Ex.vs, Ex.vn, Ex.vt]) rfl ?_
  exact ⟨hgF, _, rfl, hT, hRF⟩
set_option maxHeartbeats 4000000 in
theorem eone_litT (l : Str) (b p : Nat) (w : World) (hl : l.length ≤ 2000) (hR : RBox w b l p) (q : Nat) (hq : q ≤ l.length) (hcall : ∀ w, RBox w b l p → Calls Tryz.prog 86 #[.pointer (some ⟨b, 0, none⟩)] w fun e w' => e = .returned (.string ⟨#[116, 114, 117, 101]⟩) ∧ w.grownBy w' (some b) ∧ RBox w' b l q) (W0 : World) (hB : Bs W0 w b) :
  Calls Tryz.prog 85 #[.pointer (some ⟨b, 0, none⟩)] w (AnsE w b l (litEnd l q)) := by
 obtain ⟨RR, hRR⟩ : ∃ x, litEnd l q = x := ⟨_, rfl⟩
 rw [hRR]
 have HRR := Lib.hid hRR
 clear hRR
 have hbw := hR.lt
 go_enter Tryz.func85, Tryz.ntmps85
 go_wp2_with fail
 have XB := new_exbox w 52
 have hbW : Below w.heap.size w (w.alloc (.cells #[.int .i64 0, .string ⟨#[]⟩, .int .i64 0, .int .i64 0, .string ⟨#[]⟩, .slice none 0 0] 52)) := by go_grown
 have hR0 := hR.keep hbW
 have hg0 := grown_belowB (grown_refl w b) hbW
 have hz0 : (w.alloc (.cells #[.int .i64 0, .string ⟨#[]⟩, .int .i64 0, .int .i64 0, .string ⟨#[]⟩, .slice none 0 0] 52)).heap.size = w.heap.size + 1 := by simp
 generalize w.alloc (.cells #[.int .i64 0, .string ⟨#[]⟩, .int .i64 0, .int .i64 0, .string ⟨#[]⟩, .slice none 0 0] 52) = w0 at XB hR0 hg0 hz0 ⊢
 clear hbW hR
 have hne1 : ¬ w.heap.size = b := by omega
 have hne2 : ¬ b = w.heap.size := by omega
 refine (hcall w0 hR0).mono ?_
 rintro e w1 ⟨rfl, hg, hR1⟩
 have hg1 := grown_trans hg0 hg
 have XB1 := XB.grown hg (fun e => hne1 (Option.some.inj e))
 have hz1 : w.heap.size + 1 ≤ w1.heap.size := by rw [← hz0]; exact hg.size
 clear hg hR0 hg0 XB hz0 hcall
 clear w0
 obtain ⟨r0, r1, r2, r3⟩ := id hR1
 go_wp2_with fail
 refine (isName_any [116, 114, 117, 101] _ (by decide)).mono ?_
 rw [show isName [116, 114, 117, 101] = false by decide]
 rintro e w2 ⟨rfl, hb2⟩
 have hR2 := hR1.keep hb2
 have hg2 := grown_belowB hg1 hb2
 have XB2 := XB1.keep hb2 XB1.lt
 have hz2 := Nat.le_trans hz1 hb2.size
 clear r0 r1 r2 r3 XB1 hR1 hg1 hz1 hb2
 clear w1
 go_wp2_with fail
 refine (elit_any l b q w2 hl hq hR2 (hB.grown hg2).laid).mono ?_
 rw [HRR.out]
 rintro e w3 ⟨hg3, hans⟩
 cases RR with
 | err c q2 =>
  obtain rfl := hans
  exact ⟨rfl, grown_trans hg2 hg3, rfl⟩
 | ok x q2 =>
  obtain ⟨v, rfl, hv, hR4⟩ := hans
  have hg4 := grown_trans hg2 hg3
  have XB4 := XB2.grown hg3 (fun e => hne1 (Option.some.inj e))
  obtain ⟨A, n, c, rfl, hk⟩ := hv.one'
  have hk' := hk.keep (D' := fun k => w.heap.size ≤ k ∧ k ≠ w.heap.size) (Same.refl _ _) (fun k h _ => by have : w2.heap.size ≤ k := h; omega)
  clear hk hv XB2 hR2 hg2 hg3
  rename_i K1 K2 h1 h2
  have H1 := Lib.hid h1
  clear h1
  obtain ⟨x0, x1, x2, x3, x4, x5, x6, x7⟩ := id XB4
  go_wp2_with fail
  obtain ⟨WF, hW⟩ : ∃ wF, ((((((w3.setCell ⟨w.heap.size, 0, none⟩ (.int .i64 x.kind)).setCell ⟨w.heap.size, 1, none⟩ (.string ⟨x.name.toArray⟩)).setCell ⟨w.heap.size, 2, none⟩ (.int .i64 x.vs)).setCell ⟨w.heap.size, 3, none⟩ (.int .i64 x.vn)).setCell ⟨w.heap.size, 4, none⟩ (.string ⟨x.vt.toArray⟩)).setCell ⟨w.heap.size, 5, none⟩ (.slice A n c)) = wF := ⟨_, rfl⟩
  rw [hW]
  obtain ⟨hF, hgF, hRF, hT⟩ := efinish hbw (Nat.le_refl _) hg4 hR4 XB4 x (.slice A n c) hk' hW
  clear hW x0 x1 x2 x3 x4 x5 x6 x7
  obtain ⟨d0, d1, d2, d3, d4, d5, d6, d7⟩ := hF
  refine H1.out _ _ ?_
  clear H1
  go_step
  refine bodyPost_ret (v := .agg #[.int .i64 x.kind, .string ⟨x.name.toArray⟩, .int .i64 x.vs, .int .i64 x.vn, .string ⟨x.vt.toArray⟩, (.slice A n c)]) (by simp [results, Tryz.results85, go_sem, d0, d1, d2, d3, d4, d5, Ex.kind, Ex.name, Ex.vs, Ex.vn, Ex.vt]) rfl ?_
  exact ⟨hgF, _, rfl, hT, hRF⟩
set_option maxHeartbeats 4000000 in
theorem eone_litF (l : Str) (b p : Nat) (w : World) (hl : l.length ≤ 2000) (hR : RBox w b l p) (q : Nat) (hq : q ≤ l.length) (hcall : ∀ w, RBox w b l p → Calls Tryz.prog 86 #[.pointer (some ⟨b, 0, none⟩)] w fun e w' => e = .returned (.string ⟨#[102, 97, 108, 115, 101]⟩) ∧ w.grownBy w' (some b) ∧ RBox w' b l q) (W0 : World) (hB : Bs W0 w b) :
  Calls Tryz.prog 85 #[.pointer (some ⟨b, 0, none⟩)] w (AnsE w b l (litEnd l q)) := by
 obtain ⟨RR, hRR⟩ : ∃ x, litEnd l q = x := ⟨_, rfl⟩
 rw [hRR]
 have HRR := Lib.hid hRR
 clear hRR
 have hbw := hR.lt
 go_enter Tryz.func85, Tryz.ntmps85
 go_wp2_with fail
 have XB := new_exbox w 52
 have hbW : Below w.heap.size w (w.alloc (.cells #[.int .i64 0, .string ⟨#[]⟩, .int .i64 0, .int .i64 0, .string ⟨#[]⟩, .slice none 0 0] 52)) := by go_grown
 have hR0 := hR.keep hbW
 have hg0 := grown_belowB (grown_refl w b) hbW
 have hz0 : (w.alloc (.cells #[.int .i64 0, .string ⟨#[]⟩, .int .i64 0, .int .i64 0, .string ⟨#[]⟩, .slice none 0 0] 52)).heap.size = w.heap.size + 1 := by simp
 generalize w.alloc (.cells #[.int .i64 0, .string ⟨#[]⟩, .int .i64 0, .int .i64 0, .string ⟨#[]⟩, .slice none 0 0] 52) = w0 at XB hR0 hg0 hz0 ⊢
 clear hbW hR
 have hne1 : ¬ w.heap.size = b := by omega
 have hne2 : ¬ b = w.heap.size := by omega
 refine (hcall w0 hR0).mono ?_
 rintro e w1 ⟨rfl, hg, hR1⟩
 have hg1 := grown_trans hg0 hg
 have XB1 := XB.grown hg (fun e => hne1 (Option.some.inj e))
 have hz1 : w.heap.size + 1 ≤ w1.heap.size := by rw [← hz0]; exact hg.size
 clear hg hR0 hg0 XB hz0 hcall
 clear w0
 obtain ⟨r0, r1, r2, r3⟩ := id hR1
 go_wp2_with fail
 refine (isName_any [102, 97, 108, 115, 101] _ (by decide)).mono ?_
 rw [show isName [102, 97, 108, 115, 101] = false by decide]
 rintro e w2 ⟨rfl, hb2⟩
 have hR2 := hR1.keep hb2
 have hg2 := grown_belowB hg1 hb2
 have XB2 := XB1.keep hb2 XB1.lt
 have hz2 := Nat.le_trans hz1 hb2.size
 clear r0 r1 r2 r3 XB1 hR1 hg1 hz1 hb2
 clear w1
 go_wp2_with fail
 refine (elit_any l b q w2 hl hq hR2 (hB.grown hg2).laid).mono ?_
 rw [HRR.out]
 rintro e w3 ⟨hg3, hans⟩
 cases RR with
 | err c q2 =>
  obtain rfl := hans
  exact ⟨rfl, grown_trans hg2 hg3, rfl⟩
 | ok x q2 =>
  obtain ⟨v, rfl, hv, hR4⟩ := hans
  have hg4 := grown_trans hg2 hg3
  have XB4 := XB2.grown hg3 (fun e => hne1 (Option.some.inj e))
  obtain ⟨A, n, c, rfl, hk⟩ := hv.one'
  have hk' := hk.keep (D' := fun k => w.heap.size ≤ k ∧ k ≠ w.heap.size) (Same.refl _ _) (fun k h _ => by have : w2.heap.size ≤ k := h; omega)
  clear hk hv XB2 hR2 hg2 hg3
  rename_i K1 K2 h1 h2
  have H1 := Lib.hid h1
  clear h1
  obtain ⟨x0, x1, x2, x3, x4, x5, x6, x7⟩ := id XB4
  go_wp2_with fail
  obtain ⟨WF, hW⟩ : ∃ wF, ((((((w3.setCell ⟨w.heap.size, 0, none⟩ (.int .i64 x.kind)).setCell ⟨w.heap.size, 1, none⟩ (.string ⟨x.name.toArray⟩)).setCell ⟨w.heap.size, 2, none⟩ (.int .i64 x.vs)).setCell ⟨w.heap.size, 3, none⟩ (.int .i64 x.vn)).setCell ⟨w.heap.size, 4, none⟩ (.string ⟨x.vt.toArray⟩)).setCell ⟨w.heap.size, 5, none⟩ (.slice A n c)) = wF := ⟨_, rfl⟩
  rw [hW]
  obtain ⟨hF, hgF, hRF, hT⟩ := efinish hbw (Nat.le_refl _) hg4 hR4 XB4 x (.slice A n c) hk' hW
  clear hW x0 x1 x2 x3 x4 x5 x6 x7
  obtain ⟨d0, d1, d2, d3, d4, d5, d6, d7⟩ := hF
  refine H1.out _ _ ?_
  clear H1
  go_step
  refine bodyPost_ret (v := .agg #[.int .i64 x.kind, .string ⟨x.name.toArray⟩, .int .i64 x.vs, .int .i64 x.vn, .string ⟨x.vt.toArray⟩, (.slice A n c)]) (by simp [results, Tryz.results85, go_sem, d0, d1, d2, d3, d4, d5, Ex.kind, Ex.name, Ex.vs, Ex.vn, Ex.vt]) rfl ?_
  exact ⟨hgF, _, rfl, hT, hRF⟩
abbrev xOne (l : Str) (f p : Nat) := Yd.one unX biX (opdP l) (ebin l) (eclose l) (sk l) f p
abbrev xAll (l : Str) (f t p : Nat) := Yd.all unX biX (opdP l) (ebin l) (eclose l) (sk l) f t p
abbrev xLoop (l : Str) (f t : Nat) (x : Ex) (p : Nat) := Yd.loop unX biX (opdP l) (ebin l) (eclose l) (sk l) f t x p
theorem one_lit {l : Str} {f p q : Nat} (h : opdP l p = litP l q) : xOne l (f + 1) p = some (litEnd l q) := by
 unfold xOne
 rw [Yd.one, h]
 unfold litP litEnd
 generalize rdP ((l.drop q).take (litLen (l.drop q))) = V
 obtain ⟨vs, vn, vt, ve⟩ := V
 unfold ofVR litAns
 simp only
 by_cases hve : ve = 0
 ·rw [if_pos hve, if_pos hve]
 ·rw [if_neg hve, if_neg hve]
theorem eone_step (l : Str) (b : Nat) (hl : l.length ≤ 2000) (W0 : World) (f : Nat)
  (ih1 : ∀ p w r, p ≤ l.length → xOne l f p = some r → RBox w b l p → Bs W0 w b → Calls Tryz.prog 85 #[.pointer (some ⟨b, 0, none⟩)] w (AnsE w b l r))
  (ih2 : ∀ p w r, p ≤ l.length → xAll l f 1 p = some r → RBox w b l p → Bs W0 w b → Calls Tryz.prog 53 #[.pointer (some ⟨b, 0, none⟩), .int .i64 1] w (AnsE w b l (skR l r)))
  (p : Nat) (w : World) (r : Yd.Res Ex) (hp : p ≤ l.length) (h : xOne l (f + 1) p = some r) (hR : RBox w b l p) (hB : Bs W0 w b) :
  Calls Tryz.prog 85 #[.pointer (some ⟨b, 0, none⟩)] w (AnsE w b l r) := by
 have hcall : ∀ w, RBox w b l p → Calls Tryz.prog 86 #[.pointer (some ⟨b, 0, none⟩)] w fun e w' => e = .returned (.string ⟨(eword l p).toArray⟩) ∧ w.grownBy w' (some b) ∧ RBox w' b l (sk l p) := fun w hR => eword_any l b p w hl hp hR
 have hs := sk_le hp
 have hlen := eword_len hp
 have un : ∀ (u : Str) (z : Nat), opdP l p = .pre u z → ∃ r1, xOne l f z = some r1 ∧ r = unR u r1 := by
  intro u z ho
  unfold xOne at h
  rw [Yd.one, ho] at h
  simp only at h
  cases h1 : Yd.one unX biX (opdP l) (ebin l) (eclose l) (sk l) f z with
  | none => rw [h1] at h; cases h
  | some r1 =>
   rw [h1] at h
   refine ⟨r1, h1, ?_⟩
   cases r1 with
   | err c a => exact (Option.some.inj h).symm
   | ok x a => exact (Option.some.inj h).symm
 by_cases h1 : eword l p = notS
 ·have h1' : eword l p = [110, 111, 116] := h1
  rw [h1'] at hcall hlen
  have hz : sk l p + 3 ≤ l.length := hlen
  obtain ⟨r1, hr1, rfl⟩ := un notS (sk l p + 3) (by unfold opdP; exact if_pos h1)
  exact eone_not l b p w hl hR (sk l p) hs.2 hcall W0 hB (sk l p + 3) rfl hz r1 (fun w' hR' hB' => ih1 _ w' r1 hz hr1 hR' hB')
 by_cases h2 : eword l p = [35]
 ·rw [h2] at hcall hlen
  have hz : sk l p + 1 ≤ l.length := hlen
  obtain ⟨r1, hr1, rfl⟩ := un [35] (sk l p + 1) (by unfold opdP; rw [if_neg h1, if_pos h2])
  exact eone_hash l b p w hl hR (sk l p) hs.2 hcall W0 hB (sk l p + 1) rfl hz r1 (fun w' hR' hB' => ih1 _ w' r1 hz hr1 hR' hB')
 by_cases h3 : eword l p = [45]
 ·rw [h3] at hcall hlen
  have hz : sk l p + 1 ≤ l.length := hlen
  cases hx : l[sk l p + 1]? with
  | none =>
   obtain ⟨r1, hr1, rfl⟩ := un negS (sk l p + 1) (by unfold opdP; rw [if_neg h1, if_neg h2, if_pos h3, hx]; rfl)
   exact eone_neg2 l b p w hl hR (sk l p) hs.2 hcall W0 hB (sk l p + 1) rfl hz r1 (fun w' hR' hB' => ih1 _ w' r1 hz hr1 hR' hB') (Lib.hid (by have := List.getElem?_eq_none_iff.1 hx; omega))
  | some x =>
   cases hfx : figb x with
   | false =>
    obtain ⟨r1, hr1, rfl⟩ := un negS (sk l p + 1) (by unfold opdP; rw [if_neg h1, if_neg h2, if_pos h3, hx, Option.map_some, hfx]; rfl)
    exact eone_neg1 l b p w hl hR (sk l p) hs.2 hcall W0 hB (sk l p + 1) rfl hz r1 (fun w' hR' hB' => ih1 _ w' r1 hz hr1 hR' hB') x hx hfx
   | true =>
    rw [one_lit (by unfold opdP; rw [if_neg h1, if_neg h2, if_pos h3, hx, Option.map_some, hfx]; exact if_pos rfl)] at h
    obtain rfl := Option.some.inj h
    exact eone_minus l b p w hl hR (sk l p) hs.2 hcall W0 hB (sk l p + 1) rfl hz x hx hfx
 by_cases h4 : eword l p = [40]
 ·rw [h4] at hcall hlen
  have hz : sk l p + 1 ≤ l.length := hlen
  have ho : opdP l p = .par (sk l p + 1) := by unfold opdP; rw [if_neg h1, if_neg h2, if_neg h3, if_pos h4]
  unfold xOne at h
  rw [Yd.one, ho] at h
  simp only at h
  cases hr1 : Yd.all unX biX (opdP l) (ebin l) (eclose l) (sk l) f 1 (sk l p + 1) with
  | none => rw [hr1] at h; cases h
  | some r1 =>
   rw [hr1] at h
   have hr : r = parR l r1 := by
    cases r1 with
    | err c a => exact (Option.some.inj h).symm
    | ok x a =>
     simp only at h
     unfold parR
     simp only
     cases hc : eclose l a with
     | none => rw [hc] at h; exact (Option.some.inj h).symm
     | some a' => rw [hc] at h; exact (Option.some.inj h).symm
   subst hr
   exact eone_par l b p w hl hR (sk l p) hs.2 hcall W0 hB (sk l p + 1) rfl hz r1 (fun x q hq => ((Yd.all_in (tokens_grow l) hz hr1) x q hq).2) (fun w' hR' hB' => ih2 _ w' r1 hz hr1 hR' hB')
 have b1 : (eword l p == [110, 111, 116]) = false := by rw [beq_eq_false_iff_ne]; exact h1
 have b2 : (eword l p == [35]) = false := by rw [beq_eq_false_iff_ne]; exact h2
 have b3 : (eword l p == [45]) = false := by rw [beq_eq_false_iff_ne]; exact h3
 have b4 : (eword l p == [40]) = false := by rw [beq_eq_false_iff_ne]; exact h4
 cases hn : isName (eword l p) with
 | true =>
  have ho : opdP l p = .leaf (.mk 2 (eword l p) 0 0 [] []) (sk l p + (eword l p).length) := by unfold opdP; rw [if_neg h1, if_neg h2, if_neg h3, if_neg h4, if_pos hn]
  unfold xOne at h
  rw [Yd.one, ho] at h
  obtain rfl := Option.some.inj h
  exact eone_name l b p w hl hR (sk l p) hs.2 (eword l p) hcall b1 b2 b3 b4 hn (by omega) _ rfl hlen
 | false =>
  have hn' : ¬ isName (eword l p) = true := by rw [hn]; simp
  by_cases h5 : eword l p = []
  ·rw [one_lit (q := sk l p) (by unfold opdP; rw [if_neg h1, if_neg h2, if_neg h3, if_neg h4, if_neg hn', if_neg (fun h => h.1 h5)])] at h
   obtain rfl := Option.some.inj h
   rw [h5] at hcall
   exact eone_lit0 l b p w hl hR (sk l p) hs.2 hcall W0 hB
  by_cases h6 : eword l p = [116, 114, 117, 101]
  ·rw [one_lit (q := sk l p) (by unfold opdP; rw [if_neg h1, if_neg h2, if_neg h3, if_neg h4, if_neg hn', if_neg (fun h => h.2.1 h6)])] at h
   obtain rfl := Option.some.inj h
   rw [h6] at hcall
   exact eone_litT l b p w hl hR (sk l p) hs.2 hcall W0 hB
  by_cases h7 : eword l p = [102, 97, 108, 115, 101]
  ·rw [one_lit (q := sk l p) (by unfold opdP; rw [if_neg h1, if_neg h2, if_neg h3, if_neg h4, if_neg hn', if_neg (fun h => h.2.2 h7)])] at h
   obtain rfl := Option.some.inj h
   rw [h7] at hcall
   exact eone_litF l b p w hl hR (sk l p) hs.2 hcall W0 hB
  have ho : opdP l p = .bad 3 (sk l p) := by unfold opdP; rw [if_neg h1, if_neg h2, if_neg h3, if_neg h4, if_neg hn', if_pos ⟨h5, h6, h7⟩]
  unfold xOne at h
  rw [Yd.one, ho] at h
  obtain rfl := Option.some.inj h
  exact eone_bad l b p w hl hR (sk l p) hs.2 (eword l p) hcall b1 b2 b3 b4 hn (by cases he : eword l p with | nil => exact absurd he h5 | cons _ _ => rfl) (by rw [beq_eq_false_iff_ne]; exact h6) (by rw [beq_eq_false_iff_ne]; exact h7) (by omega)
end Go.Proofs.YtpidjanngbaiiaaGreatDoor
