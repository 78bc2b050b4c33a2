/-
  The reference's reader of a type: ScanType, what is passed.
-/
import Derived.Test.YtpidjanngbaiiaaGreatDoorM11
namespace Go.Proofs.YtpidjanngbaiiaaGreatDoor
open Go.RowKit Go.Proofs

set_option maxRecDepth 100000
theorem go_onS {w w1 : World} {b X : Nat} {l : Str} {q : Nat} {bad : Option Nat} {t0 : Ty} {lv0 kv0 : Value} (hg : w.grownBy w1 (some b)) (hR : SBox w1 b l ⟨q, bad⟩) (XB : VBox w1 X t0 lv0 kv0) (hne : ¬ b = X) :
  w.grownBy (w1.setCell ⟨b, 1, none⟩ (.int .i64 ((q : Int) + 1))) (some b) ∧ SBox (w1.setCell ⟨b, 1, none⟩ (.int .i64 ((q : Int) + 1))) b l ⟨q + 1, bad⟩ ∧ VBox (w1.setCell ⟨b, 1, none⟩ (.int .i64 ((q : Int) + 1))) X t0 lv0 kv0 := by
 have e : ((q + 1 : Nat) : Int) = (q : Int) + 1 := by omega
 rw [← e]
 exact ⟨grown_trans hg (grown_at _ _ _ _), hR.set (q + 1), XB.far hne _⟩

section
variable (l : Str) (b p : Nat) (w : World) (hl : l.length ≤ 2000) (hp : p ≤ l.length)
include hl hp
set_option maxHeartbeats 4000000 in
theorem scan_bang (hR : SBox w b l ⟨p, none⟩) (W : Str) (p1 : Nat) (bad1 : Option Nat) (hM : must l startOk ⟨p, none⟩ = (W, ⟨p1, bad1⟩)) (hW : W = [33]) (n : Nat) (ih : ∀ (s : St) (w : World), s.p ≤ l.length → (s.bad = none → l.length < n + s.p) → SBox w b l s → Calls Tryz.prog 106 #[.pointer (some ⟨b, 0, none⟩)] w (AnsR w b l (scanF l n s))) (hn : l.length < n + 1 + p) : Calls Tryz.prog 106 #[.pointer (some ⟨b, 0, none⟩)] w (AnsR w b l (scanPassed l (scanF l n) 0 ⟨p1, bad1⟩)) := by
 subst hW
 obtain ⟨RES, hRES⟩ : ∃ r, scanPassed l (scanF l n) 0 ⟨p1, bad1⟩ = r := ⟨_, rfl⟩
 rw [hRES]
 have HRES := Lib.hid hRES; clear hRES
 have hwr4 : IntKind.i64.wrap 4 = 4 := by decide
 have hwr2 : IntKind.i64.wrap 2 = 2 := by decide
 obtain ⟨c0, c1, c2, c3, c4, fr, lt⟩ := id hR
 simp only [codeOf, placeOf] at c3 c4
 have hmf : ∀ (fn : Fn) (first cap : Array Value) (w : World), (Instr.makeFunc fn first cap).run Tryz.prog w = .ok (.func fn first cap) w := fun _ _ _ _ => rfl
 have hbw := hR.lt
 have hon := must_on (l := l) startOk (s := ⟨p, none⟩) hp
 rw [hM] at hon
 go_enter Tryz.func106, Tryz.ntmps106
 go_wp2_with fail
 have XB := new_box w 30
 have hbW : Below w.heap.size w (w.alloc (.cells #[.int .i64 0, .int .i64 0, .string ⟨#[]⟩, .slice none 0 0, .slice none 0 0] 30)) := by go_grown
 have hR0 := hR.keep hbW
 have hg0 := grown_belowB (grown_refl w b) hbW
 generalize w.alloc (.cells #[.int .i64 0, .int .i64 0, .string ⟨#[]⟩, .slice none 0 0, .slice none 0 0] 30) = w0 at XB hR0 hg0 ⊢
 clear hbW hR c0 c1 c2 c3 c4 fr lt
 have hne1 : ¬ w.heap.size = b := by omega
 have hne2 : ¬ b = w.heap.size := by omega
 have hcall := must_any startOk 139 #[] (fun _ _ => by kernel_rfl) l b p none w0 hl hp hR0 (fun x w' hx _ => is1_start x w' hx)
 rw [hM] at hcall
 refine hcall.mono ?_; clear hcall
 rintro e w1 ⟨rfl, hg, hR1⟩
 have hg1 := grown_trans hg0 hg
 replace XB := XB.grown' hg (by omega)
 clear hg hR0 hg0 hM
 clear w0
 simp only at hR1
 obtain ⟨x0, x1, x2, x3, x4, x5, x6⟩ := id XB
 go_wp2_with fail
 have hs1 := sk_le (l := l) (p := p1) hon.2.1
 refine (peek_any l b p1 bad1 w1 hl hon.2.1 hR1).mono ?_
 rintro e w2 ⟨rfl, hg, hR2⟩
 have hg2 := grown_trans hg1 hg
 replace XB := XB.grown' hg (by omega)
 clear hg hR1 hg1 x0 x1 x2 x3 x4 x5 x6
 clear w1
 by_cases hpk : pk l (sk l p1) = [123]
 case pos =>
  have hpe : (pk l (sk l p1) == [123]) = true := by simp [hpk]
  have hle : sk l p1 + 1 ≤ l.length := by have := pk_le hs1.2; rw [hpk] at this; simpa using this
  have HR : Hid ((.mk (4 + 0) 0 [] [] [(scanF l n ⟨sk l p1 + 1, bad1⟩).1, (scanF l n (must l (isW [46]) (must l (isW [125]) (scanF l n ⟨sk l p1 + 1, bad1⟩).2).2).2).1], (scanF l n (must l (isW [46]) (must l (isW [125]) (scanF l n ⟨sk l p1 + 1, bad1⟩).2).2).2).2) = RES) := Lib.hid (by rw [← HRES.out, scanPassed, if_pos hpk])
  have hon5 : On l 1 ⟨p, none⟩ (scanF l n ⟨sk l p1 + 1, bad1⟩).2 := ((hon.trans (⟨by show p1 ≤ sk l p1 + 1; omega, hle, fun h => ⟨h, by show p1 + 0 ≤ sk l p1 + 1; omega⟩⟩ : On l 0 ⟨p1, bad1⟩ ⟨sk l p1 + 1, bad1⟩)).trans (scan_on n _ hle)).mono (by omega)
  clear hpk HRES
  obtain ⟨c0, c1, c2, c3, c4, fr, lt⟩ := id hR2
  go_wp2_with fail
  obtain ⟨hg3, hR3, XB3⟩ := go_onS hg2 hR2 XB hne2
  generalize w2.setCell ⟨b, 1, none⟩ (.int .i64 ((sk l p1 : Int) + 1)) = w3 at hg3 hR3 XB3 ⊢
  clear hg2 hR2 XB c0 c1 c2 c3 c4 fr lt hpe
  clear w2
  refine (ih ⟨sk l p1 + 1, bad1⟩ w3 hle (fun h => by have h1 : p + 1 ≤ p1 := (hon.2.2 h).2; show l.length < n + (sk l p1 + 1); omega) hR3).mono ?_
  generalize scanF l n ⟨sk l p1 + 1, bad1⟩ = TT at *
  obtain ⟨t, q5, bd5⟩ := TT
  rintro e w4 ⟨hg, v, rfl, hT, hR4⟩
  have hg4 := grown_trans hg3 hg
  have XB := XB3.grown' hg (by omega)
  have hM : w.heap.size < w3.heap.size := XB3.lt
  have hM4 := hg.size
  clear hg hR3 hg3 XB3
  obtain ⟨lv, kv, rfl, k1, k2⟩ := hT
  simp only at k1 k2 hR4
  have K1 := Lib.hid k1; have K2 := Lib.hid k2
  obtain ⟨A1, c1, rfl, -, -⟩ := k1
  obtain ⟨A2, c2, rfl, -, -⟩ := k2
  go_wp2_with fail
  have TB := new_val w4 t (.slice A1 t.labels.length c1) (.slice A2 t.kids.length c2) 30
  have hb5 : Below w4.heap.size w4 (w4.alloc (.cells #[.int .i64 t.kind, .int .i64 t.sort, .string ⟨t.name.toArray⟩, .slice A1 t.labels.length c1, .slice A2 t.kids.length c2] 30)) := (Below.refl _ _).alloc (Nat.le_refl _) _
  have hR5 := hR4.keep hb5
  have hg5 := grown_belowB hg4 hb5
  replace XB := XB.keep hb5 XB.lt
  replace K1 := Lib.hid (K1.out.keep (D' := fun k => w3.heap.size ≤ k) (Same.below hb5) (fun _ h _ => h))
  replace K2 := Lib.hid (K2.out.keep (D' := fun k => w3.heap.size ≤ k) (Same.below hb5) (fun _ h _ => h))
  have hbT : b < w4.heap.size := hR4.lt
  generalize w4.alloc (.cells #[.int .i64 t.kind, .int .i64 t.sort, .string ⟨t.name.toArray⟩, .slice A1 t.labels.length c1, .slice A2 t.kids.length c2] 30) = w5 at TB hR5 hg5 XB K1 K2 ⊢
  clear hb5 hR4 hg4
  generalize w4.heap.size = T at TB hM4 hbT ⊢
  clear w4
  refine (Is_any [125] w5).mono ?_
  rintro e wi ⟨rfl, hwi⟩
  have hbi : Below w5.heap.size w5 wi := by rw [hwi]; exact (Below.refl _ _).alloc (Nat.le_refl _) _
  have hci : wi.cell? ⟨w5.heap.size, 0, none⟩ = some (.string ⟨([125] : Str).toArray⟩) := by rw [hwi]; exact is_cell _ _ _
  have hNi : w5.heap.size ≠ b := by have := hR5.lt; omega
  have hRi := hR5.keep hbi
  have hgi := grown_belowB hg5 hbi
  replace XB := XB.keep hbi XB.lt
  replace TB := TB.keep hbi TB.lt
  replace K1 := Lib.hid (K1.out.keep (D' := fun k => w3.heap.size ≤ k) (Same.below hbi) (fun _ h _ => h))
  replace K2 := Lib.hid (K2.out.keep (D' := fun k => w3.heap.size ≤ k) (Same.below hbi) (fun _ h _ => h))
  clear hwi hR5 hg5
  generalize w5.heap.size = NI at hci hNi ⊢
  go_wp2_with fail
  refine (must_is [125] NI l b q5 bd5 wi hl hon5.2.1 hRi hNi hci).mono ?_
  have hon6 := (hon5.trans (must_on (l := l) (isW [125]) (s := ⟨q5, bd5⟩) hon5.2.1)).mono (d' := 1) (by omega)
  generalize must l (isW [125]) ⟨q5, bd5⟩ = M6 at *
  obtain ⟨y6, q6, bd6⟩ := M6
  rintro e w6 ⟨rfl, hg, hR6⟩
  have hg6 := grown_trans hgi hg
  replace XB := XB.grown' hg (by omega)
  replace TB := TB.grown' hg (by omega)
  have hsm : Same (· ≠ b) wi w6 := Same.grown hg (fun k hk e => hk (by injection e))
  replace K1 := Lib.hid (K1.out.keep (D' := fun k => w3.heap.size ≤ k) (fun k hk hl => hsm k (by omega) hl) (fun _ h _ => h))
  replace K2 := Lib.hid (K2.out.keep (D' := fun k => w3.heap.size ≤ k) (fun k hk hl => hsm k (by omega) hl) (fun _ h _ => h))
  clear hsm
  clear hg hRi hgi hci hNi hbi
  go_wp2_with fail
  refine (Is_any [46] w6).mono ?_
  rintro e wi ⟨rfl, hwi⟩
  have hbi : Below w6.heap.size w6 wi := by rw [hwi]; exact (Below.refl _ _).alloc (Nat.le_refl _) _
  have hci : wi.cell? ⟨w6.heap.size, 0, none⟩ = some (.string ⟨([46] : Str).toArray⟩) := by rw [hwi]; exact is_cell _ _ _
  have hNi : w6.heap.size ≠ b := by have := hR6.lt; omega
  have hRi := hR6.keep hbi
  have hgi := grown_belowB hg6 hbi
  replace XB := XB.keep hbi XB.lt
  replace TB := TB.keep hbi TB.lt
  replace K1 := Lib.hid (K1.out.keep (D' := fun k => w3.heap.size ≤ k) (Same.below hbi) (fun _ h _ => h))
  replace K2 := Lib.hid (K2.out.keep (D' := fun k => w3.heap.size ≤ k) (Same.below hbi) (fun _ h _ => h))
  clear hwi hR6 hg6
  generalize w6.heap.size = NI at hci hNi ⊢
  go_wp2_with fail
  refine (must_is [46] NI l b q6 bd6 wi hl hon6.2.1 hRi hNi hci).mono ?_
  have hon7 := (hon6.trans (must_on (l := l) (isW [46]) (s := ⟨q6, bd6⟩) hon6.2.1)).mono (d' := 1) (by omega)
  generalize must l (isW [46]) ⟨q6, bd6⟩ = M7 at *
  obtain ⟨y7, q7, bd7⟩ := M7
  rintro e w7 ⟨rfl, hg, hR7⟩
  have hg7 := grown_trans hgi hg
  replace XB := XB.grown' hg (by omega)
  replace TB := TB.grown' hg (by omega)
  have hsm : Same (· ≠ b) wi w7 := Same.grown hg (fun k hk e => hk (by injection e))
  replace K1 := Lib.hid (K1.out.keep (D' := fun k => w3.heap.size ≤ k) (fun k hk hl => hsm k (by omega) hl) (fun _ h _ => h))
  replace K2 := Lib.hid (K2.out.keep (D' := fun k => w3.heap.size ≤ k) (fun k hk hl => hsm k (by omega) hl) (fun _ h _ => h))
  clear hsm
  clear hg hRi hgi hci hNi hbi
  go_wp2_with fail
  have HSd : Hid ((fun w' : World => w'.cell? ⟨T, 0, none⟩ = some (.int .i64 t.kind) ∧ w'.cell? ⟨T, 1, none⟩ = some (.int .i64 t.sort) ∧ w'.cell? ⟨T, 2, none⟩ = some (.string ⟨t.name.toArray⟩) ∧ w'.cell? ⟨T, 3, none⟩ = some (.slice A1 t.labels.length c1) ∧ w'.cell? ⟨T, 4, none⟩ = some (.slice A2 t.kids.length c2)) w7.drew) := Lib.hid ⟨TB.c0, TB.c1, TB.c2, TB.c3, TB.c4⟩
  refine wp_region_T 7 (fun w' : World => w'.cell? ⟨T, 0, none⟩ = some (.int .i64 t.kind) ∧ w'.cell? ⟨T, 1, none⟩ = some (.int .i64 t.sort) ∧ w'.cell? ⟨T, 2, none⟩ = some (.string ⟨t.name.toArray⟩) ∧ w'.cell? ⟨T, 3, none⟩ = some (.slice A1 t.labels.length c1) ∧ w'.cell? ⟨T, 4, none⟩ = some (.slice A2 t.kids.length c2)) (by kernel_rfl) ?_
  refine zT 0 ?_ rfl (Or.inl ⟨by rfl, ?_⟩) HSd.out ?_
  rotate_left
  ·(intro wq hSw; obtain ⟨_,_,_,_,_⟩ := hSw; go_simp; all_goals (first | (with_reducible rfl) | (rw [zI])))
  simp only [zA, zB, zC, Act.put, zD, zE, zF]
  refine zT 1 ?_ rfl (Or.inl ⟨by rfl, ?_⟩) HSd.out ?_
  rotate_left
  ·(intro wq hSw; obtain ⟨_,_,_,_,_⟩ := hSw; go_simp; all_goals (first | (with_reducible rfl) | (rw [zI])))
  simp only [zA, zB, zC, Act.put, zD, zE, zF]
  refine zT 2 ?_ rfl (Or.inl ⟨by rfl, ?_⟩) HSd.out ?_
  rotate_left
  ·(intro wq hSw; obtain ⟨_,_,_,_,_⟩ := hSw; go_simp; all_goals (first | (with_reducible rfl) | (rw [zI])))
  simp only [zA, zB, zC, Act.put, zD, zE, zF]
  refine zT 3 ?_ rfl (Or.inl ⟨by rfl, ?_⟩) HSd.out ?_
  rotate_left
  ·(intro wq hSw; obtain ⟨_,_,_,_,_⟩ := hSw; go_simp; all_goals (first | (with_reducible rfl) | (rw [zI])))
  simp only [zA, zB, zC, Act.put, zD, zE, zF]
  refine zO 4 fun K hK => ?_
  go_simp
  have hgd : w.grownBy w7.drew (some b) := grown_drew hg7
  have hRd : SBox w7.drew b l ⟨q7, bd7⟩ := ⟨hR7.c0, hR7.c1, hR7.c2, hR7.c3, hR7.c4, hR7.fr, hR7.lt⟩
  refine (ih ⟨q7, bd7⟩ w7.drew hon7.2.1 (fun h => by have h1 : p + 1 ≤ q7 := (hon7.2.2 h).2; show l.length < n + q7; omega) hRd).mono ?_
  generalize scanF l n ⟨q7, bd7⟩ = UU at *
  obtain ⟨u, q8, bd8⟩ := UU
  rintro e w8 ⟨hg, v, rfl, hU, hR8⟩
  have hg8 := grown_trans hgd hg
  have hg' : w7.grownBy w8 (some b) := drew_grown hg
  have hz7 : w3.heap.size ≤ w7.heap.size := by have := TB.lt; omega
  replace XB := XB.grown' hg' (by omega)
  replace TB := TB.grown' hg' (by omega)
  have hsm : Same (· ≠ b) w7 w8 := Same.grown hg' (fun k hk e => hk (by injection e))
  replace K1 := Lib.hid (K1.out.keep (D' := fun k => w3.heap.size ≤ k) (fun k hk hl => hsm k (by omega) hl) (fun _ h _ => h))
  replace K2 := Lib.hid (K2.out.keep (D' := fun k => w3.heap.size ≤ k) (fun k hk hl => hsm k (by omega) hl) (fun _ h _ => h))
  have hz78 := hg'.size
  clear hsm hg hg' hgd hRd hR7 hg7
  obtain ⟨lv, kv, rfl, k3, k4⟩ := hU
  simp only at k3 k4 hR8
  have K3 := Lib.hid (k3.keep (D' := fun k => w3.heap.size ≤ k) (fun _ _ _ => rfl) (fun k hk _ => by have : w7.drew.heap.size ≤ k := hk; have e : w7.drew.heap.size = w7.heap.size := rfl; omega))
  have K4 := Lib.hid (k4.keep (D' := fun k => w3.heap.size ≤ k) (fun _ _ _ => rfl) (fun k hk _ => by have : w7.drew.heap.size ≤ k := hk; have e : w7.drew.heap.size = w7.heap.size := rfl; omega))
  obtain ⟨A3, c3, rfl, -, -⟩ := k3
  obtain ⟨A4, c4, rfl, -, -⟩ := k4
  refine hK.out _ _ (fun _ => ⟨TB.c0, TB.c1, TB.c2, TB.c3, TB.c4⟩) ?_
  clear hK K
  try simp only [zA, zB, zC, Act.put, zD, zE, zF]
  refine zO 5 fun K hK => ?_
  go_simp
  have hb10 : Below w8.heap.size w8 (w8.alloc (.cells #[.int .i64 t.kind, .int .i64 t.sort, .string ⟨t.name.toArray⟩, .slice A1 t.labels.length c1, .slice A2 t.kids.length c2, .int .i64 u.kind, .int .i64 u.sort, .string ⟨u.name.toArray⟩, .slice A3 u.labels.length c3, .slice A4 u.kids.length c4] 30)) := (Below.refl _ _).alloc (Nat.le_refl _) _
  have TB10 := TB.keep hb10 TB.lt
  refine hK.out _ _ (fun _ => ⟨TB10.c0, TB10.c1, TB10.c2, TB10.c3, TB10.c4⟩) ?_
  clear hK K
  try simp only [zA, zB, zC, Act.put, zD, zE, zF]
  refine zO 6 fun K hK => ?_
  go_simp
  refine hK.out _ _ (fun _ => ⟨TB10.c0, TB10.c1, TB10.c2, TB10.c3, TB10.c4⟩) ?_
  clear hK K TB10
  try simp only [zA, zB, zC, Act.put, zD, zE, zF]
  have hX9 := XB.lt
  obtain ⟨x0, x1, x2, x3, x4, x5, x6⟩ := id XB
  refine zO 7 fun K hK => ?_
  go_simp
  refine hK.out _ _ (fun h => absurd h (by decide)) ?_
  clear hK K
  try simp only [zA, zB, zC, Act.put, zD, zE, zF]
  refine wpT_done (by kernel_rfl) ?_
  go_wp2_with fail
  obtain ⟨hF, hgF, hRF, hT⟩ := finishKS hbw (Nat.le_refl _) (m := w3.heap.size) (by omega) (by omega) hg8 hR8 XB 4 0 [] _ [t, u] (.cons t _ _ _ [u] K1.out K2.out (.cons u _ _ [] [] K3.out K4.out .nil)) 30
  simp only [List.length_cons, List.length_nil] at hF hgF hRF hT
  generalize ((((((w8.setCell ⟨w.heap.size, 0, none⟩ (.int .i64 4)).setCell ⟨w.heap.size, 1, none⟩ (.int .i64 0)).setCell ⟨w.heap.size, 2, none⟩ (.string ⟨([] : Str).toArray⟩)).setCell ⟨w.heap.size, 3, none⟩ (.slice none 0 0)).setCell ⟨w.heap.size, 4, none⟩ (.slice (some ⟨w8.heap.size, 0, none⟩) (0 + 1 + 1) (0 + 1 + 1))).alloc _) = w11 at hF hgF hRF hT ⊢
  obtain ⟨d0, d1, d2, d3, d4, d5, d6⟩ := hF
  refine bodyPost_ret (v := .agg #[.int .i64 4, .int .i64 0, .string ⟨([] : Str).toArray⟩, .slice none 0 0, .slice (some ⟨w8.heap.size, 0, none⟩) 2 2]) (by simp [results, Tryz.results106, go_sem, d0, d1, d2, d3, d4, Ty.kind, Ty.sort, Ty.name]) rfl ?_
  rw [← HR.out]
  exact ⟨hgF, _, rfl, hT, hRF⟩
 case neg =>
  have hpe : (pk l (sk l p1) == [123]) = false := by simpa using hpk
  have HR : Hid ((.mk (2 + 0) (sortIx (must l (fun w => decide (0 < sortIx w)) ⟨sk l p1, bad1⟩).1) [] [] [(scanF l n (must l (isW [46]) (must l (fun w => decide (0 < sortIx w)) ⟨sk l p1, bad1⟩).2).2).1], (scanF l n (must l (isW [46]) (must l (fun w => decide (0 < sortIx w)) ⟨sk l p1, bad1⟩).2).2).2) = RES) := Lib.hid (by rw [← HRES.out, scanPassed, if_neg hpk])
  have hon0 : On l 1 ⟨p, none⟩ ⟨sk l p1, bad1⟩ := (hon.trans (⟨hs1.1, hs1.2, fun h => ⟨h, by show p1 + 0 ≤ sk l p1; omega⟩⟩ : On l 0 ⟨p1, bad1⟩ ⟨sk l p1, bad1⟩)).mono (by omega)
  clear HRES hpk
  go_wp2_with fail
  refine (must_any (fun w => decide (0 < sortIx w)) 143 #[] (fun _ _ => by kernel_rfl) l b (sk l p1) bad1 w2 hl hs1.2 hR2 (fun x w' _ _ => is2_any x w')).mono ?_
  have hon3 := (hon0.trans (must_on (l := l) (fun w => decide (0 < sortIx w)) (s := ⟨sk l p1, bad1⟩) hs1.2)).mono (d' := 1) (by omega)
  generalize must l (fun w => decide (0 < sortIx w)) ⟨sk l p1, bad1⟩ = M3 at *
  obtain ⟨sw, q3, bd3⟩ := M3
  rintro e w3 ⟨rfl, hg, hR3⟩
  have hg3 := grown_trans hg2 hg
  replace XB := XB.grown' hg (by omega)
  clear hg hR2 hg2 hpe
  clear w2
  go_wp2_with fail
  refine (sortOf_any sw w3).mono ?_
  rintro e w4 ⟨rfl, hb4⟩
  have hR4 := hR3.keep hb4
  have hg4 := grown_belowB hg3 hb4
  replace XB := XB.keep hb4 XB.lt
  have hon4 := hon3
  clear hb4 hR3 hg3
  clear w3
  obtain ⟨X, hX⟩ : ∃ x, sortIx sw = x := ⟨_, rfl⟩
  simp only [hX] at HR ⊢
  clear hX
  go_wp2_with fail
  refine (Is_any [46] w4).mono ?_
  rintro e wi ⟨rfl, hwi⟩
  have hbi : Below w4.heap.size w4 wi := by rw [hwi]; exact (Below.refl _ _).alloc (Nat.le_refl _) _
  have hci : wi.cell? ⟨w4.heap.size, 0, none⟩ = some (.string ⟨([46] : Str).toArray⟩) := by rw [hwi]; exact is_cell _ _ _
  have hNi : w4.heap.size ≠ b := by have := hR4.lt; omega
  have hRi := hR4.keep hbi
  have hgi := grown_belowB hg4 hbi
  replace XB := XB.keep hbi XB.lt
  clear hwi hR4 hg4
  generalize w4.heap.size = NI at hci hNi ⊢
  go_wp2_with fail
  refine (must_is [46] NI l b q3 bd3 wi hl hon4.2.1 hRi hNi hci).mono ?_
  have hon5 := (hon4.trans (must_on (l := l) (isW [46]) (s := ⟨q3, bd3⟩) hon4.2.1)).mono (d' := 1) (by omega)
  generalize must l (isW [46]) ⟨q3, bd3⟩ = M5 at *
  obtain ⟨y5, q5, bd5⟩ := M5
  rintro e w5 ⟨rfl, hg, hR5⟩
  have hg5 := grown_trans hgi hg
  replace XB := XB.grown' hg (by omega)
  clear hg hRi hgi hci hNi hbi
  go_wp2_with fail
  refine (ih ⟨q5, bd5⟩ w5 hon5.2.1 (fun h => by have h1 : p + 1 ≤ q5 := (hon5.2.2 h).2; show l.length < n + q5; omega) hR5).mono ?_
  generalize scanF l n ⟨q5, bd5⟩ = TT at *
  obtain ⟨t, q6, bd6⟩ := TT
  rintro e w7 ⟨hg, v, rfl, hT, hR7⟩
  have hg7 := grown_trans hg5 hg
  have hlt3 := XB.lt
  have hz37 := hg.size
  replace XB := XB.grown' hg (by omega)
  clear hg hR5 hg5
  obtain ⟨lv, kv, rfl, k1, k2⟩ := hT
  simp only at k1 k2 hR7
  have K1 := Lib.hid k1; have K2 := Lib.hid k2
  obtain ⟨A1, c1, rfl, -, -⟩ := k1
  obtain ⟨A2, c2, rfl, -, -⟩ := k2
  obtain ⟨x0, x1, x2, x3, x4, x5, x6⟩ := id XB
  go_wp2_with fail
  obtain ⟨hF, hgF, hRF, hT⟩ := finishKS hbw (Nat.le_refl _) (m := w5.heap.size) hlt3 hz37 hg7 hR7 XB 2 X [] _ [t] (.cons t _ _ [] [] K1.out K2.out .nil) 30
  simp only [List.length_cons, List.length_nil] at hF hgF hRF hT
  generalize ((((((w7.setCell ⟨w.heap.size, 0, none⟩ (.int .i64 2)).setCell ⟨w.heap.size, 1, none⟩ (.int .i64 X)).setCell ⟨w.heap.size, 2, none⟩ (.string ⟨([] : Str).toArray⟩)).setCell ⟨w.heap.size, 3, none⟩ (.slice none 0 0)).setCell ⟨w.heap.size, 4, none⟩ (.slice (some ⟨w7.heap.size, 0, none⟩) (0 + 1) (0 + 1))).alloc _) = w9 at hF hgF hRF hT ⊢
  obtain ⟨d0, d1, d2, d3, d4, d5, d6⟩ := hF
  refine bodyPost_ret (v := .agg #[.int .i64 2, .int .i64 X, .string ⟨([] : Str).toArray⟩, .slice none 0 0, .slice (some ⟨w7.heap.size, 0, none⟩) 1 1]) (by simp [results, Tryz.results106, go_sem, d0, d1, d2, d3, d4, Ty.kind, Ty.sort, Ty.name]) rfl ?_
  rw [← HR.out]
  exact ⟨hgF, _, rfl, hT, hRF⟩
set_option maxHeartbeats 4000000 in
theorem scan_ask (hR : SBox w b l ⟨p, none⟩) (W : Str) (p1 : Nat) (bad1 : Option Nat) (hM : must l startOk ⟨p, none⟩ = (W, ⟨p1, bad1⟩)) (hW : W = [63]) (n : Nat) (ih : ∀ (s : St) (w : World), s.p ≤ l.length → (s.bad = none → l.length < n + s.p) → SBox w b l s → Calls Tryz.prog 106 #[.pointer (some ⟨b, 0, none⟩)] w (AnsR w b l (scanF l n s))) (hn : l.length < n + 1 + p) : Calls Tryz.prog 106 #[.pointer (some ⟨b, 0, none⟩)] w (AnsR w b l (scanPassed l (scanF l n) 1 ⟨p1, bad1⟩)) := by
 subst hW
 obtain ⟨RES, hRES⟩ : ∃ r, scanPassed l (scanF l n) 1 ⟨p1, bad1⟩ = r := ⟨_, rfl⟩
 rw [hRES]
 have HRES := Lib.hid hRES; clear hRES
 have hwr4 : IntKind.i64.wrap 5 = 5 := by decide
 have hwr2 : IntKind.i64.wrap 3 = 3 := by decide
 obtain ⟨c0, c1, c2, c3, c4, fr, lt⟩ := id hR
 simp only [codeOf, placeOf] at c3 c4
 have hmf : ∀ (fn : Fn) (first cap : Array Value) (w : World), (Instr.makeFunc fn first cap).run Tryz.prog w = .ok (.func fn first cap) w := fun _ _ _ _ => rfl
 have hbw := hR.lt
 have hon := must_on (l := l) startOk (s := ⟨p, none⟩) hp
 rw [hM] at hon
 go_enter Tryz.func106, Tryz.ntmps106
 go_wp2_with fail
 have XB := new_box w 30
 have hbW : Below w.heap.size w (w.alloc (.cells #[.int .i64 0, .int .i64 0, .string ⟨#[]⟩, .slice none 0 0, .slice none 0 0] 30)) := by go_grown
 have hR0 := hR.keep hbW
 have hg0 := grown_belowB (grown_refl w b) hbW
 generalize w.alloc (.cells #[.int .i64 0, .int .i64 0, .string ⟨#[]⟩, .slice none 0 0, .slice none 0 0] 30) = w0 at XB hR0 hg0 ⊢
 clear hbW hR c0 c1 c2 c3 c4 fr lt
 have hne1 : ¬ w.heap.size = b := by omega
 have hne2 : ¬ b = w.heap.size := by omega
 have hcall := must_any startOk 139 #[] (fun _ _ => by kernel_rfl) l b p none w0 hl hp hR0 (fun x w' hx _ => is1_start x w' hx)
 rw [hM] at hcall
 refine hcall.mono ?_; clear hcall
 rintro e w1 ⟨rfl, hg, hR1⟩
 have hg1 := grown_trans hg0 hg
 replace XB := XB.grown' hg (by omega)
 clear hg hR0 hg0 hM
 clear w0
 simp only at hR1
 obtain ⟨x0, x1, x2, x3, x4, x5, x6⟩ := id XB
 go_wp2_with fail
 have hs1 := sk_le (l := l) (p := p1) hon.2.1
 refine (peek_any l b p1 bad1 w1 hl hon.2.1 hR1).mono ?_
 rintro e w2 ⟨rfl, hg, hR2⟩
 have hg2 := grown_trans hg1 hg
 replace XB := XB.grown' hg (by omega)
 clear hg hR1 hg1 x0 x1 x2 x3 x4 x5 x6
 clear w1
 by_cases hpk : pk l (sk l p1) = [123]
 case pos =>
  have hpe : (pk l (sk l p1) == [123]) = true := by simp [hpk]
  have hle : sk l p1 + 1 ≤ l.length := by have := pk_le hs1.2; rw [hpk] at this; simpa using this
  have HR : Hid ((.mk (4 + 1) 0 [] [] [(scanF l n ⟨sk l p1 + 1, bad1⟩).1, (scanF l n (must l (isW [46]) (must l (isW [125]) (scanF l n ⟨sk l p1 + 1, bad1⟩).2).2).2).1], (scanF l n (must l (isW [46]) (must l (isW [125]) (scanF l n ⟨sk l p1 + 1, bad1⟩).2).2).2).2) = RES) := Lib.hid (by rw [← HRES.out, scanPassed, if_pos hpk])
  have hon5 : On l 1 ⟨p, none⟩ (scanF l n ⟨sk l p1 + 1, bad1⟩).2 := ((hon.trans (⟨by show p1 ≤ sk l p1 + 1; omega, hle, fun h => ⟨h, by show p1 + 0 ≤ sk l p1 + 1; omega⟩⟩ : On l 0 ⟨p1, bad1⟩ ⟨sk l p1 + 1, bad1⟩)).trans (scan_on n _ hle)).mono (by omega)
  clear hpk HRES
  obtain ⟨c0, c1, c2, c3, c4, fr, lt⟩ := id hR2
  go_wp2_with fail
  obtain ⟨hg3, hR3, XB3⟩ := go_onS hg2 hR2 XB hne2
  generalize w2.setCell ⟨b, 1, none⟩ (.int .i64 ((sk l p1 : Int) + 1)) = w3 at hg3 hR3 XB3 ⊢
  clear hg2 hR2 XB c0 c1 c2 c3 c4 fr lt hpe
  clear w2
  refine (ih ⟨sk l p1 + 1, bad1⟩ w3 hle (fun h => by have h1 : p + 1 ≤ p1 := (hon.2.2 h).2; show l.length < n + (sk l p1 + 1); omega) hR3).mono ?_
  generalize scanF l n ⟨sk l p1 + 1, bad1⟩ = TT at *
  obtain ⟨t, q5, bd5⟩ := TT
  rintro e w4 ⟨hg, v, rfl, hT, hR4⟩
  have hg4 := grown_trans hg3 hg
  have XB := XB3.grown' hg (by omega)
  have hM : w.heap.size < w3.heap.size := XB3.lt
  have hM4 := hg.size
  clear hg hR3 hg3 XB3
  obtain ⟨lv, kv, rfl, k1, k2⟩ := hT
  simp only at k1 k2 hR4
  have K1 := Lib.hid k1; have K2 := Lib.hid k2
  obtain ⟨A1, c1, rfl, -, -⟩ := k1
  obtain ⟨A2, c2, rfl, -, -⟩ := k2
  go_wp2_with fail
  have TB := new_val w4 t (.slice A1 t.labels.length c1) (.slice A2 t.kids.length c2) 30
  have hb5 : Below w4.heap.size w4 (w4.alloc (.cells #[.int .i64 t.kind, .int .i64 t.sort, .string ⟨t.name.toArray⟩, .slice A1 t.labels.length c1, .slice A2 t.kids.length c2] 30)) := (Below.refl _ _).alloc (Nat.le_refl _) _
  have hR5 := hR4.keep hb5
  have hg5 := grown_belowB hg4 hb5
  replace XB := XB.keep hb5 XB.lt
  replace K1 := Lib.hid (K1.out.keep (D' := fun k => w3.heap.size ≤ k) (Same.below hb5) (fun _ h _ => h))
  replace K2 := Lib.hid (K2.out.keep (D' := fun k => w3.heap.size ≤ k) (Same.below hb5) (fun _ h _ => h))
  have hbT : b < w4.heap.size := hR4.lt
  generalize w4.alloc (.cells #[.int .i64 t.kind, .int .i64 t.sort, .string ⟨t.name.toArray⟩, .slice A1 t.labels.length c1, .slice A2 t.kids.length c2] 30) = w5 at TB hR5 hg5 XB K1 K2 ⊢
  clear hb5 hR4 hg4
  generalize w4.heap.size = T at TB hM4 hbT ⊢
  clear w4
  refine (Is_any [125] w5).mono ?_
  rintro e wi ⟨rfl, hwi⟩
  have hbi : Below w5.heap.size w5 wi := by rw [hwi]; exact (Below.refl _ _).alloc (Nat.le_refl _) _
  have hci : wi.cell? ⟨w5.heap.size, 0, none⟩ = some (.string ⟨([125] : Str).toArray⟩) := by rw [hwi]; exact is_cell _ _ _
  have hNi : w5.heap.size ≠ b := by have := hR5.lt; omega
  have hRi := hR5.keep hbi
  have hgi := grown_belowB hg5 hbi
  replace XB := XB.keep hbi XB.lt
  replace TB := TB.keep hbi TB.lt
  replace K1 := Lib.hid (K1.out.keep (D' := fun k => w3.heap.size ≤ k) (Same.below hbi) (fun _ h _ => h))
  replace K2 := Lib.hid (K2.out.keep (D' := fun k => w3.heap.size ≤ k) (Same.below hbi) (fun _ h _ => h))
  clear hwi hR5 hg5
  generalize w5.heap.size = NI at hci hNi ⊢
  go_wp2_with fail
  refine (must_is [125] NI l b q5 bd5 wi hl hon5.2.1 hRi hNi hci).mono ?_
  have hon6 := (hon5.trans (must_on (l := l) (isW [125]) (s := ⟨q5, bd5⟩) hon5.2.1)).mono (d' := 1) (by omega)
  generalize must l (isW [125]) ⟨q5, bd5⟩ = M6 at *
  obtain ⟨y6, q6, bd6⟩ := M6
  rintro e w6 ⟨rfl, hg, hR6⟩
  have hg6 := grown_trans hgi hg
  replace XB := XB.grown' hg (by omega)
  replace TB := TB.grown' hg (by omega)
  have hsm : Same (· ≠ b) wi w6 := Same.grown hg (fun k hk e => hk (by injection e))
  replace K1 := Lib.hid (K1.out.keep (D' := fun k => w3.heap.size ≤ k) (fun k hk hl => hsm k (by omega) hl) (fun _ h _ => h))
  replace K2 := Lib.hid (K2.out.keep (D' := fun k => w3.heap.size ≤ k) (fun k hk hl => hsm k (by omega) hl) (fun _ h _ => h))
  clear hsm
  clear hg hRi hgi hci hNi hbi
  go_wp2_with fail
  refine (Is_any [46] w6).mono ?_
  rintro e wi ⟨rfl, hwi⟩
  have hbi : Below w6.heap.size w6 wi := by rw [hwi]; exact (Below.refl _ _).alloc (Nat.le_refl _) _
  have hci : wi.cell? ⟨w6.heap.size, 0, none⟩ = some (.string ⟨([46] : Str).toArray⟩) := by rw [hwi]; exact is_cell _ _ _
  have hNi : w6.heap.size ≠ b := by have := hR6.lt; omega
  have hRi := hR6.keep hbi
  have hgi := grown_belowB hg6 hbi
  replace XB := XB.keep hbi XB.lt
  replace TB := TB.keep hbi TB.lt
  replace K1 := Lib.hid (K1.out.keep (D' := fun k => w3.heap.size ≤ k) (Same.below hbi) (fun _ h _ => h))
  replace K2 := Lib.hid (K2.out.keep (D' := fun k => w3.heap.size ≤ k) (Same.below hbi) (fun _ h _ => h))
  clear hwi hR6 hg6
  generalize w6.heap.size = NI at hci hNi ⊢
  go_wp2_with fail
  refine (must_is [46] NI l b q6 bd6 wi hl hon6.2.1 hRi hNi hci).mono ?_
  have hon7 := (hon6.trans (must_on (l := l) (isW [46]) (s := ⟨q6, bd6⟩) hon6.2.1)).mono (d' := 1) (by omega)
  generalize must l (isW [46]) ⟨q6, bd6⟩ = M7 at *
  obtain ⟨y7, q7, bd7⟩ := M7
  rintro e w7 ⟨rfl, hg, hR7⟩
  have hg7 := grown_trans hgi hg
  replace XB := XB.grown' hg (by omega)
  replace TB := TB.grown' hg (by omega)
  have hsm : Same (· ≠ b) wi w7 := Same.grown hg (fun k hk e => hk (by injection e))
  replace K1 := Lib.hid (K1.out.keep (D' := fun k => w3.heap.size ≤ k) (fun k hk hl => hsm k (by omega) hl) (fun _ h _ => h))
  replace K2 := Lib.hid (K2.out.keep (D' := fun k => w3.heap.size ≤ k) (fun k hk hl => hsm k (by omega) hl) (fun _ h _ => h))
  clear hsm
  clear hg hRi hgi hci hNi hbi
  go_wp2_with fail
  have HSd : Hid ((fun w' : World => w'.cell? ⟨T, 0, none⟩ = some (.int .i64 t.kind) ∧ w'.cell? ⟨T, 1, none⟩ = some (.int .i64 t.sort) ∧ w'.cell? ⟨T, 2, none⟩ = some (.string ⟨t.name.toArray⟩) ∧ w'.cell? ⟨T, 3, none⟩ = some (.slice A1 t.labels.length c1) ∧ w'.cell? ⟨T, 4, none⟩ = some (.slice A2 t.kids.length c2)) w7.drew) := Lib.hid ⟨TB.c0, TB.c1, TB.c2, TB.c3, TB.c4⟩
  refine wp_region_T 7 (fun w' : World => w'.cell? ⟨T, 0, none⟩ = some (.int .i64 t.kind) ∧ w'.cell? ⟨T, 1, none⟩ = some (.int .i64 t.sort) ∧ w'.cell? ⟨T, 2, none⟩ = some (.string ⟨t.name.toArray⟩) ∧ w'.cell? ⟨T, 3, none⟩ = some (.slice A1 t.labels.length c1) ∧ w'.cell? ⟨T, 4, none⟩ = some (.slice A2 t.kids.length c2)) (by kernel_rfl) ?_
  refine zT 0 ?_ rfl (Or.inl ⟨by rfl, ?_⟩) HSd.out ?_
  rotate_left
  ·(intro wq hSw; obtain ⟨_,_,_,_,_⟩ := hSw; go_simp; all_goals (first | (with_reducible rfl) | (rw [zI])))
  simp only [zA, zB, zC, Act.put, zD, zE, zF]
  refine zT 1 ?_ rfl (Or.inl ⟨by rfl, ?_⟩) HSd.out ?_
  rotate_left
  ·(intro wq hSw; obtain ⟨_,_,_,_,_⟩ := hSw; go_simp; all_goals (first | (with_reducible rfl) | (rw [zI])))
  simp only [zA, zB, zC, Act.put, zD, zE, zF]
  refine zT 2 ?_ rfl (Or.inl ⟨by rfl, ?_⟩) HSd.out ?_
  rotate_left
  ·(intro wq hSw; obtain ⟨_,_,_,_,_⟩ := hSw; go_simp; all_goals (first | (with_reducible rfl) | (rw [zI])))
  simp only [zA, zB, zC, Act.put, zD, zE, zF]
  refine zT 3 ?_ rfl (Or.inl ⟨by rfl, ?_⟩) HSd.out ?_
  rotate_left
  ·(intro wq hSw; obtain ⟨_,_,_,_,_⟩ := hSw; go_simp; all_goals (first | (with_reducible rfl) | (rw [zI])))
  simp only [zA, zB, zC, Act.put, zD, zE, zF]
  refine zO 4 fun K hK => ?_
  go_simp
  have hgd : w.grownBy w7.drew (some b) := grown_drew hg7
  have hRd : SBox w7.drew b l ⟨q7, bd7⟩ := ⟨hR7.c0, hR7.c1, hR7.c2, hR7.c3, hR7.c4, hR7.fr, hR7.lt⟩
  refine (ih ⟨q7, bd7⟩ w7.drew hon7.2.1 (fun h => by have h1 : p + 1 ≤ q7 := (hon7.2.2 h).2; show l.length < n + q7; omega) hRd).mono ?_
  generalize scanF l n ⟨q7, bd7⟩ = UU at *
  obtain ⟨u, q8, bd8⟩ := UU
  rintro e w8 ⟨hg, v, rfl, hU, hR8⟩
  have hg8 := grown_trans hgd hg
  have hg' : w7.grownBy w8 (some b) := drew_grown hg
  have hz7 : w3.heap.size ≤ w7.heap.size := by have := TB.lt; omega
  replace XB := XB.grown' hg' (by omega)
  replace TB := TB.grown' hg' (by omega)
  have hsm : Same (· ≠ b) w7 w8 := Same.grown hg' (fun k hk e => hk (by injection e))
  replace K1 := Lib.hid (K1.out.keep (D' := fun k => w3.heap.size ≤ k) (fun k hk hl => hsm k (by omega) hl) (fun _ h _ => h))
  replace K2 := Lib.hid (K2.out.keep (D' := fun k => w3.heap.size ≤ k) (fun k hk hl => hsm k (by omega) hl) (fun _ h _ => h))
  have hz78 := hg'.size
  clear hsm hg hg' hgd hRd hR7 hg7
  obtain ⟨lv, kv, rfl, k3, k4⟩ := hU
  simp only at k3 k4 hR8
  have K3 := Lib.hid (k3.keep (D' := fun k => w3.heap.size ≤ k) (fun _ _ _ => rfl) (fun k hk _ => by have : w7.drew.heap.size ≤ k := hk; have e : w7.drew.heap.size = w7.heap.size := rfl; omega))
  have K4 := Lib.hid (k4.keep (D' := fun k => w3.heap.size ≤ k) (fun _ _ _ => rfl) (fun k hk _ => by have : w7.drew.heap.size ≤ k := hk; have e : w7.drew.heap.size = w7.heap.size := rfl; omega))
  obtain ⟨A3, c3, rfl, -, -⟩ := k3
  obtain ⟨A4, c4, rfl, -, -⟩ := k4
  refine hK.out _ _ (fun _ => ⟨TB.c0, TB.c1, TB.c2, TB.c3, TB.c4⟩) ?_
  clear hK K
  try simp only [zA, zB, zC, Act.put, zD, zE, zF]
  refine zO 5 fun K hK => ?_
  go_simp
  have hb10 : Below w8.heap.size w8 (w8.alloc (.cells #[.int .i64 t.kind, .int .i64 t.sort, .string ⟨t.name.toArray⟩, .slice A1 t.labels.length c1, .slice A2 t.kids.length c2, .int .i64 u.kind, .int .i64 u.sort, .string ⟨u.name.toArray⟩, .slice A3 u.labels.length c3, .slice A4 u.kids.length c4] 30)) := (Below.refl _ _).alloc (Nat.le_refl _) _
  have TB10 := TB.keep hb10 TB.lt
  refine hK.out _ _ (fun _ => ⟨TB10.c0, TB10.c1, TB10.c2, TB10.c3, TB10.c4⟩) ?_
  clear hK K
  try simp only [zA, zB, zC, Act.put, zD, zE, zF]
  refine zO 6 fun K hK => ?_
  go_simp
  refine hK.out _ _ (fun _ => ⟨TB10.c0, TB10.c1, TB10.c2, TB10.c3, TB10.c4⟩) ?_
  clear hK K TB10
  try simp only [zA, zB, zC, Act.put, zD, zE, zF]
  have hX9 := XB.lt
  obtain ⟨x0, x1, x2, x3, x4, x5, x6⟩ := id XB
  refine zO 7 fun K hK => ?_
  go_simp
  refine hK.out _ _ (fun h => absurd h (by decide)) ?_
  clear hK K
  try simp only [zA, zB, zC, Act.put, zD, zE, zF]
  refine wpT_done (by kernel_rfl) ?_
  go_wp2_with fail
  obtain ⟨hF, hgF, hRF, hT⟩ := finishKS hbw (Nat.le_refl _) (m := w3.heap.size) (by omega) (by omega) hg8 hR8 XB 5 0 [] _ [t, u] (.cons t _ _ _ [u] K1.out K2.out (.cons u _ _ [] [] K3.out K4.out .nil)) 30
  simp only [List.length_cons, List.length_nil] at hF hgF hRF hT
  generalize ((((((w8.setCell ⟨w.heap.size, 0, none⟩ (.int .i64 5)).setCell ⟨w.heap.size, 1, none⟩ (.int .i64 0)).setCell ⟨w.heap.size, 2, none⟩ (.string ⟨([] : Str).toArray⟩)).setCell ⟨w.heap.size, 3, none⟩ (.slice none 0 0)).setCell ⟨w.heap.size, 4, none⟩ (.slice (some ⟨w8.heap.size, 0, none⟩) (0 + 1 + 1) (0 + 1 + 1))).alloc _) = w11 at hF hgF hRF hT ⊢
  obtain ⟨d0, d1, d2, d3, d4, d5, d6⟩ := hF
  refine bodyPost_ret (v := .agg #[.int .i64 5, .int .i64 0, .string ⟨([] : Str).toArray⟩, .slice none 0 0, .slice (some ⟨w8.heap.size, 0, none⟩) 2 2]) (by simp [results, Tryz.results106, go_sem, d0, d1, d2, d3, d4, Ty.kind, Ty.sort, Ty.name]) rfl ?_
  rw [← HR.out]
  exact ⟨hgF, _, rfl, hT, hRF⟩
 case neg =>
  have hpe : (pk l (sk l p1) == [123]) = false := by simpa using hpk
  have HR : Hid ((.mk (2 + 1) (sortIx (must l (fun w => decide (0 < sortIx w)) ⟨sk l p1, bad1⟩).1) [] [] [(scanF l n (must l (isW [46]) (must l (fun w => decide (0 < sortIx w)) ⟨sk l p1, bad1⟩).2).2).1], (scanF l n (must l (isW [46]) (must l (fun w => decide (0 < sortIx w)) ⟨sk l p1, bad1⟩).2).2).2) = RES) := Lib.hid (by rw [← HRES.out, scanPassed, if_neg hpk])
  have hon0 : On l 1 ⟨p, none⟩ ⟨sk l p1, bad1⟩ := (hon.trans (⟨hs1.1, hs1.2, fun h => ⟨h, by show p1 + 0 ≤ sk l p1; omega⟩⟩ : On l 0 ⟨p1, bad1⟩ ⟨sk l p1, bad1⟩)).mono (by omega)
  clear HRES hpk
  go_wp2_with fail
  refine (must_any (fun w => decide (0 < sortIx w)) 143 #[] (fun _ _ => by kernel_rfl) l b (sk l p1) bad1 w2 hl hs1.2 hR2 (fun x w' _ _ => is2_any x w')).mono ?_
  have hon3 := (hon0.trans (must_on (l := l) (fun w => decide (0 < sortIx w)) (s := ⟨sk l p1, bad1⟩) hs1.2)).mono (d' := 1) (by omega)
  generalize must l (fun w => decide (0 < sortIx w)) ⟨sk l p1, bad1⟩ = M3 at *
  obtain ⟨sw, q3, bd3⟩ := M3
  rintro e w3 ⟨rfl, hg, hR3⟩
  have hg3 := grown_trans hg2 hg
  replace XB := XB.grown' hg (by omega)
  clear hg hR2 hg2 hpe
  clear w2
  go_wp2_with fail
  refine (sortOf_any sw w3).mono ?_
  rintro e w4 ⟨rfl, hb4⟩
  have hR4 := hR3.keep hb4
  have hg4 := grown_belowB hg3 hb4
  replace XB := XB.keep hb4 XB.lt
  have hon4 := hon3
  clear hb4 hR3 hg3
  clear w3
  obtain ⟨X, hX⟩ : ∃ x, sortIx sw = x := ⟨_, rfl⟩
  simp only [hX] at HR ⊢
  clear hX
  go_wp2_with fail
  refine (Is_any [46] w4).mono ?_
  rintro e wi ⟨rfl, hwi⟩
  have hbi : Below w4.heap.size w4 wi := by rw [hwi]; exact (Below.refl _ _).alloc (Nat.le_refl _) _
  have hci : wi.cell? ⟨w4.heap.size, 0, none⟩ = some (.string ⟨([46] : Str).toArray⟩) := by rw [hwi]; exact is_cell _ _ _
  have hNi : w4.heap.size ≠ b := by have := hR4.lt; omega
  have hRi := hR4.keep hbi
  have hgi := grown_belowB hg4 hbi
  replace XB := XB.keep hbi XB.lt
  clear hwi hR4 hg4
  generalize w4.heap.size = NI at hci hNi ⊢
  go_wp2_with fail
  refine (must_is [46] NI l b q3 bd3 wi hl hon4.2.1 hRi hNi hci).mono ?_
  have hon5 := (hon4.trans (must_on (l := l) (isW [46]) (s := ⟨q3, bd3⟩) hon4.2.1)).mono (d' := 1) (by omega)
  generalize must l (isW [46]) ⟨q3, bd3⟩ = M5 at *
  obtain ⟨y5, q5, bd5⟩ := M5
  rintro e w5 ⟨rfl, hg, hR5⟩
  have hg5 := grown_trans hgi hg
  replace XB := XB.grown' hg (by omega)
  clear hg hRi hgi hci hNi hbi
  go_wp2_with fail
  refine (ih ⟨q5, bd5⟩ w5 hon5.2.1 (fun h => by have h1 : p + 1 ≤ q5 := (hon5.2.2 h).2; show l.length < n + q5; omega) hR5).mono ?_
  generalize scanF l n ⟨q5, bd5⟩ = TT at *
  obtain ⟨t, q6, bd6⟩ := TT
  rintro e w7 ⟨hg, v, rfl, hT, hR7⟩
  have hg7 := grown_trans hg5 hg
  have hlt3 := XB.lt
  have hz37 := hg.size
  replace XB := XB.grown' hg (by omega)
  clear hg hR5 hg5
  obtain ⟨lv, kv, rfl, k1, k2⟩ := hT
  simp only at k1 k2 hR7
  have K1 := Lib.hid k1; have K2 := Lib.hid k2
  obtain ⟨A1, c1, rfl, -, -⟩ := k1
  obtain ⟨A2, c2, rfl, -, -⟩ := k2
  obtain ⟨x0, x1, x2, x3, x4, x5, x6⟩ := id XB
  go_wp2_with fail
  obtain ⟨hF, hgF, hRF, hT⟩ := finishKS hbw (Nat.le_refl _) (m := w5.heap.size) hlt3 hz37 hg7 hR7 XB 3 X [] _ [t] (.cons t _ _ [] [] K1.out K2.out .nil) 30
  simp only [List.length_cons, List.length_nil] at hF hgF hRF hT
  generalize ((((((w7.setCell ⟨w.heap.size, 0, none⟩ (.int .i64 3)).setCell ⟨w.heap.size, 1, none⟩ (.int .i64 X)).setCell ⟨w.heap.size, 2, none⟩ (.string ⟨([] : Str).toArray⟩)).setCell ⟨w.heap.size, 3, none⟩ (.slice none 0 0)).setCell ⟨w.heap.size, 4, none⟩ (.slice (some ⟨w7.heap.size, 0, none⟩) (0 + 1) (0 + 1))).alloc _) = w9 at hF hgF hRF hT ⊢
  obtain ⟨d0, d1, d2, d3, d4, d5, d6⟩ := hF
  refine bodyPost_ret (v := .agg #[.int .i64 3, .int .i64 X, .string ⟨([] : Str).toArray⟩, .slice none 0 0, .slice (some ⟨w7.heap.size, 0, none⟩) 1 1]) (by simp [results, Tryz.results106, go_sem, d0, d1, d2, d3, d4, Ty.kind, Ty.sort, Ty.name]) rfl ?_
  rw [← HR.out]
  exact ⟨hgF, _, rfl, hT, hRF⟩
end
end Go.Proofs.YtpidjanngbaiiaaGreatDoor
