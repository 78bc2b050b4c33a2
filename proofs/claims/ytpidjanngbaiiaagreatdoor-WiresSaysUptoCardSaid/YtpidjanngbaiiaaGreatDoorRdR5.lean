/-
  The reference's reader of a type: ScanType, a choice.
-/
import Derived.Test.YtpidjanngbaiiaaGreatDoorM11
import Derived.Test.YtpidjanngbaiiaaGreatDoorRdO4
namespace Go.Proofs.YtpidjanngbaiiaaGreatDoor
open Go.RowKit Go.Proofs

set_option maxRecDepth 100000
theorem VBox.set3 {w : World} {b : Nat} {t : Ty} {lv kv : Value} (h : VBox w b t lv kv) (u : Value) : VBox (w.setCell ⟨b, 3, none⟩ u) b t u kv :=
 ⟨(World.cell?_setCell_other w _ _ u (by simp)).trans h.c0, (World.cell?_setCell_other w _ _ u (by simp)).trans h.c1, (World.cell?_setCell_other w _ _ u (by simp)).trans h.c2, World.cell?_setCell_same' w _ u (by rw [h.c3]; rfl), (World.cell?_setCell_other w _ _ u (by simp)).trans h.c4, fun j => by rw [World.frozen?_setCell]; exact h.fr j, by rw [World.size_setCell]; exact h.lt⟩
section
variable (l : Str) (b p : Nat) (w : World) (hl : l.length ≤ 2000) (hp : p ≤ l.length)
include hl hp
set_option maxHeartbeats 4000000 in
theorem scan_plus (hR : SBox w b l ⟨p, none⟩) (W : Str) (p1 : Nat) (bad1 : Option Nat) (hM : must l startOk ⟨p, none⟩ = (W, ⟨p1, bad1⟩)) (hW : W = [43]) (n : Nat) (ih : ∀ (s : St) (w : World), s.p ≤ l.length → (s.bad = none → l.length < n + s.p) → SBox w b l s → Calls Tryz.prog 106 #[.pointer (some ⟨b, 0, none⟩)] w (AnsR w b l (scanF l n s))) (hn : l.length < n + 1 + p) : Calls Tryz.prog 106 #[.pointer (some ⟨b, 0, none⟩)] w (AnsR w b l (.mk 6 0 [] (loopF l (scanF l n) 7 (must l (isW [123]) ⟨p1, bad1⟩).2 [] []).1 (loopF l (scanF l n) 7 (must l (isW [123]) ⟨p1, bad1⟩).2 [] []).2.1, (loopF l (scanF l n) 7 (must l (isW [123]) ⟨p1, bad1⟩).2 [] []).2.2)) := by
 subst hW
 obtain ⟨RES, hRES⟩ : ∃ r, ((.mk 6 0 [] (loopF l (scanF l n) 7 (must l (isW [123]) ⟨p1, bad1⟩).2 [] []).1 (loopF l (scanF l n) 7 (must l (isW [123]) ⟨p1, bad1⟩).2 [] []).2.1, (loopF l (scanF l n) 7 (must l (isW [123]) ⟨p1, bad1⟩).2 [] []).2.2) : Ty × St) = r := ⟨_, rfl⟩
 rw [hRES]
 have HRES := Lib.hid hRES; clear hRES
 obtain ⟨c0, c1, c2, c3, c4, fr, lt⟩ := id hR
 simp only [codeOf, placeOf] at c3 c4
 have hmf : ∀ (fn : Fn) (first cap : Array Value) (w : World), (Instr.makeFunc fn first cap).run Tryz.prog w = .ok (.func fn first cap) w := fun _ _ _ _ => rfl
 have hbw := hR.lt
 have hon := must_on (l := l) startOk (s := ⟨p, none⟩) hp
 rw [hM] at hon
 go_enter Tryz.func106, Tryz.ntmps106
 go_wp2_with fail
 have XB := new_box w 30
 have hbW : Below w.heap.size w (w.alloc (.cells #[.int .i64 0, .int .i64 0, .string ⟨#[]⟩, .slice none 0 0, .slice none 0 0] 30)) := by go_grown
 have hR0 := hR.keep hbW
 have hg0 := grown_belowB (grown_refl w b) hbW
 generalize w.alloc (.cells #[.int .i64 0, .int .i64 0, .string ⟨#[]⟩, .slice none 0 0, .slice none 0 0] 30) = w0 at XB hR0 hg0 ⊢
 clear hbW hR c0 c1 c2 c3 c4 fr lt
 have hne1 : ¬ w.heap.size = b := by omega
 have hne2 : ¬ b = w.heap.size := by omega
 have hcall := must_any startOk 139 #[] (fun _ _ => by kernel_rfl) l b p none w0 hl hp hR0 (fun x w' hx _ => is1_start x w' hx)
 rw [hM] at hcall
 refine hcall.mono ?_; clear hcall
 rintro e w1 ⟨rfl, hg, hR1⟩
 have hg1 := grown_trans hg0 hg
 replace XB := XB.grown' hg (by omega)
 clear hg hR0 hg0 hM
 clear w0
 simp only at hR1
 obtain ⟨x0, x1, x2, x3, x4, x5, x6⟩ := id XB
 go_wp2_with fail
 have hbT : b < w1.heap.size := hR1.lt
 have hXT : w.heap.size < w1.heap.size := XB.lt
 have TB : VBox (w1.alloc (.cells #[.int .i64 6, .int .i64 0, .string ⟨#[]⟩, .slice none 0 0, .slice none 0 0] 30)) w1.heap.size (.mk 6 0 [] [] []) (.slice none 0 0) (.slice none 0 0) := new_val w1 (.mk 6 0 [] [] []) _ _ _
 have hb2 : Below w1.heap.size w1 (w1.alloc (.cells #[.int .i64 6, .int .i64 0, .string ⟨#[]⟩, .slice none 0 0, .slice none 0 0] 30)) := (Below.refl _ _).alloc (Nat.le_refl _) _
 have hR2 := hR1.keep hb2
 have hg2 := grown_belowB hg1 hb2
 have hon2 := hon
 replace XB := XB.keep hb2 XB.lt
 generalize w1.alloc (.cells #[.int .i64 6, .int .i64 0, .string ⟨#[]⟩, .slice none 0 0, .slice none 0 0] 30) = w2 at TB hR2 hg2 XB ⊢
 clear hb2 hR1 hg1 x0 x1 x2 x3 x4 x5 x6
 generalize w1.heap.size = T at TB hbT hXT ⊢
 clear w1
 have rows : Rows w2 (T + 1) (.slice none 0 0) (.slice none 0 0) [] [] [] := Rows.new _ _
 refine (Is_any [123] w2).mono ?_
 rintro e wi ⟨rfl, hwi⟩
 have hbi : Below w2.heap.size w2 wi := by rw [hwi]; exact (Below.refl _ _).alloc (Nat.le_refl _) _
 have hci : wi.cell? ⟨w2.heap.size, 0, none⟩ = some (.string ⟨([123] : Str).toArray⟩) := by rw [hwi]; exact is_cell _ _ _
 have hNi : w2.heap.size ≠ b := by have := hR2.lt; omega
 have hRi := hR2.keep hbi
 have hgi := grown_belowB hg2 hbi
 replace XB := XB.keep hbi XB.lt
 replace TB := TB.keep hbi TB.lt
 replace rows := rows.below hbi
 clear hwi hR2 hg2
 generalize w2.heap.size = NI at hci hNi ⊢
 go_wp2_with fail
 refine (must_is [123] NI l b p1 bad1 wi hl hon2.2.1 hRi hNi hci).mono ?_
 have hon3 := (hon2.trans (must_on (l := l) (isW [123]) (s := ⟨p1, bad1⟩) hon2.2.1)).mono (d' := 1) (by omega)
 generalize must l (isW [123]) ⟨p1, bad1⟩ = M3 at *
 obtain ⟨y3, q3, bd3⟩ := M3
 rintro e w3 ⟨rfl, hg, hR3⟩
 have hg3 := grown_trans hgi hg
 replace XB := XB.grown' hg (by omega)
 replace TB := TB.grown' hg (by omega)
 replace rows := rows.at hg (by omega)
 clear hg hRi hgi hci hNi hbi
 go_wp2_with fail
 go_loopg [] 7 (fun gk wr => ∃ (q : Nat) (bd : Option Nat) (ls : List Str) (ks : List Ty) (lv kv : Value) (xs : List Value), On l 1 ⟨p, none⟩ ⟨q, bd⟩ ∧ ls.length + gk = 7 ∧ (bd = none → ls.length ≤ 6) ∧ ks.length = ls.length ∧ Hid ((.mk 6 0 [] (loopF l (scanF l n) gk ⟨q, bd⟩ ls ks).1 (loopF l (scanF l n) gk ⟨q, bd⟩ ls ks).2.1, (loopF l (scanF l n) gk ⟨q, bd⟩ ls ks).2.2) = RES) ∧
  SBox wr b l ⟨q, bd⟩ ∧ w.grownBy wr (some b) ∧ VBox wr w.heap.size zeroTy (.slice none 0 0) (.slice none 0 0) ∧ VBox wr T (.mk 6 0 [] ls ks) lv kv ∧ Rows wr (T + 1) lv kv ls ks xs)
 case atStart => exact ⟨q3, bd3, [], [], _, _, [], hon3, rfl, fun _ => by simp, rfl, HRES, hR3, hg3, XB, TB, rows⟩
 case round =>
  clear HRES hR3 hg3 XB TB rows hon2 hon3
  obtain ⟨q, bd, ls, ks, lv, kv, xs, hon4, hgk, h6, hlen, HR, hR4, hg4, XB, TB, rows⟩ := hrel
  have hk7 : ks.length ≤ 7 := by omega
  have HLEN := Lib.hid hlen; clear hlen
  obtain ⟨Al, cl, rfl⟩ := own_form rows.labels
  obtain ⟨Ak, ck, rfl⟩ := own_form rows.kids
  obtain ⟨c0, c1, c2, c3, c4, fr, lt⟩ := id hR4
  cases bd with
  | some q0 =>
   simp only [codeOf, placeOf] at c3 c4
   have HR1 : Hid ((.mk 6 0 [] ls ks, ⟨q, some q0⟩) = RES) := Lib.hid (by rw [← HR.out, loopF_bad])
   clear HR
   obtain ⟨t0, t1, t2, t3, t4, t5, t6⟩ := id TB
   obtain ⟨x0, x1, x2, x3, x4, x5, x6⟩ := id XB
   simp only [Ty.kind, Ty.sort, Ty.name] at t0 t1 t2
   have hne3 : ¬ T = b := by omega
   have hne4 : ¬ b = T := by omega
   have hne5 : ¬ T = w.heap.size := by omega
   have hne6 : ¬ w.heap.size = T := by omega
   go_wp2_with fail
   obtain ⟨hF, hgF, hRF, hT⟩ := finishS hbw (Nat.le_refl _) hg4 hR4 XB 6 0 [] ls ks (.slice Al ls.length cl) (.slice Ak ks.length ck) (rows.strs (fun k hk => ⟨by omega, by omega⟩)) (rows.tys (fun k hk => ⟨by omega, by omega⟩))
   generalize ((((wr.setCell ⟨w.heap.size, 0, none⟩ (.int .i64 6)).setCell ⟨w.heap.size, 1, none⟩ (.int .i64 0)).setCell ⟨w.heap.size, 2, none⟩ (.string ⟨([] : Str).toArray⟩)).setCell ⟨w.heap.size, 3, none⟩ (.slice Al ls.length cl)).setCell ⟨w.heap.size, 4, none⟩ (.slice Ak ks.length ck) = w16 at hF hgF hRF hT ⊢
   obtain ⟨d0, d1, d2, d3, d4, d5, d6⟩ := hF
   refine bodyPost_ret (v := .agg #[.int .i64 6, .int .i64 0, .string ⟨([] : Str).toArray⟩, .slice Al ls.length cl, .slice Ak ks.length ck]) (by simp [results, Tryz.results106, go_sem, d0, d1, d2, d3, d4, Ty.kind, Ty.sort, Ty.name]) rfl ?_
   rw [← HR1.out]
   exact ⟨hgF, _, rfl, hT, hRF⟩
  | none =>
   simp only [codeOf, placeOf] at c3 c4
   have hls6 := h6 rfl
   clear h6
   obtain ⟨g', rfl⟩ : ∃ g', gk = g' + 1 := ⟨gk - 1, by omega⟩
   have HR1 : Hid ((.mk 6 0 [] (if (must l (fun w => isW [125] w || isW [44] w) (scanF l n (must l (isW [58]) (must l (labelOk ls) ⟨q, none⟩).2).2).2).1 = [44] then loopF l (scanF l n) g' (must l (fun w => isW [125] w || isW [44] w) (scanF l n (must l (isW [58]) (must l (labelOk ls) ⟨q, none⟩).2).2).2).2 (ls ++ [(must l (labelOk ls) ⟨q, none⟩).1]) (ks ++ [(scanF l n (must l (isW [58]) (must l (labelOk ls) ⟨q, none⟩).2).2).1]) else (ls ++ [(must l (labelOk ls) ⟨q, none⟩).1], ks ++ [(scanF l n (must l (isW [58]) (must l (labelOk ls) ⟨q, none⟩).2).2).1], (must l (fun w => isW [125] w || isW [44] w) (scanF l n (must l (isW [58]) (must l (labelOk ls) ⟨q, none⟩).2).2).2).2)).1 (if (must l (fun w => isW [125] w || isW [44] w) (scanF l n (must l (isW [58]) (must l (labelOk ls) ⟨q, none⟩).2).2).2).1 = [44] then loopF l (scanF l n) g' (must l (fun w => isW [125] w || isW [44] w) (scanF l n (must l (isW [58]) (must l (labelOk ls) ⟨q, none⟩).2).2).2).2 (ls ++ [(must l (labelOk ls) ⟨q, none⟩).1]) (ks ++ [(scanF l n (must l (isW [58]) (must l (labelOk ls) ⟨q, none⟩).2).2).1]) else (ls ++ [(must l (labelOk ls) ⟨q, none⟩).1], ks ++ [(scanF l n (must l (isW [58]) (must l (labelOk ls) ⟨q, none⟩).2).2).1], (must l (fun w => isW [125] w || isW [44] w) (scanF l n (must l (isW [58]) (must l (labelOk ls) ⟨q, none⟩).2).2).2).2)).2.1, (if (must l (fun w => isW [125] w || isW [44] w) (scanF l n (must l (isW [58]) (must l (labelOk ls) ⟨q, none⟩).2).2).2).1 = [44] then loopF l (scanF l n) g' (must l (fun w => isW [125] w || isW [44] w) (scanF l n (must l (isW [58]) (must l (labelOk ls) ⟨q, none⟩).2).2).2).2 (ls ++ [(must l (labelOk ls) ⟨q, none⟩).1]) (ks ++ [(scanF l n (must l (isW [58]) (must l (labelOk ls) ⟨q, none⟩).2).2).1]) else (ls ++ [(must l (labelOk ls) ⟨q, none⟩).1], ks ++ [(scanF l n (must l (isW [58]) (must l (labelOk ls) ⟨q, none⟩).2).2).1], (must l (fun w => isW [125] w || isW [44] w) (scanF l n (must l (isW [58]) (must l (labelOk ls) ⟨q, none⟩).2).2).2).2)).2.2) = RES) := Lib.hid (by rw [← HR.out]; rfl)
   clear HR
   go_wp2_with fail
   have HSd : Hid ((fun w' : World => w'.cell? ⟨T, 3, none⟩ = some (.slice Al ls.length cl)) wr.drew) := Lib.hid TB.c3
   refine wp_region_T 8 (fun w' : World => w'.cell? ⟨T, 3, none⟩ = some (.slice Al ls.length cl)) (by kernel_rfl) ?_
   refine zT 0 ?_ rfl (Or.inl ⟨by rfl, ?_⟩) HSd.out ?_
   rotate_left
   ·(intro wq hSw; go_simp; all_goals (first | (with_reducible rfl) | (rw [zI])))
   simp only [zA, zB, zC, Act.put, zD, zE, zF]
   refine zT 1 ?_ rfl (Or.inl ⟨by rfl, ?_⟩) HSd.out ?_
   rotate_left
   ·(intro wq hSw; go_simp; all_goals (first | (with_reducible rfl) | (rw [zI])))
   simp only [zA, zB, zC, Act.put, zD, zE, zF]
   refine zT 2 ?_ rfl (Or.inl ⟨by rfl, ?_⟩) HSd.out ?_
   rotate_left
   ·(intro wq hSw; go_simp; all_goals (first | (with_reducible rfl) | (rw [zI])))
   simp only [zA, zB, zC, Act.put, zD, zE, zF]
   refine zT 3 ?_ rfl (Or.inl ⟨by rfl, ?_⟩) HSd.out ?_
   rotate_left
   ·(intro wq hSw; go_simp; all_goals (first | (with_reducible rfl) | (rw [zI])))
   simp only [zA, zB, zC, Act.put, zD, zE, zF]
   refine zT 4 ?_ rfl (Or.inl ⟨by rfl, ?_⟩) HSd.out ?_
   rotate_left
   ·(intro wq hSw; go_simp; all_goals (first | (with_reducible rfl) | (rw [zI])))
   simp only [zA, zB, zC, Act.put, zD, zE, zF]
   refine zO 5 fun K hK => ?_
   go_simp
   have hRd : SBox wr.drew b l ⟨q, none⟩ := ⟨hR4.c0, hR4.c1, hR4.c2, hR4.c3, hR4.c4, hR4.fr, hR4.lt⟩
   have hlab := rows.strs (D := (· ≠ b)) (fun k hk => by omega)
   refine (label_any ls (.slice Al ls.length cl) l b q none wr.drew hl hon4.2.1 hRd (hlab.keep (fun _ _ _ => rfl) (fun _ h _ => h)) (by omega)).mono ?_
   have hon6 := (hon4.trans (must_on (l := l) (labelOk ls) (s := ⟨q, none⟩) hon4.2.1)).mono (d' := 1) (by omega)
   have hok6 := must_ok (l := l) (right := labelOk ls) (s := ⟨q, none⟩)
   generalize must l (labelOk ls) ⟨q, none⟩ = M6 at *
   obtain ⟨lb, q6, bd6⟩ := M6
   rintro e w5 ⟨rfl, hg, hR5⟩
   have hg' : wr.grownBy w5 (some b) := drew_grown hg
   have hg5 := grown_trans hg4 hg'
   replace XB := XB.grown' hg' (by omega)
   replace TB := TB.grown' hg' (by omega)
   replace rows := rows.at hg' (by omega)
   refine hK.out _ _ (fun _ => TB.c3) ?_
   clear hK K hg hg' hRd hlab hR4 hg4 HSd c0 c1 c2 c3 c4 fr lt
   try simp only [zA, zB, zC, Act.put, zD, zE, zF]
   refine zO 6 fun K hK => ?_
   go_simp
   have hba : Below w5.heap.size w5 (w5.alloc (.cells #[.string ⟨lb.toArray⟩] 9)) := (Below.refl _ _).alloc (Nat.le_refl _) _
   have hca : (w5.alloc (.cells #[.string ⟨lb.toArray⟩] 9)).cell? ⟨w5.heap.size, 0, none⟩ = some (.string ⟨lb.toArray⟩) := by simp [go_sem]
   have hza : w5.heap.size < (w5.alloc (.cells #[.string ⟨lb.toArray⟩] 9)).heap.size := by simp
   have rowsA := rows.below hba
   have hT5 := TB.lt
   refine hK.out _ _ (fun _ => cell_keep TB.c3 hba) ?_
   clear hK K rows
   try simp only [zA, zB, zC, Act.put, zD, zE, zF]
   refine zO 7 fun K hK => ?_
   refine step_app rt_strs rfl (.tmp 94) (.tmp 99) rfl (T + 1) _ ls.length (strVals ls) rfl rowsA.labels ⟨w5.heap.size, 0, none⟩ 1 1 [.string ⟨lb.toArray⟩] rfl rfl (fun j u hj => ?_) (by simp [Value.oneCell']) (by unfold maxLen; omega) (by omega) (by omega) (fun v' w9 k1 k2 k3 k4 => ?_)
   ·match j, hj with
    | 0, hj => simp at hj; subst hj; exact hca
    | j + 1, hj => simp at hj
   have rows9 := rowsA.label k1 k2 k3
   have hb59 : Below (T + 1) w5 w9 := (hba.mono (by omega)).trans k4
   obtain ⟨Av, cv, rfl⟩ := own_form k1
   clear k1 k2 k3 k4 hca hza rowsA hba
   have hR9 := hR5.keepB hb59 (by omega)
   have hg9 := grown_belowT hg5 hb59 (by omega)
   have XB9 := XB.keep hb59 (by omega)
   have TB9 := TB.keep hb59 (by omega)
   refine hK.out _ _ (fun _ => TB9.c3) ?_
   clear hK K hb59 hR5 hg5 XB TB hT5
   try simp only [zA, zB, zC, Act.put, zD, zE, zF]
   obtain ⟨t0, t1, t2, t3, t4, t5, t6⟩ := id TB9
   refine zO 8 fun K hK => ?_
   go_simp
   refine hK.out _ _ (fun h => absurd h (by decide)) ?_
   clear hK K
   try simp only [zA, zB, zC, Act.put, zD, zE, zF]
   refine zO 9 fun K hK => ?_
   go_simp
   refine hK.out _ _ (fun h => absurd h (by decide)) ?_
   clear hK K
   try simp only [zA, zB, zC, Act.put, zD, zE, zF]
   refine wpT_done (by kernel_rfl) ?_
   have TB := TB9.set3 (.slice Av (ls.length + 1) cv)
   have rows := rows9.set (a := ⟨T, 3, none⟩) (show T < T + 1 by omega) (.slice Av (ls.length + 1) cv)
   have hR6 := hR9.far (a := ⟨T, 3, none⟩) (show T ≠ b by omega) (.slice Av (ls.length + 1) cv)
   have XB := XB9.far (p := ⟨T, 3, none⟩) (show T ≠ w.heap.size by omega) (.slice Av (ls.length + 1) cv)
   have hg6 := grown_in (a := ⟨T, 3, none⟩) hg9 (show w.heap.size ≤ T by omega) (.slice Av (ls.length + 1) cv)
   generalize w9.setCell ⟨T, 3, none⟩ (.slice Av (ls.length + 1) cv) = w6 at TB rows hR6 XB hg6 ⊢
   clear TB9 rows9 hR9 XB9 hg9 t0 t1 t2 t3 t4 t5 t6
   go_wp2_with fail
   have hch1 := must_on (l := l) (isW [58]) (s := ⟨q6, bd6⟩) hon6.2.1
   refine (Is_any [58] w6).mono ?_
   rintro e wi ⟨rfl, hwi⟩
   have hbi : Below w6.heap.size w6 wi := by rw [hwi]; exact (Below.refl _ _).alloc (Nat.le_refl _) _
   have hci : wi.cell? ⟨w6.heap.size, 0, none⟩ = some (.string ⟨([58] : Str).toArray⟩) := by rw [hwi]; exact is_cell _ _ _
   have hNi : w6.heap.size ≠ b := by have := hR6.lt; omega
   have hRi := hR6.keep hbi
   have hgi := grown_belowB hg6 hbi
   replace XB := XB.keep hbi XB.lt
   replace TB := TB.keep hbi TB.lt
   replace rows := rows.below hbi
   clear hwi hR6 hg6
   generalize w6.heap.size = NI at hci hNi ⊢
   go_wp2_with fail
   refine (must_is [58] NI l b q6 bd6 wi hl hon6.2.1 hRi hNi hci).mono ?_
   have hon7 := (hon6.trans (must_on (l := l) (isW [58]) (s := ⟨q6, bd6⟩) hon6.2.1)).mono (d' := 1) (by omega)
   generalize must l (isW [58]) ⟨q6, bd6⟩ = M7 at *
   obtain ⟨y7, q7, bd7⟩ := M7
   rintro e w7 ⟨rfl, hg, hR7⟩
   have hg7 := grown_trans hgi hg
   replace XB := XB.grown' hg (by omega)
   replace TB := TB.grown' hg (by omega)
   replace rows := rows.at hg (by omega)
   clear hg hRi hgi hci hNi hbi
   go_wp2_with fail
   have hTlt := TB.lt
   have HSd : Hid ((fun w' : World => w'.cell? ⟨T, 4, none⟩ = some (.slice Ak ks.length ck)) w7.drew) := Lib.hid TB.c4
   refine wp_region_T 6 (fun w' : World => w'.cell? ⟨T, 4, none⟩ = some (.slice Ak ks.length ck)) (by kernel_rfl) ?_
   refine zT 0 ?_ rfl (Or.inl ⟨by rfl, ?_⟩) HSd.out ?_
   rotate_left
   ·(intro wq hSw; go_simp; all_goals (first | (with_reducible rfl) | (rw [zI])))
   simp only [zA, zB, zC, Act.put, zD, zE, zF]
   refine zT 1 ?_ rfl (Or.inl ⟨by rfl, ?_⟩) HSd.out ?_
   rotate_left
   ·(intro wq hSw; go_simp; all_goals (first | (with_reducible rfl) | (rw [zI])))
   simp only [zA, zB, zC, Act.put, zD, zE, zF]
   refine zT 2 ?_ rfl (Or.inl ⟨by rfl, ?_⟩) HSd.out ?_
   rotate_left
   ·(intro wq hSw; go_simp; all_goals (first | (with_reducible rfl) | (rw [zI])))
   simp only [zA, zB, zC, Act.put, zD, zE, zF]
   refine zO 3 fun K hK => ?_
   go_simp
   have hRd : SBox w7.drew b l ⟨q7, bd7⟩ := ⟨hR7.c0, hR7.c1, hR7.c2, hR7.c3, hR7.c4, hR7.fr, hR7.lt⟩
   have hgd : w.grownBy w7.drew (some b) := grown_drew hg7
   refine (ih ⟨q7, bd7⟩ w7.drew hon7.2.1 (fun h => by have h1 : p + 1 ≤ q7 := (hon7.2.2 h).2; show l.length < n + q7; omega) hRd).mono ?_
   have hch2 := scan_on (l := l) n ⟨q7, bd7⟩ hon7.2.1
   have hon8 := (hon7.trans hch2).mono (d' := 1) (by omega)
   generalize scanF l n ⟨q7, bd7⟩ = TT at *
   obtain ⟨t, q8, bd8⟩ := TT
   rintro e wk ⟨hg, v, rfl, hTt, hRk⟩
   have hg' : w7.grownBy wk (some b) := drew_grown hg
   have hgk' := grown_trans hg7 hg'
   replace XB := XB.grown' hg' (by omega)
   replace TB := TB.grown' hg' (by omega)
   have hlab9 := fun k e => (rows.labels.lt k e).2
   have hkid9 := fun k e => (rows.kids.lt k e).2
   have hT9 := TB.lt
   have hT7 : T < w7.heap.size := hTlt
   replace rows := rows.at hg' (by omega)
   obtain ⟨lv2, kv2, rfl, m1, m2⟩ := hTt
   simp only at m1 m2 hRk
   have hdis : ∀ k, w7.heap.size ≤ k → T + 1 ≤ k ∧ (Value.slice Av (ls.length + 1) cv).ownBlock ≠ some k ∧ (Value.slice Ak ks.length ck).ownBlock ≠ some k := fun k hk => ⟨by omega, fun e => by have := hlab9 k e; omega, fun e => by have := hkid9 k e; omega⟩
   have M1 := Lib.hid (m1.keep (D' := fun k => T + 1 ≤ k ∧ (Value.slice Av (ls.length + 1) cv).ownBlock ≠ some k ∧ (Value.slice Ak ks.length ck).ownBlock ≠ some k) (fun _ _ _ => rfl) (fun k hk _ => hdis k hk))
   have M2 := Lib.hid (m2.keep (D' := fun k => T + 1 ≤ k ∧ (Value.slice Av (ls.length + 1) cv).ownBlock ≠ some k ∧ (Value.slice Ak ks.length ck).ownBlock ≠ some k) (fun _ _ _ => rfl) (fun k hk _ => hdis k hk))
   clear hdis hlab9 hkid9 hT7
   obtain ⟨A3, c3', rfl, -, -⟩ := m1
   obtain ⟨A4, c4', rfl, -, -⟩ := m2
   refine hK.out _ _ (fun _ => TB.c4) ?_
   clear hK K hg hg' hRd hgd hR7 hg7 HSd
   try simp only [zA, zB, zC, Act.put, zD, zE, zF]
   refine zO 4 fun K hK => ?_
   go_simp
   have hb11 : Below wk.heap.size wk (wk.alloc (.cells #[.int .i64 t.kind, .int .i64 t.sort, .string ⟨t.name.toArray⟩, .slice A3 t.labels.length c3', .slice A4 t.kids.length c4'] 30)) := (Below.refl _ _).alloc (Nat.le_refl _) _
   have hz11 : wk.heap.size < (wk.alloc (.cells #[.int .i64 t.kind, .int .i64 t.sort, .string ⟨t.name.toArray⟩, .slice A3 t.labels.length c3', .slice A4 t.kids.length c4'] 30)).heap.size := by simp
   have rows11 := rows.below hb11
   have HC11 := Lib.hid (show Cells5D (fun k => T + 1 ≤ k ∧ (Value.slice Av (ls.length + 1) cv).ownBlock ≠ some k ∧ (Value.slice Ak ks.length ck).ownBlock ≠ some k) (wk.alloc (.cells #[.int .i64 t.kind, .int .i64 t.sort, .string ⟨t.name.toArray⟩, .slice A3 t.labels.length c3', .slice A4 t.kids.length c4'] 30)) [.int .i64 t.kind, .int .i64 t.sort, .string ⟨t.name.toArray⟩, .slice A3 t.labels.length c3', .slice A4 t.kids.length c4'] [t] from
    .cons t _ _ [] [] (M1.out.keep (Same.below hb11) (fun _ h _ => h)) (M2.out.keep (Same.below hb11) (fun _ h _ => h)) .nil)
   refine hK.out _ _ (fun _ => cell_keep TB.c4 hb11) ?_
   clear hK K rows M1 M2
   try simp only [zA, zB, zC, Act.put, zD, zE, zF]
   refine zO 5 fun K hK => ?_
   refine step_app rt_types rfl (.tmp 106) (.tmp 109) rfl (T + 1) _ ks.length xs rfl rows11.kids ⟨wk.heap.size, 0, none⟩ 1 1 [.int .i64 t.kind, .int .i64 t.sort, .string ⟨t.name.toArray⟩, .slice A3 t.labels.length c3', .slice A4 t.kids.length c4'] rfl rfl (five_new _ _ _ _ _ _ _) (by simp [Value.oneCell']) (by unfold maxLen; omega) (by omega) (by omega) (fun v' w12 k1 k2 k3 k4 => ?_)
   have rows12 := rows11.kid HC11.out k1 k2 k3
   have hb12 : Below (T + 1) wk w12 := (hb11.mono (by omega)).trans k4
   obtain ⟨Ax, cx, rfl⟩ := own_form k1
   clear k1 k2 k3 k4 HC11 rows11 hb11 hz11
   have hR12 := hRk.keepB hb12 (by omega)
   have hg12 := grown_belowT hgk' hb12 (by omega)
   have XB12 := XB.keep hb12 (by omega)
   have TB12 := TB.keep hb12 (by omega)
   refine hK.out _ _ (fun _ => TB12.c4) ?_
   clear hK K hb12 hRk hgk' XB TB hT9
   try simp only [zA, zB, zC, Act.put, zD, zE, zF]
   obtain ⟨t0, t1, t2, t3, t4, t5, t6⟩ := id TB12
   refine zO 6 fun K hK => ?_
   go_simp
   refine hK.out _ _ (fun h => absurd h (by decide)) ?_
   clear hK K
   try simp only [zA, zB, zC, Act.put, zD, zE, zF]
   refine zO 7 fun K hK => ?_
   go_simp
   refine hK.out _ _ (fun h => absurd h (by decide)) ?_
   clear hK K
   try simp only [zA, zB, zC, Act.put, zD, zE, zF]
   refine wpT_done (by kernel_rfl) ?_
   have TB := TB12.set4 (.slice Ax (ks.length + 1) cx)
   have rows := rows12.set (a := ⟨T, 4, none⟩) (show T < T + 1 by omega) (.slice Ax (ks.length + 1) cx)
   have hR8 := hR12.far (a := ⟨T, 4, none⟩) (show T ≠ b by omega) (.slice Ax (ks.length + 1) cx)
   have XB := XB12.far (p := ⟨T, 4, none⟩) (show T ≠ w.heap.size by omega) (.slice Ax (ks.length + 1) cx)
   have hg8 := grown_in (a := ⟨T, 4, none⟩) hg12 (show w.heap.size ≤ T by omega) (.slice Ax (ks.length + 1) cx)
   generalize w12.setCell ⟨T, 4, none⟩ (.slice Ax (ks.length + 1) cx) = w8 at TB rows hR8 XB hg8 ⊢
   clear TB12 rows12 hR12 XB12 hg12 t0 t1 t2 t3 t4 t5 t6
   go_wp2_with fail
   have hch3 := must_on (l := l) (fun w => isW [125] w || isW [44] w) (s := ⟨q8, bd8⟩) hon8.2.1
   have hon9 := (hon8.trans hch3).mono (d' := 1) (by omega)
   refine (must_any (fun w => isW [125] w || isW [44] w) 145 #[] (fun _ _ => by kernel_rfl) l b q8 bd8 w8 hl hon8.2.1 hR8 (fun x w' _ _ => is3_any x w')).mono ?_
   generalize must l (fun w => isW [125] w || isW [44] w) ⟨q8, bd8⟩ = M9 at *
   obtain ⟨y9, q9, bd9⟩ := M9
   rintro e w9 ⟨rfl, hg, hR9⟩
   have hg9 := grown_trans hg8 hg
   replace XB := XB.grown' hg (by omega)
   replace TB := TB.grown' hg (by omega)
   replace rows := rows.at hg (by omega)
   replace TB : VBox w9 T (.mk 6 0 [] (ls ++ [lb]) (ks ++ [t])) (.slice Av (ls.length + 1) cv) (.slice Ax (ks.length + 1) cx) := ⟨TB.c0, TB.c1, TB.c2, TB.c3, TB.c4, TB.fr, TB.lt⟩
   clear hg hR8 hg8
   have el1 : (ls ++ [lb]).length = ls.length + 1 := by simp
   have el2 : (ks ++ [t]).length = ks.length + 1 := by simp
   by_cases hy : y9 = [44]
   case pos =>
    have hye : (y9 == [44]) = true := by simp [hy]
    have HR2 := Lib.hid (HR1.out)
    simp only [hy, if_true] at HR2
    have h6' : bd9 = none → (ls ++ [lb]).length ≤ 6 := fun h => by
     have k8 := (hch3.2.2 h).1
     have k7 := (hch2.2.2 k8).1
     have k6 := (hch1.2.2 k7).1
     have := hok6 k6
     simp only [labelOk, Bool.and_eq_true, decide_eq_true_eq] at this
     omega
    have hlen' : (ks ++ [t]).length = (ls ++ [lb]).length := by rw [el1, el2, HLEN.out]
    have hgk' : (ls ++ [lb]).length + g' = 7 := by omega
    have H6 := Lib.hid h6'; have HL2 := Lib.hid hlen'; have HG2 := Lib.hid hgk'
    clear h6' hlen' hgk' el1 el2 hy
    go_wp2_with fail
    go_roundg g'
    case measure => omega
    case rel => exact ⟨q9, bd9, ls ++ [lb], ks ++ [t], _, _, _, hon9, HG2.out, H6.out, HL2.out, HR2, hR9, hg9, XB, TB, rows⟩
   case neg =>
    have hye : (y9 == [44]) = false := by simpa using hy
    have HR2 := Lib.hid (HR1.out)
    simp only [hy, if_false] at HR2
    clear el1 el2
    obtain ⟨t0, t1, t2, t3, t4, t5, t6⟩ := id TB
    obtain ⟨x0, x1, x2, x3, x4, x5, x6⟩ := id XB
    simp only [Ty.kind, Ty.sort, Ty.name] at t0 t1 t2
    have hne3 : ¬ T = b := by omega
    have hne4 : ¬ b = T := by omega
    have hne5 : ¬ T = w.heap.size := by omega
    have hne6 : ¬ w.heap.size = T := by omega
    go_wp2_with fail
    obtain ⟨hF, hgF, hRF, hT⟩ := finishS hbw (Nat.le_refl _) hg9 hR9 XB 6 0 [] (ls ++ [lb]) (ks ++ [t]) (.slice Av (ls.length + 1) cv) (.slice Ax (ks.length + 1) cx) (rows.strs (fun k hk => ⟨by omega, by omega⟩)) (rows.tys (fun k hk => ⟨by omega, by omega⟩))
    generalize ((((w9.setCell ⟨w.heap.size, 0, none⟩ (.int .i64 6)).setCell ⟨w.heap.size, 1, none⟩ (.int .i64 0)).setCell ⟨w.heap.size, 2, none⟩ (.string ⟨([] : Str).toArray⟩)).setCell ⟨w.heap.size, 3, none⟩ (.slice Av (ls.length + 1) cv)).setCell ⟨w.heap.size, 4, none⟩ (.slice Ax (ks.length + 1) cx) = w16 at hF hgF hRF hT ⊢
    obtain ⟨d0, d1, d2, d3, d4, d5, d6⟩ := hF
    refine bodyPost_ret (v := .agg #[.int .i64 6, .int .i64 0, .string ⟨([] : Str).toArray⟩, .slice Av (ls.length + 1) cv, .slice Ax (ks.length + 1) cx]) (by simp [results, Tryz.results106, go_sem, d0, d1, d2, d3, d4, Ty.kind, Ty.sort, Ty.name]) rfl ?_
    rw [← HR2.out]
    exact ⟨hgF, _, rfl, hT, hRF⟩
set_option maxHeartbeats 4000000 in
theorem scan_amp (hR : SBox w b l ⟨p, none⟩) (W : Str) (p1 : Nat) (bad1 : Option Nat) (hM : must l startOk ⟨p, none⟩ = (W, ⟨p1, bad1⟩)) (hW : W = [38]) (n : Nat) (ih : ∀ (s : St) (w : World), s.p ≤ l.length → (s.bad = none → l.length < n + s.p) → SBox w b l s → Calls Tryz.prog 106 #[.pointer (some ⟨b, 0, none⟩)] w (AnsR w b l (scanF l n s))) (hn : l.length < n + 1 + p) : Calls Tryz.prog 106 #[.pointer (some ⟨b, 0, none⟩)] w (AnsR w b l (.mk 7 0 [] (loopF l (scanF l n) 7 (must l (isW [123]) ⟨p1, bad1⟩).2 [] []).1 (loopF l (scanF l n) 7 (must l (isW [123]) ⟨p1, bad1⟩).2 [] []).2.1, (loopF l (scanF l n) 7 (must l (isW [123]) ⟨p1, bad1⟩).2 [] []).2.2)) := by
 subst hW
 obtain ⟨RES, hRES⟩ : ∃ r, ((.mk 7 0 [] (loopF l (scanF l n) 7 (must l (isW [123]) ⟨p1, bad1⟩).2 [] []).1 (loopF l (scanF l n) 7 (must l (isW [123]) ⟨p1, bad1⟩).2 [] []).2.1, (loopF l (scanF l n) 7 (must l (isW [123]) ⟨p1, bad1⟩).2 [] []).2.2) : Ty × St) = r := ⟨_, rfl⟩
 rw [hRES]
 have HRES := Lib.hid hRES; clear hRES
 obtain ⟨c0, c1, c2, c3, c4, fr, lt⟩ := id hR
 simp only [codeOf, placeOf] at c3 c4
 have hmf : ∀ (fn : Fn) (first cap : Array Value) (w : World), (Instr.makeFunc fn first cap).run Tryz.prog w = .ok (.func fn first cap) w := fun _ _ _ _ => rfl
 have hbw := hR.lt
 have hon := must_on (l := l) startOk (s := ⟨p, none⟩) hp
 rw [hM] at hon
 go_enter Tryz.func106, Tryz.ntmps106
 go_wp2_with fail
 have XB := new_box w 30
 have hbW : Below w.heap.size w (w.alloc (.cells #[.int .i64 0, .int .i64 0, .string ⟨#[]⟩, .slice none 0 0, .slice none 0 0] 30)) := by go_grown
 have hR0 := hR.keep hbW
 have hg0 := grown_belowB (grown_refl w b) hbW
 generalize w.alloc (.cells #[.int .i64 0, .int .i64 0, .string ⟨#[]⟩, .slice none 0 0, .slice none 0 0] 30) = w0 at XB hR0 hg0 ⊢
 clear hbW hR c0 c1 c2 c3 c4 fr lt
 have hne1 : ¬ w.heap.size = b := by omega
 have hne2 : ¬ b = w.heap.size := by omega
 have hcall := must_any startOk 139 #[] (fun _ _ => by kernel_rfl) l b p none w0 hl hp hR0 (fun x w' hx _ => is1_start x w' hx)
 rw [hM] at hcall
 refine hcall.mono ?_; clear hcall
 rintro e w1 ⟨rfl, hg, hR1⟩
 have hg1 := grown_trans hg0 hg
 replace XB := XB.grown' hg (by omega)
 clear hg hR0 hg0 hM
 clear w0
 simp only at hR1
 obtain ⟨x0, x1, x2, x3, x4, x5, x6⟩ := id XB
 go_wp2_with fail
 have hbT : b < w1.heap.size := hR1.lt
 have hXT : w.heap.size < w1.heap.size := XB.lt
 have TB : VBox (w1.alloc (.cells #[.int .i64 7, .int .i64 0, .string ⟨#[]⟩, .slice none 0 0, .slice none 0 0] 30)) w1.heap.size (.mk 7 0 [] [] []) (.slice none 0 0) (.slice none 0 0) := new_val w1 (.mk 7 0 [] [] []) _ _ _
 have hb2 : Below w1.heap.size w1 (w1.alloc (.cells #[.int .i64 7, .int .i64 0, .string ⟨#[]⟩, .slice none 0 0, .slice none 0 0] 30)) := (Below.refl _ _).alloc (Nat.le_refl _) _
 have hR2 := hR1.keep hb2
 have hg2 := grown_belowB hg1 hb2
 have hon2 := hon
 replace XB := XB.keep hb2 XB.lt
 generalize w1.alloc (.cells #[.int .i64 7, .int .i64 0, .string ⟨#[]⟩, .slice none 0 0, .slice none 0 0] 30) = w2 at TB hR2 hg2 XB ⊢
 clear hb2 hR1 hg1 x0 x1 x2 x3 x4 x5 x6
 generalize w1.heap.size = T at TB hbT hXT ⊢
 clear w1
 have rows : Rows w2 (T + 1) (.slice none 0 0) (.slice none 0 0) [] [] [] := Rows.new _ _
 refine (Is_any [123] w2).mono ?_
 rintro e wi ⟨rfl, hwi⟩
 have hbi : Below w2.heap.size w2 wi := by rw [hwi]; exact (Below.refl _ _).alloc (Nat.le_refl _) _
 have hci : wi.cell? ⟨w2.heap.size, 0, none⟩ = some (.string ⟨([123] : Str).toArray⟩) := by rw [hwi]; exact is_cell _ _ _
 have hNi : w2.heap.size ≠ b := by have := hR2.lt; omega
 have hRi := hR2.keep hbi
 have hgi := grown_belowB hg2 hbi
 replace XB := XB.keep hbi XB.lt
 replace TB := TB.keep hbi TB.lt
 replace rows := rows.below hbi
 clear hwi hR2 hg2
 generalize w2.heap.size = NI at hci hNi ⊢
 go_wp2_with fail
 refine (must_is [123] NI l b p1 bad1 wi hl hon2.2.1 hRi hNi hci).mono ?_
 have hon3 := (hon2.trans (must_on (l := l) (isW [123]) (s := ⟨p1, bad1⟩) hon2.2.1)).mono (d' := 1) (by omega)
 generalize must l (isW [123]) ⟨p1, bad1⟩ = M3 at *
 obtain ⟨y3, q3, bd3⟩ := M3
 rintro e w3 ⟨rfl, hg, hR3⟩
 have hg3 := grown_trans hgi hg
 replace XB := XB.grown' hg (by omega)
 replace TB := TB.grown' hg (by omega)
 replace rows := rows.at hg (by omega)
 clear hg hRi hgi hci hNi hbi
 go_wp2_with fail
 go_loopg [] 7 (fun gk wr => ∃ (q : Nat) (bd : Option Nat) (ls : List Str) (ks : List Ty) (lv kv : Value) (xs : List Value), On l 1 ⟨p, none⟩ ⟨q, bd⟩ ∧ ls.length + gk = 7 ∧ (bd = none → ls.length ≤ 6) ∧ ks.length = ls.length ∧ Hid ((.mk 7 0 [] (loopF l (scanF l n) gk ⟨q, bd⟩ ls ks).1 (loopF l (scanF l n) gk ⟨q, bd⟩ ls ks).2.1, (loopF l (scanF l n) gk ⟨q, bd⟩ ls ks).2.2) = RES) ∧
  SBox wr b l ⟨q, bd⟩ ∧ w.grownBy wr (some b) ∧ VBox wr w.heap.size zeroTy (.slice none 0 0) (.slice none 0 0) ∧ VBox wr T (.mk 7 0 [] ls ks) lv kv ∧ Rows wr (T + 1) lv kv ls ks xs)
 case atStart => exact ⟨q3, bd3, [], [], _, _, [], hon3, rfl, fun _ => by simp, rfl, HRES, hR3, hg3, XB, TB, rows⟩
 case round =>
  clear HRES hR3 hg3 XB TB rows hon2 hon3
  obtain ⟨q, bd, ls, ks, lv, kv, xs, hon4, hgk, h6, hlen, HR, hR4, hg4, XB, TB, rows⟩ := hrel
  have hk7 : ks.length ≤ 7 := by omega
  have HLEN := Lib.hid hlen; clear hlen
  obtain ⟨Al, cl, rfl⟩ := own_form rows.labels
  obtain ⟨Ak, ck, rfl⟩ := own_form rows.kids
  obtain ⟨c0, c1, c2, c3, c4, fr, lt⟩ := id hR4
  cases bd with
  | some q0 =>
   simp only [codeOf, placeOf] at c3 c4
   have HR1 : Hid ((.mk 7 0 [] ls ks, ⟨q, some q0⟩) = RES) := Lib.hid (by rw [← HR.out, loopF_bad])
   clear HR
   obtain ⟨t0, t1, t2, t3, t4, t5, t6⟩ := id TB
   obtain ⟨x0, x1, x2, x3, x4, x5, x6⟩ := id XB
   simp only [Ty.kind, Ty.sort, Ty.name] at t0 t1 t2
   have hne3 : ¬ T = b := by omega
   have hne4 : ¬ b = T := by omega
   have hne5 : ¬ T = w.heap.size := by omega
   have hne6 : ¬ w.heap.size = T := by omega
   go_wp2_with fail
   obtain ⟨hF, hgF, hRF, hT⟩ := finishS hbw (Nat.le_refl _) hg4 hR4 XB 7 0 [] ls ks (.slice Al ls.length cl) (.slice Ak ks.length ck) (rows.strs (fun k hk => ⟨by omega, by omega⟩)) (rows.tys (fun k hk => ⟨by omega, by omega⟩))
   generalize ((((wr.setCell ⟨w.heap.size, 0, none⟩ (.int .i64 7)).setCell ⟨w.heap.size, 1, none⟩ (.int .i64 0)).setCell ⟨w.heap.size, 2, none⟩ (.string ⟨([] : Str).toArray⟩)).setCell ⟨w.heap.size, 3, none⟩ (.slice Al ls.length cl)).setCell ⟨w.heap.size, 4, none⟩ (.slice Ak ks.length ck) = w16 at hF hgF hRF hT ⊢
   obtain ⟨d0, d1, d2, d3, d4, d5, d6⟩ := hF
   refine bodyPost_ret (v := .agg #[.int .i64 7, .int .i64 0, .string ⟨([] : Str).toArray⟩, .slice Al ls.length cl, .slice Ak ks.length ck]) (by simp [results, Tryz.results106, go_sem, d0, d1, d2, d3, d4, Ty.kind, Ty.sort, Ty.name]) rfl ?_
   rw [← HR1.out]
   exact ⟨hgF, _, rfl, hT, hRF⟩
  | none =>
   simp only [codeOf, placeOf] at c3 c4
   have hls6 := h6 rfl
   clear h6
   obtain ⟨g', rfl⟩ : ∃ g', gk = g' + 1 := ⟨gk - 1, by omega⟩
   have HR1 : Hid ((.mk 7 0 [] (if (must l (fun w => isW [125] w || isW [44] w) (scanF l n (must l (isW [58]) (must l (labelOk ls) ⟨q, none⟩).2).2).2).1 = [44] then loopF l (scanF l n) g' (must l (fun w => isW [125] w || isW [44] w) (scanF l n (must l (isW [58]) (must l (labelOk ls) ⟨q, none⟩).2).2).2).2 (ls ++ [(must l (labelOk ls) ⟨q, none⟩).1]) (ks ++ [(scanF l n (must l (isW [58]) (must l (labelOk ls) ⟨q, none⟩).2).2).1]) else (ls ++ [(must l (labelOk ls) ⟨q, none⟩).1], ks ++ [(scanF l n (must l (isW [58]) (must l (labelOk ls) ⟨q, none⟩).2).2).1], (must l (fun w => isW [125] w || isW [44] w) (scanF l n (must l (isW [58]) (must l (labelOk ls) ⟨q, none⟩).2).2).2).2)).1 (if (must l (fun w => isW [125] w || isW [44] w) (scanF l n (must l (isW [58]) (must l (labelOk ls) ⟨q, none⟩).2).2).2).1 = [44] then loopF l (scanF l n) g' (must l (fun w => isW [125] w || isW [44] w) (scanF l n (must l (isW [58]) (must l (labelOk ls) ⟨q, none⟩).2).2).2).2 (ls ++ [(must l (labelOk ls) ⟨q, none⟩).1]) (ks ++ [(scanF l n (must l (isW [58]) (must l (labelOk ls) ⟨q, none⟩).2).2).1]) else (ls ++ [(must l (labelOk ls) ⟨q, none⟩).1], ks ++ [(scanF l n (must l (isW [58]) (must l (labelOk ls) ⟨q, none⟩).2).2).1], (must l (fun w => isW [125] w || isW [44] w) (scanF l n (must l (isW [58]) (must l (labelOk ls) ⟨q, none⟩).2).2).2).2)).2.1, (if (must l (fun w => isW [125] w || isW [44] w) (scanF l n (must l (isW [58]) (must l (labelOk ls) ⟨q, none⟩).2).2).2).1 = [44] then loopF l (scanF l n) g' (must l (fun w => isW [125] w || isW [44] w) (scanF l n (must l (isW [58]) (must l (labelOk ls) ⟨q, none⟩).2).2).2).2 (ls ++ [(must l (labelOk ls) ⟨q, none⟩).1]) (ks ++ [(scanF l n (must l (isW [58]) (must l (labelOk ls) ⟨q, none⟩).2).2).1]) else (ls ++ [(must l (labelOk ls) ⟨q, none⟩).1], ks ++ [(scanF l n (must l (isW [58]) (must l (labelOk ls) ⟨q, none⟩).2).2).1], (must l (fun w => isW [125] w || isW [44] w) (scanF l n (must l (isW [58]) (must l (labelOk ls) ⟨q, none⟩).2).2).2).2)).2.2) = RES) := Lib.hid (by rw [← HR.out]; rfl)
   clear HR
   go_wp2_with fail
   have HSd : Hid ((fun w' : World => w'.cell? ⟨T, 3, none⟩ = some (.slice Al ls.length cl)) wr.drew) := Lib.hid TB.c3
   refine wp_region_T 8 (fun w' : World => w'.cell? ⟨T, 3, none⟩ = some (.slice Al ls.length cl)) (by kernel_rfl) ?_
   refine zT 0 ?_ rfl (Or.inl ⟨by rfl, ?_⟩) HSd.out ?_
   rotate_left
   ·(intro wq hSw; go_simp; all_goals (first | (with_reducible rfl) | (rw [zI])))
   simp only [zA, zB, zC, Act.put, zD, zE, zF]
   refine zT 1 ?_ rfl (Or.inl ⟨by rfl, ?_⟩) HSd.out ?_
   rotate_left
   ·(intro wq hSw; go_simp; all_goals (first | (with_reducible rfl) | (rw [zI])))
   simp only [zA, zB, zC, Act.put, zD, zE, zF]
   refine zT 2 ?_ rfl (Or.inl ⟨by rfl, ?_⟩) HSd.out ?_
   rotate_left
   ·(intro wq hSw; go_simp; all_goals (first | (with_reducible rfl) | (rw [zI])))
   simp only [zA, zB, zC, Act.put, zD, zE, zF]
   refine zT 3 ?_ rfl (Or.inl ⟨by rfl, ?_⟩) HSd.out ?_
   rotate_left
   ·(intro wq hSw; go_simp; all_goals (first | (with_reducible rfl) | (rw [zI])))
   simp only [zA, zB, zC, Act.put, zD, zE, zF]
   refine zT 4 ?_ rfl (Or.inl ⟨by rfl, ?_⟩) HSd.out ?_
   rotate_left
   ·(intro wq hSw; go_simp; all_goals (first | (with_reducible rfl) | (rw [zI])))
   simp only [zA, zB, zC, Act.put, zD, zE, zF]
   refine zO 5 fun K hK => ?_
   go_simp
   have hRd : SBox wr.drew b l ⟨q, none⟩ := ⟨hR4.c0, hR4.c1, hR4.c2, hR4.c3, hR4.c4, hR4.fr, hR4.lt⟩
   have hlab := rows.strs (D := (· ≠ b)) (fun k hk => by omega)
   refine (label_any ls (.slice Al ls.length cl) l b q none wr.drew hl hon4.2.1 hRd (hlab.keep (fun _ _ _ => rfl) (fun _ h _ => h)) (by omega)).mono ?_
   have hon6 := (hon4.trans (must_on (l := l) (labelOk ls) (s := ⟨q, none⟩) hon4.2.1)).mono (d' := 1) (by omega)
   have hok6 := must_ok (l := l) (right := labelOk ls) (s := ⟨q, none⟩)
   generalize must l (labelOk ls) ⟨q, none⟩ = M6 at *
   obtain ⟨lb, q6, bd6⟩ := M6
   rintro e w5 ⟨rfl, hg, hR5⟩
   have hg' : wr.grownBy w5 (some b) := drew_grown hg
   have hg5 := grown_trans hg4 hg'
   replace XB := XB.grown' hg' (by omega)
   replace TB := TB.grown' hg' (by omega)
   replace rows := rows.at hg' (by omega)
   refine hK.out _ _ (fun _ => TB.c3) ?_
   clear hK K hg hg' hRd hlab hR4 hg4 HSd c0 c1 c2 c3 c4 fr lt
   try simp only [zA, zB, zC, Act.put, zD, zE, zF]
   refine zO 6 fun K hK => ?_
   go_simp
   have hba : Below w5.heap.size w5 (w5.alloc (.cells #[.string ⟨lb.toArray⟩] 9)) := (Below.refl _ _).alloc (Nat.le_refl _) _
   have hca : (w5.alloc (.cells #[.string ⟨lb.toArray⟩] 9)).cell? ⟨w5.heap.size, 0, none⟩ = some (.string ⟨lb.toArray⟩) := by simp [go_sem]
   have hza : w5.heap.size < (w5.alloc (.cells #[.string ⟨lb.toArray⟩] 9)).heap.size := by simp
   have rowsA := rows.below hba
   have hT5 := TB.lt
   refine hK.out _ _ (fun _ => cell_keep TB.c3 hba) ?_
   clear hK K rows
   try simp only [zA, zB, zC, Act.put, zD, zE, zF]
   refine zO 7 fun K hK => ?_
   refine step_app rt_strs rfl (.tmp 94) (.tmp 99) rfl (T + 1) _ ls.length (strVals ls) rfl rowsA.labels ⟨w5.heap.size, 0, none⟩ 1 1 [.string ⟨lb.toArray⟩] rfl rfl (fun j u hj => ?_) (by simp [Value.oneCell']) (by unfold maxLen; omega) (by omega) (by omega) (fun v' w9 k1 k2 k3 k4 => ?_)
   ·match j, hj with
    | 0, hj => simp at hj; subst hj; exact hca
    | j + 1, hj => simp at hj
   have rows9 := rowsA.label k1 k2 k3
   have hb59 : Below (T + 1) w5 w9 := (hba.mono (by omega)).trans k4
   obtain ⟨Av, cv, rfl⟩ := own_form k1
   clear k1 k2 k3 k4 hca hza rowsA hba
   have hR9 := hR5.keepB hb59 (by omega)
   have hg9 := grown_belowT hg5 hb59 (by omega)
   have XB9 := XB.keep hb59 (by omega)
   have TB9 := TB.keep hb59 (by omega)
   refine hK.out _ _ (fun _ => TB9.c3) ?_
   clear hK K hb59 hR5 hg5 XB TB hT5
   try simp only [zA, zB, zC, Act.put, zD, zE, zF]
   obtain ⟨t0, t1, t2, t3, t4, t5, t6⟩ := id TB9
   refine zO 8 fun K hK => ?_
   go_simp
   refine hK.out _ _ (fun h => absurd h (by decide)) ?_
   clear hK K
   try simp only [zA, zB, zC, Act.put, zD, zE, zF]
   refine zO 9 fun K hK => ?_
   go_simp
   refine hK.out _ _ (fun h => absurd h (by decide)) ?_
   clear hK K
   try simp only [zA, zB, zC, Act.put, zD, zE, zF]
   refine wpT_done (by kernel_rfl) ?_
   have TB := TB9.set3 (.slice Av (ls.length + 1) cv)
   have rows := rows9.set (a := ⟨T, 3, none⟩) (show T < T + 1 by omega) (.slice Av (ls.length + 1) cv)
   have hR6 := hR9.far (a := ⟨T, 3, none⟩) (show T ≠ b by omega) (.slice Av (ls.length + 1) cv)
   have XB := XB9.far (p := ⟨T, 3, none⟩) (show T ≠ w.heap.size by omega) (.slice Av (ls.length + 1) cv)
   have hg6 := grown_in (a := ⟨T, 3, none⟩) hg9 (show w.heap.size ≤ T by omega) (.slice Av (ls.length + 1) cv)
   generalize w9.setCell ⟨T, 3, none⟩ (.slice Av (ls.length + 1) cv) = w6 at TB rows hR6 XB hg6 ⊢
   clear TB9 rows9 hR9 XB9 hg9 t0 t1 t2 t3 t4 t5 t6
   go_wp2_with fail
   have hch1 := must_on (l := l) (isW [58]) (s := ⟨q6, bd6⟩) hon6.2.1
   refine (Is_any [58] w6).mono ?_
   rintro e wi ⟨rfl, hwi⟩
   have hbi : Below w6.heap.size w6 wi := by rw [hwi]; exact (Below.refl _ _).alloc (Nat.le_refl _) _
   have hci : wi.cell? ⟨w6.heap.size, 0, none⟩ = some (.string ⟨([58] : Str).toArray⟩) := by rw [hwi]; exact is_cell _ _ _
   have hNi : w6.heap.size ≠ b := by have := hR6.lt; omega
   have hRi := hR6.keep hbi
   have hgi := grown_belowB hg6 hbi
   replace XB := XB.keep hbi XB.lt
   replace TB := TB.keep hbi TB.lt
   replace rows := rows.below hbi
   clear hwi hR6 hg6
   generalize w6.heap.size = NI at hci hNi ⊢
   go_wp2_with fail
   refine (must_is [58] NI l b q6 bd6 wi hl hon6.2.1 hRi hNi hci).mono ?_
   have hon7 := (hon6.trans (must_on (l := l) (isW [58]) (s := ⟨q6, bd6⟩) hon6.2.1)).mono (d' := 1) (by omega)
   generalize must l (isW [58]) ⟨q6, bd6⟩ = M7 at *
   obtain ⟨y7, q7, bd7⟩ := M7
   rintro e w7 ⟨rfl, hg, hR7⟩
   have hg7 := grown_trans hgi hg
   replace XB := XB.grown' hg (by omega)
   replace TB := TB.grown' hg (by omega)
   replace rows := rows.at hg (by omega)
   clear hg hRi hgi hci hNi hbi
   go_wp2_with fail
   have hTlt := TB.lt
   have HSd : Hid ((fun w' : World => w'.cell? ⟨T, 4, none⟩ = some (.slice Ak ks.length ck)) w7.drew) := Lib.hid TB.c4
   refine wp_region_T 6 (fun w' : World => w'.cell? ⟨T, 4, none⟩ = some (.slice Ak ks.length ck)) (by kernel_rfl) ?_
   refine zT 0 ?_ rfl (Or.inl ⟨by rfl, ?_⟩) HSd.out ?_
   rotate_left
   ·(intro wq hSw; go_simp; all_goals (first | (with_reducible rfl) | (rw [zI])))
   simp only [zA, zB, zC, Act.put, zD, zE, zF]
   refine zT 1 ?_ rfl (Or.inl ⟨by rfl, ?_⟩) HSd.out ?_
   rotate_left
   ·(intro wq hSw; go_simp; all_goals (first | (with_reducible rfl) | (rw [zI])))
   simp only [zA, zB, zC, Act.put, zD, zE, zF]
   refine zT 2 ?_ rfl (Or.inl ⟨by rfl, ?_⟩) HSd.out ?_
   rotate_left
   ·(intro wq hSw; go_simp; all_goals (first | (with_reducible rfl) | (rw [zI])))
   simp only [zA, zB, zC, Act.put, zD, zE, zF]
   refine zO 3 fun K hK => ?_
   go_simp
   have hRd : SBox w7.drew b l ⟨q7, bd7⟩ := ⟨hR7.c0, hR7.c1, hR7.c2, hR7.c3, hR7.c4, hR7.fr, hR7.lt⟩
   have hgd : w.grownBy w7.drew (some b) := grown_drew hg7
   refine (ih ⟨q7, bd7⟩ w7.drew hon7.2.1 (fun h => by have h1 : p + 1 ≤ q7 := (hon7.2.2 h).2; show l.length < n + q7; omega) hRd).mono ?_
   have hch2 := scan_on (l := l) n ⟨q7, bd7⟩ hon7.2.1
   have hon8 := (hon7.trans hch2).mono (d' := 1) (by omega)
   generalize scanF l n ⟨q7, bd7⟩ = TT at *
   obtain ⟨t, q8, bd8⟩ := TT
   rintro e wk ⟨hg, v, rfl, hTt, hRk⟩
   have hg' : w7.grownBy wk (some b) := drew_grown hg
   have hgk' := grown_trans hg7 hg'
   replace XB := XB.grown' hg' (by omega)
   replace TB := TB.grown' hg' (by omega)
   have hlab9 := fun k e => (rows.labels.lt k e).2
   have hkid9 := fun k e => (rows.kids.lt k e).2
   have hT9 := TB.lt
   have hT7 : T < w7.heap.size := hTlt
   replace rows := rows.at hg' (by omega)
   obtain ⟨lv2, kv2, rfl, m1, m2⟩ := hTt
   simp only at m1 m2 hRk
   have hdis : ∀ k, w7.heap.size ≤ k → T + 1 ≤ k ∧ (Value.slice Av (ls.length + 1) cv).ownBlock ≠ some k ∧ (Value.slice Ak ks.length ck).ownBlock ≠ some k := fun k hk => ⟨by omega, fun e => by have := hlab9 k e; omega, fun e => by have := hkid9 k e; omega⟩
   have M1 := Lib.hid (m1.keep (D' := fun k => T + 1 ≤ k ∧ (Value.slice Av (ls.length + 1) cv).ownBlock ≠ some k ∧ (Value.slice Ak ks.length ck).ownBlock ≠ some k) (fun _ _ _ => rfl) (fun k hk _ => hdis k hk))
   have M2 := Lib.hid (m2.keep (D' := fun k => T + 1 ≤ k ∧ (Value.slice Av (ls.length + 1) cv).ownBlock ≠ some k ∧ (Value.slice Ak ks.length ck).ownBlock ≠ some k) (fun _ _ _ => rfl) (fun k hk _ => hdis k hk))
   clear hdis hlab9 hkid9 hT7
   obtain ⟨A3, c3', rfl, -, -⟩ := m1
   obtain ⟨A4, c4', rfl, -, -⟩ := m2
   refine hK.out _ _ (fun _ => TB.c4) ?_
   clear hK K hg hg' hRd hgd hR7 hg7 HSd
   try simp only [zA, zB, zC, Act.put, zD, zE, zF]
   refine zO 4 fun K hK => ?_
   go_simp
   have hb11 : Below wk.heap.size wk (wk.alloc (.cells #[.int .i64 t.kind, .int .i64 t.sort, .string ⟨t.name.toArray⟩, .slice A3 t.labels.length c3', .slice A4 t.kids.length c4'] 30)) := (Below.refl _ _).alloc (Nat.le_refl _) _
   have hz11 : wk.heap.size < (wk.alloc (.cells #[.int .i64 t.kind, .int .i64 t.sort, .string ⟨t.name.toArray⟩, .slice A3 t.labels.length c3', .slice A4 t.kids.length c4'] 30)).heap.size := by simp
   have rows11 := rows.below hb11
   have HC11 := Lib.hid (show Cells5D (fun k => T + 1 ≤ k ∧ (Value.slice Av (ls.length + 1) cv).ownBlock ≠ some k ∧ (Value.slice Ak ks.length ck).ownBlock ≠ some k) (wk.alloc (.cells #[.int .i64 t.kind, .int .i64 t.sort, .string ⟨t.name.toArray⟩, .slice A3 t.labels.length c3', .slice A4 t.kids.length c4'] 30)) [.int .i64 t.kind, .int .i64 t.sort, .string ⟨t.name.toArray⟩, .slice A3 t.labels.length c3', .slice A4 t.kids.length c4'] [t] from
    .cons t _ _ [] [] (M1.out.keep (Same.below hb11) (fun _ h _ => h)) (M2.out.keep (Same.below hb11) (fun _ h _ => h)) .nil)
   refine hK.out _ _ (fun _ => cell_keep TB.c4 hb11) ?_
   clear hK K rows M1 M2
   try simp only [zA, zB, zC, Act.put, zD, zE, zF]
   refine zO 5 fun K hK => ?_
   refine step_app rt_types rfl (.tmp 106) (.tmp 109) rfl (T + 1) _ ks.length xs rfl rows11.kids ⟨wk.heap.size, 0, none⟩ 1 1 [.int .i64 t.kind, .int .i64 t.sort, .string ⟨t.name.toArray⟩, .slice A3 t.labels.length c3', .slice A4 t.kids.length c4'] rfl rfl (five_new _ _ _ _ _ _ _) (by simp [Value.oneCell']) (by unfold maxLen; omega) (by omega) (by omega) (fun v' w12 k1 k2 k3 k4 => ?_)
   have rows12 := rows11.kid HC11.out k1 k2 k3
   have hb12 : Below (T + 1) wk w12 := (hb11.mono (by omega)).trans k4
   obtain ⟨Ax, cx, rfl⟩ := own_form k1
   clear k1 k2 k3 k4 HC11 rows11 hb11 hz11
   have hR12 := hRk.keepB hb12 (by omega)
   have hg12 := grown_belowT hgk' hb12 (by omega)
   have XB12 := XB.keep hb12 (by omega)
   have TB12 := TB.keep hb12 (by omega)
   refine hK.out _ _ (fun _ => TB12.c4) ?_
   clear hK K hb12 hRk hgk' XB TB hT9
   try simp only [zA, zB, zC, Act.put, zD, zE, zF]
   obtain ⟨t0, t1, t2, t3, t4, t5, t6⟩ := id TB12
   refine zO 6 fun K hK => ?_
   go_simp
   refine hK.out _ _ (fun h => absurd h (by decide)) ?_
   clear hK K
   try simp only [zA, zB, zC, Act.put, zD, zE, zF]
   refine zO 7 fun K hK => ?_
   go_simp
   refine hK.out _ _ (fun h => absurd h (by decide)) ?_
   clear hK K
   try simp only [zA, zB, zC, Act.put, zD, zE, zF]
   refine wpT_done (by kernel_rfl) ?_
   have TB := TB12.set4 (.slice Ax (ks.length + 1) cx)
   have rows := rows12.set (a := ⟨T, 4, none⟩) (show T < T + 1 by omega) (.slice Ax (ks.length + 1) cx)
   have hR8 := hR12.far (a := ⟨T, 4, none⟩) (show T ≠ b by omega) (.slice Ax (ks.length + 1) cx)
   have XB := XB12.far (p := ⟨T, 4, none⟩) (show T ≠ w.heap.size by omega) (.slice Ax (ks.length + 1) cx)
   have hg8 := grown_in (a := ⟨T, 4, none⟩) hg12 (show w.heap.size ≤ T by omega) (.slice Ax (ks.length + 1) cx)
   generalize w12.setCell ⟨T, 4, none⟩ (.slice Ax (ks.length + 1) cx) = w8 at TB rows hR8 XB hg8 ⊢
   clear TB12 rows12 hR12 XB12 hg12 t0 t1 t2 t3 t4 t5 t6
   go_wp2_with fail
   have hch3 := must_on (l := l) (fun w => isW [125] w || isW [44] w) (s := ⟨q8, bd8⟩) hon8.2.1
   have hon9 := (hon8.trans hch3).mono (d' := 1) (by omega)
   refine (must_any (fun w => isW [125] w || isW [44] w) 145 #[] (fun _ _ => by kernel_rfl) l b q8 bd8 w8 hl hon8.2.1 hR8 (fun x w' _ _ => is3_any x w')).mono ?_
   generalize must l (fun w => isW [125] w || isW [44] w) ⟨q8, bd8⟩ = M9 at *
   obtain ⟨y9, q9, bd9⟩ := M9
   rintro e w9 ⟨rfl, hg, hR9⟩
   have hg9 := grown_trans hg8 hg
   replace XB := XB.grown' hg (by omega)
   replace TB := TB.grown' hg (by omega)
   replace rows := rows.at hg (by omega)
   replace TB : VBox w9 T (.mk 7 0 [] (ls ++ [lb]) (ks ++ [t])) (.slice Av (ls.length + 1) cv) (.slice Ax (ks.length + 1) cx) := ⟨TB.c0, TB.c1, TB.c2, TB.c3, TB.c4, TB.fr, TB.lt⟩
   clear hg hR8 hg8
   have el1 : (ls ++ [lb]).length = ls.length + 1 := by simp
   have el2 : (ks ++ [t]).length = ks.length + 1 := by simp
   by_cases hy : y9 = [44]
   case pos =>
    have hye : (y9 == [44]) = true := by simp [hy]
    have HR2 := Lib.hid (HR1.out)
    simp only [hy, if_true] at HR2
    have h6' : bd9 = none → (ls ++ [lb]).length ≤ 6 := fun h => by
     have k8 := (hch3.2.2 h).1
     have k7 := (hch2.2.2 k8).1
     have k6 := (hch1.2.2 k7).1
     have := hok6 k6
     simp only [labelOk, Bool.and_eq_true, decide_eq_true_eq] at this
     omega
    have hlen' : (ks ++ [t]).length = (ls ++ [lb]).length := by rw [el1, el2, HLEN.out]
    have hgk' : (ls ++ [lb]).length + g' = 7 := by omega
    have H6 := Lib.hid h6'; have HL2 := Lib.hid hlen'; have HG2 := Lib.hid hgk'
    clear h6' hlen' hgk' el1 el2 hy
    go_wp2_with fail
    go_roundg g'
    case measure => omega
    case rel => exact ⟨q9, bd9, ls ++ [lb], ks ++ [t], _, _, _, hon9, HG2.out, H6.out, HL2.out, HR2, hR9, hg9, XB, TB, rows⟩
   case neg =>
    have hye : (y9 == [44]) = false := by simpa using hy
    have HR2 := Lib.hid (HR1.out)
    simp only [hy, if_false] at HR2
    clear el1 el2
    obtain ⟨t0, t1, t2, t3, t4, t5, t6⟩ := id TB
    obtain ⟨x0, x1, x2, x3, x4, x5, x6⟩ := id XB
    simp only [Ty.kind, Ty.sort, Ty.name] at t0 t1 t2
    have hne3 : ¬ T = b := by omega
    have hne4 : ¬ b = T := by omega
    have hne5 : ¬ T = w.heap.size := by omega
    have hne6 : ¬ w.heap.size = T := by omega
    go_wp2_with fail
    obtain ⟨hF, hgF, hRF, hT⟩ := finishS hbw (Nat.le_refl _) hg9 hR9 XB 7 0 [] (ls ++ [lb]) (ks ++ [t]) (.slice Av (ls.length + 1) cv) (.slice Ax (ks.length + 1) cx) (rows.strs (fun k hk => ⟨by omega, by omega⟩)) (rows.tys (fun k hk => ⟨by omega, by omega⟩))
    generalize ((((w9.setCell ⟨w.heap.size, 0, none⟩ (.int .i64 7)).setCell ⟨w.heap.size, 1, none⟩ (.int .i64 0)).setCell ⟨w.heap.size, 2, none⟩ (.string ⟨([] : Str).toArray⟩)).setCell ⟨w.heap.size, 3, none⟩ (.slice Av (ls.length + 1) cv)).setCell ⟨w.heap.size, 4, none⟩ (.slice Ax (ks.length + 1) cx) = w16 at hF hgF hRF hT ⊢
    obtain ⟨d0, d1, d2, d3, d4, d5, d6⟩ := hF
    refine bodyPost_ret (v := .agg #[.int .i64 7, .int .i64 0, .string ⟨([] : Str).toArray⟩, .slice Av (ls.length + 1) cv, .slice Ax (ks.length + 1) cx]) (by simp [results, Tryz.results106, go_sem, d0, d1, d2, d3, d4, Ty.kind, Ty.sort, Ty.name]) rfl ?_
    rw [← HR2.out]
    exact ⟨hgF, _, rfl, hT, hRF⟩
end
end Go.Proofs.YtpidjanngbaiiaaGreatDoor
