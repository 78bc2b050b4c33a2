/-
  The reference's reader of conversations: talk, two roles.
-/
import Derived.Test.YtcacembpegoghaaDoorGlX1
import Derived.Test.YtcacembpegoghaaDoorGlR
import Derived.Test.YtcacembpegoghaaDoorHeld
import Derived.Test.YtcacembpegoghaaDoorBits3
namespace Go.Proofs.YtcacembpegoghaaDoor
open Go.RowKit Go.Proofs

set_option maxRecDepth 100000
def gpickR (l : Str) (W V : Str) (c : List Str × List Gl × St) : Gl × St := (.mk 6 W V 0 [] c.1 c.2.1, (must l (isW [125]) c.2.2).2)
def gpairR (l : Str) (F : St → Gl × St) (W V : Str) : St → Gl × St
  | ⟨p2, some q⟩ => gscanSend l F W V ⟨p2, some q⟩
  | ⟨p2, none⟩ => if pk l (sk l p2) = [123] then gpickR l W V (gloopF l F 7 ⟨sk l p2 + 1, none⟩ [] []) else gscanSend l F W V ⟨sk l p2, none⟩
theorem gscanPair_eq (l : Str) (F : St → Gl × St) (W : Str) (s : St) : gscanPair l F W s = gpairR l F W (must l (otherOk W) s).1 (must l (otherOk W) s).2 := by
  unfold gscanPair
  generalize must l (otherOk W) s = M
  obtain ⟨V, p2, bad⟩ := M
  cases bad <;> rfl
def gstepR (l : Str) (F : St → Gl × St) (m : Nat) (ls : List Str) (ks : List Gl) (lb : Str) (t : Gl) : St → List Str × List Gl × St
  | ⟨q8, some q9⟩ => (ls ++ [lb], ks ++ [t], ⟨q8, some q9⟩)
  | ⟨q8, none⟩ => if pk l (sk l q8) = [44] then gloopF l F m ⟨sk l q8 + 1, none⟩ (ls ++ [lb]) (ks ++ [t]) else (ls ++ [lb], ks ++ [t], ⟨sk l q8, none⟩)
theorem gloopF_succ (l : Str) (F : St → Gl × St) (m q : Nat) (ls : List Str) (ks : List Gl) : gloopF l F (m + 1) ⟨q, none⟩ ls ks = gstepR l F m ls ks (must l (labelOk ls) ⟨q, none⟩).1 (F (must l (isW [58]) (must l (labelOk ls) ⟨q, none⟩).2).2).1 (F (must l (isW [58]) (must l (labelOk ls) ⟨q, none⟩).2).2).2 := by
  show (match (F (must l (isW [58]) (must l (labelOk ls) ⟨q, none⟩).2).2).2.bad with
    | some q' => _
    | none => _) = _
  generalize F (must l (isW [58]) (must l (labelOk ls) ⟨q, none⟩).2).2 = C
  obtain ⟨t, q8, bad⟩ := C
  cases bad <;> rfl
/-- A row of conversations laid anew. -/
theorem gl_row {w : World} {E : TypeId} {ts : List Gl} {xs : List Value} {D : Blocks} (hc : Cells7 D w xs ts) (hD : D w.heap.size) : Gls D (w.alloc (.cells xs.toArray E)) (.slice (some ⟨w.heap.size, 0, none⟩) ts.length ts.length) ts := by
  have hbel : Below w.heap.size w (w.alloc (.cells xs.toArray E)) := (Below.refl _ _).alloc (Nat.le_refl _) _
  refine ⟨_, _, rfl, Nat.le_refl _, fun _ => ⟨w.heap.size, 0, rfl, hD, (hc.keep (Same.below hbel) (fun k hk _ => hk)).row 0 fun j u hj => ?_⟩⟩
  rw [Nat.zero_add, World.cell?_alloc_at _ _ _ _ rfl]
  simpa using hj
/-- What is right as the other role. -/
theorem t1_any (x u : Str) (a : Nat) (w : World) (hc : w.cell? ⟨a, 0, none⟩ = some (.string ⟨u.toArray⟩)) : Calls Tryd.prog 181 #[.string ⟨x.toArray⟩, .pointer (some ⟨a, 0, none⟩)] w fun e w' => e = .returned (.bool (otherOk u x)) ∧ Below w.heap.size w w' := by
  have hcall := fun w => refIsRole_any x w
  cases hi : isRole x with
  | false =>
    have HI := Lib.hid hi; clear hi
    go_enter Tryd.func181, Tryd.ntmps181
    go_wp2_with fail
    refine (hcall w).mono ?_; rw [HI.out]; rintro e w1 ⟨rfl, hb1⟩
    go_wp2_with fail
    go_ret
    exact ⟨ret_bool (by simp [otherOk, HI.out]), hb1⟩
  | true =>
    have HI := Lib.hid hi; clear hi
    go_enter Tryd.func181, Tryd.ntmps181
    go_wp2_with fail
    refine (hcall w).mono ?_; rw [HI.out]; rintro e w1 ⟨rfl, hb1⟩
    have hc1 := cell_keep hc hb1
    go_wp2_with fail
    go_ret
    exact ⟨ret_bool (by simp [otherOk, HI.out]), hb1⟩
theorem t2_any (x : Str) (w : World) : Calls Tryd.prog 184 #[.string ⟨x.toArray⟩] w fun e w' => e = .returned (.bool (decide (0 < sortIx x))) ∧ Below w.heap.size w w' := by
  go_enter Tryd.func184, Tryd.ntmps184
  go_wp2_with fail
  refine (sortOf_any x w).mono ?_
  rintro e w1 ⟨rfl, hb1⟩
  go_wp2_with fail
  go_ret
  exact ⟨rfl, hb1⟩
section
variable (l : Str) (b p : Nat) (w : World) (hl : l.length ≤ 2000) (hp : p ≤ l.length)
include hl hp
set_option maxHeartbeats 32000000 in
theorem talk_pair (hR : SBox w b l ⟨p, none⟩) (W : Str) (p1 : Nat) (hM : must l isName ⟨p, none⟩ = (W, ⟨p1, none⟩)) (h1 : W ≠ endW) (h2 : W ≠ recW) (hpk : pk l (sk l p1) = [62]) (hro : isRole W = true) (n : Nat) (ih : ∀ (s : St) (w : World), s.p ≤ l.length → (s.bad = none → l.length < n + s.p) → SBox w b l s → Calls Tryd.prog 99 #[.pointer (some ⟨b, 0, none⟩)] w (GAnsR w b l (gscanF l n s))) (hn : l.length < n + 1 + p) : Calls Tryd.prog 99 #[.pointer (some ⟨b, 0, none⟩)] w (GAnsR w b l (gscanPair l (gscanF l n) W ⟨sk l p1 + 1, none⟩)) := by
  have e1 : (W == [101, 110, 100]) = false := by simpa [endW] using h1
  have e2 : (W == [114, 101, 99]) = false := by simpa [recW] using h2
  obtain ⟨RES, hRES⟩ : ∃ r, gscanPair l (gscanF l n) W ⟨sk l p1 + 1, none⟩ = r := ⟨_, rfl⟩
  rw [hRES]
  have HRES : Hid (gpairR l (gscanF l n) W (must l (otherOk W) ⟨sk l p1 + 1, none⟩).1 (must l (otherOk W) ⟨sk l p1 + 1, none⟩).2 = RES) := Lib.hid (by rw [← hRES, gscanPair_eq])
  clear hRES
  obtain ⟨c0, c1, c2, c3, c4, fr, lt⟩ := id hR
  simp only [codeOf, placeOf] at c3 c4
  have hmf : ∀ (fn : Fn) (first cap : Array Value) (w : World), (Instr.makeFunc fn first cap).run Tryd.prog w = .ok (.func fn first cap) w := fun _ _ _ _ => rfl
  have hbw := hR.lt
  have hon := must_on (l := l) isName (s := ⟨p, none⟩) hp
  rw [hM] at hon
  go_enter Tryd.func99, Tryd.ntmps99
  go_wp2_with fail
  have hbW : Below w.heap.size w (w.alloc (.cells #[.int .i64 0, .string ⟨#[]⟩, .string ⟨#[]⟩, .int .i64 0, .string ⟨#[]⟩, .slice none 0 0, .slice none 0 0] 42)) := by go_grown
  have XB := new_gbox w 42
  have hR0 := hR.keep hbW
  have hg0 := grown_belowB (grown_refl w b) hbW
  generalize w.alloc (.cells #[.int .i64 0, .string ⟨#[]⟩, .string ⟨#[]⟩, .int .i64 0, .string ⟨#[]⟩, .slice none 0 0, .slice none 0 0] 42) = w0 at XB hR0 hg0 ⊢
  clear hbW hR c0 c1 c2 c3 c4 fr lt
  have hne1 : ¬ w.heap.size = b := by omega
  have hne2 : ¬ b = w.heap.size := by omega
  have hcall := must_any isName 111 #[] (fun _ _ => by kernel_rfl) l b p none w0 hl hp hR0 (fun x w' hx _ => refIsName_any x w' (by omega))
  rw [hM] at hcall
  refine hcall.mono ?_; clear hcall
  rintro e w1 ⟨rfl, hg, hR1⟩
  have hg1 := grown_trans hg0 hg
  replace XB := XB.grown' hg (by omega)
  clear hg hR0 hg0 hM
  clear w0
  simp only at hR1
  rename_i Kx hkx Ky hky
  have HKX := Lib.hid hkx
  clear hkx
  go_wp2_with fail
  have hbN : Below w1.heap.size w1 (w1.alloc (.cells #[.string ⟨W.toArray⟩] 9)) := (Below.refl _ _).alloc (Nat.le_refl _) _
  have NB := OBox.new w1 (.string ⟨W.toArray⟩) 9
  have XB2 := XB.keep hbN XB.lt
  have hR2 := hR1.keep hbN
  have hg2 := grown_belowB hg1 hbN
  have hXl := XB.lt
  have hbl := hR1.lt
  generalize w1.alloc (.cells #[.string ⟨W.toArray⟩] 9) = w2 at NB XB2 hR2 hg2 ⊢
  clear hbN XB hR1 hg1
  generalize w1.heap.size = N at NB hXl hbl ⊢
  clear w1
  have hn1 : ¬ N = b := by omega
  have hn2 : ¬ b = N := by omega
  have hn3 : ¬ N = w.heap.size := by omega
  have hn4 : ¬ w.heap.size = N := by omega
  refine HKX.out _ _ ?_
  clear HKX
  clear hXl hbl
  obtain ⟨n0, n1⟩ := id NB
  obtain ⟨x0, x1, x2, x3, x4, x5, x6, x7, x8⟩ := id XB2
  obtain ⟨r0, r1, r2, r3, r4, r5, r6⟩ := id hR2
  simp only [codeOf, placeOf] at r3 r4
  go_wp2_with fail
  refine (peek_any l b p1 none w2 hl hon.2.1 hR2).mono ?_
  have hs1 := sk_le hon.2.1
  simp only at hs1
  rintro e w3 ⟨rfl, hg, hR3⟩
  have hg3 := grown_trans hg2 hg
  have XB3 := XB2.grown' hg (by omega)
  have NB3 := NB.grown' hg (by omega)
  clear hg hR2 hg2 XB2 NB n0 n1 x0 x1 x2 x3 x4 x5 x6 x7 x8 r0 r1 r2 r3 r4 r5 r6
  clear w2
  obtain ⟨n0, n1⟩ := id NB3
  obtain ⟨x0, x1, x2, x3, x4, x5, x6, x7, x8⟩ := id XB3
  have hQ1 := at_lt ((pk_sign l (sk l p1) 62 (by decide)).1 hpk)
  rw [hpk]
  clear hpk
  have HR := Lib.hid hro; clear hro
  have hpQ : p + 1 ≤ sk l p1 + 1 := by have := hon.1; simp only at this; omega
  generalize sk l p1 = Q at hs1 hR3 hQ1 HRES hpQ ⊢
  go_wp2_with fail
  refine (refIsRole_any W w3).mono ?_; rw [HR.out]; rintro e w4 ⟨rfl, hb4⟩
  have XB4 := XB3.keep hb4 XB3.lt
  have NB4 := NB3.keep hb4
  have hR4 := hR3.keep hb4
  have hg4 := grown_belowB hg3 hb4
  clear hb4 hR3 hg3 XB3 NB3 n0 n1 x0 x1 x2 x3 x4 x5 x6 x7 x8
  clear w3
  obtain ⟨r0, r1, r2, r3, r4, r5, r6⟩ := id hR4
  simp only [codeOf, placeOf] at r3 r4
  go_wp2_with fail
  obtain ⟨hg5, hR5⟩ := s_on hg4 hR4 1
  have XB5 := XB4.far (p := ⟨b, 1, none⟩) hne2 (.int .i64 ((Q : Int) + 1))
  have NB5 := NB4.far (p := ⟨b, 1, none⟩) hn2 (.int .i64 ((Q : Int) + 1))
  rw [show ((1 : Nat) : Int) = 1 from rfl] at hg5 hR5
  generalize w4.setCell ⟨b, 1, none⟩ (.int .i64 ((Q : Int) + 1)) = w5 at hR5 hg5 XB5 NB5 ⊢
  clear hR4 hg4 XB4 NB4 r0 r1 r2 r3 r4 r5 r6
  clear w4
  have hon6 : On l 1 ⟨p, none⟩ ⟨Q + 1, none⟩ := ⟨by show p ≤ Q + 1; omega, hQ1, fun _ => ⟨rfl, hpQ⟩⟩
  have hmon := fun w' (R : SBox w' b l ⟨Q + 1, none⟩) hr => must_any (otherOk W) 181 #[.pointer (some ⟨N, 0, none⟩)] (fun _ _ => by kernel_rfl) l b (Q + 1) none w' hl hQ1 R hr
  have hon7 := (hon6.trans (must_on (l := l) (otherOk W) (s := ⟨Q + 1, none⟩) hQ1)).mono (d' := 1) (by omega)
  generalize must l (otherOk W) ⟨Q + 1, none⟩ = MV at hmon hon7 HRES
  obtain ⟨V, q7, bd7⟩ := MV
  simp only at hmon hon7 HRES
  refine wp_region_T 6 (fun w' : World => w'.cell? ⟨N, 0, none⟩ = some (.string ⟨W.toArray⟩)) (by kernel_rfl) ?_
  have hbd : Below w5.heap.size w5 w5.drew := (Below.refl _ _).drew
  have XB6 := XB5.keep hbd XB5.lt
  have NB6 := NB5.keep hbd
  have hR6 := hR5.keep hbd
  have hg6 := grown_belowB hg5 hbd
  generalize w5.drew = w6 at XB6 NB6 hR6 hg6 ⊢
  clear hbd XB5 NB5 hR5 hg5
  clear w5
  have HSd : Hid ((fun w' : World => w'.cell? ⟨N, 0, none⟩ = some (.string ⟨W.toArray⟩)) w6) := Lib.hid NB6.c
  refine wpT_take (i := 0) (v := ?_) rfl (by kernel_rfl) (by kernel_rfl) (by kernel_rfl) (by kernel_rfl) (fun _ _ _ h => h) (Or.inl ⟨by rfl, ?_⟩) HSd.out ?_
  rotate_left
  · (intro wq hSw; have z6 := hSw; go_simp; all_goals (first | (with_reducible rfl) | (rw [if_neg (by first | omega | (simp; omega) | (simp only [List.length_append, List.length_cons, List.length_nil]; omega))])))
  simp only [List.getElem_toArray, List.getElem_cons_succ, List.getElem_cons_zero, Act.put, List.setIfInBounds_toArray, List.set_cons_zero, List.set_cons_succ]
  refine wpT_take (i := 1) (v := ?_) rfl (by kernel_rfl) (by kernel_rfl) (by kernel_rfl) (by kernel_rfl) (fun _ _ _ h => h) (Or.inl ⟨by rfl, ?_⟩) HSd.out ?_
  rotate_left
  · (intro wq hSw; have z6 := hSw; go_simp; all_goals (first | (with_reducible rfl) | (rw [if_neg (by first | omega | (simp; omega) | (simp only [List.length_append, List.length_cons, List.length_nil]; omega))])))
  simp only [List.getElem_toArray, List.getElem_cons_succ, List.getElem_cons_zero, Act.put, List.setIfInBounds_toArray, List.set_cons_zero, List.set_cons_succ]
  refine wpT_take (i := 2) (v := ?_) rfl (by kernel_rfl) (by kernel_rfl) (by kernel_rfl) (by kernel_rfl) (fun _ _ _ h => h) (Or.inl ⟨by rfl, ?_⟩) HSd.out ?_
  rotate_left
  · (intro wq hSw; have z6 := hSw; go_simp; all_goals (first | (with_reducible rfl) | (rw [if_neg (by first | omega | (simp; omega) | (simp only [List.length_append, List.length_cons, List.length_nil]; omega))])))
  simp only [List.getElem_toArray, List.getElem_cons_succ, List.getElem_cons_zero, Act.put, List.setIfInBounds_toArray, List.set_cons_zero, List.set_cons_succ]
  refine wpT_two (i := 3) (j := 5) rfl rfl (by kernel_rfl) (fun K hK => ?_) (fun K hK => ?_)
  go_simp
  refine (hmon w6 hR6 (fun x w' hx hg => t1_any x W N w' (NB6.grown' hg (by omega)).c)).mono ?_
  rintro e w7 ⟨rfl, hg, hR7⟩
  have hg7 := grown_trans hg6 hg
  have XB7 := XB6.grown' hg (by omega)
  have NB7 := NB6.grown' hg (by omega)
  clear hg hR6 hg6 XB6 NB6 HSd hmon
  clear w6
  refine hK.out _ _ (fun _ => NB7.c) ?_
  clear hK K
  try simp only [List.getElem_toArray, List.getElem_cons_succ, List.getElem_cons_zero, Act.put, List.setIfInBounds_toArray, List.set_cons_zero, List.set_cons_succ]
  refine wpT_take (i := 4) (v := ?_) rfl (by kernel_rfl) (by kernel_rfl) (by kernel_rfl) (by kernel_rfl) (fun _ _ _ h => h) (Or.inl ⟨by rfl, ?_⟩) NB7.c ?_
  rotate_left
  · (intro wq hSw; go_simp; all_goals (first | (with_reducible rfl)))
  simp only [List.getElem_toArray, List.getElem_cons_succ, List.getElem_cons_zero, Act.put, List.setIfInBounds_toArray, List.set_cons_zero, List.set_cons_succ]
  refine wpT_one (i := 5) rfl (by kernel_rfl) fun K hK => ?_
  go_simp
  have hb8 : Below w7.heap.size w7 (w7.alloc (.cells #[.int .i64 0, .string ⟨#[]⟩, .string ⟨#[]⟩, .int .i64 0, .string ⟨#[]⟩, .slice none 0 0, .slice none 0 0] 42)) := (Below.refl _ _).alloc (Nat.le_refl _) _
  have GB8 := new_gbox w7 42
  have XB8 := XB7.keep hb8 XB7.lt
  have NB8 := NB7.keep hb8
  have hR8 := hR7.keep hb8
  have hg8 := grown_belowB hg7 hb8
  have hXG := XB7.lt
  have hbG0 := hR7.lt
  generalize w7.alloc (.cells #[.int .i64 0, .string ⟨#[]⟩, .string ⟨#[]⟩, .int .i64 0, .string ⟨#[]⟩, .slice none 0 0, .slice none 0 0] 42) = w8 at GB8 XB8 NB8 hR8 hg8 ⊢
  clear hb8 hR7 hg7 XB7 NB7
  generalize w7.heap.size = G at GB8 hXG hbG0 ⊢
  clear w7
  refine hK.out _ _ (fun _ => NB8.c) ?_
  clear hK K
  try simp only [List.getElem_toArray, List.getElem_cons_succ, List.getElem_cons_zero, Act.put, List.setIfInBounds_toArray, List.set_cons_zero, List.set_cons_succ]
  rotate_left
  go_simp
  have hb7 : Below w6.heap.size w6 (w6.alloc (.cells #[.int .i64 0, .string ⟨#[]⟩, .string ⟨#[]⟩, .int .i64 0, .string ⟨#[]⟩, .slice none 0 0, .slice none 0 0] 42)) := (Below.refl _ _).alloc (Nat.le_refl _) _
  have GB7 := new_gbox w6 42
  have XB7 := XB6.keep hb7 XB6.lt
  have NB7 := NB6.keep hb7
  have hR7 := hR6.keep hb7
  have hg7 := grown_belowB hg6 hb7
  have hXG := XB6.lt
  have hbG0 := hR6.lt
  generalize w6.alloc (.cells #[.int .i64 0, .string ⟨#[]⟩, .string ⟨#[]⟩, .int .i64 0, .string ⟨#[]⟩, .slice none 0 0, .slice none 0 0] 42) = w7 at GB7 XB7 NB7 hR7 hg7 ⊢
  clear hb7 hR6 hg6 XB6 NB6 HSd
  generalize w6.heap.size = G at GB7 hXG hbG0 ⊢
  clear w6
  refine hK.out _ _ (fun _ => NB7.c) ?_
  clear hK K
  try simp only [List.getElem_toArray, List.getElem_cons_succ, List.getElem_cons_zero, Act.put, List.setIfInBounds_toArray, List.set_cons_zero, List.set_cons_succ]
  refine wpT_one (i := 3) rfl (by kernel_rfl) fun K hK => ?_
  go_simp
  refine (hmon w7 hR7 (fun x w' hx hg => t1_any x W N w' (NB7.grown' hg (by omega)).c)).mono ?_
  rintro e w8 ⟨rfl, hg, hR8⟩
  have hg8 := grown_trans hg7 hg
  have XB8 := XB7.grown' hg (by omega)
  have NB8 := NB7.grown' hg (by omega)
  have GB8 := GB7.grown' hg (by omega)
  clear hg hR7 hg7 XB7 NB7 GB7 hmon
  clear w7
  refine hK.out _ _ (fun _ => NB8.c) ?_
  clear hK K
  try simp only [List.getElem_toArray, List.getElem_cons_succ, List.getElem_cons_zero, Act.put, List.setIfInBounds_toArray, List.set_cons_zero, List.set_cons_succ]
  refine wpT_take (i := 4) (v := ?_) rfl (by kernel_rfl) (by kernel_rfl) (by kernel_rfl) (by kernel_rfl) (fun _ _ _ h => h) (Or.inl ⟨by rfl, ?_⟩) NB8.c ?_
  rotate_left
  · (intro wq hSw; go_simp; all_goals (first | (with_reducible rfl)))
  simp only [List.getElem_toArray, List.getElem_cons_succ, List.getElem_cons_zero, Act.put, List.setIfInBounds_toArray, List.set_cons_zero, List.set_cons_succ]
  rotate_left
  all_goals
    obtain ⟨z0, z1, z2, z3, z4, z5, z6, z7, z8⟩ := id GB8
    refine wpT_one (i := 6) rfl (by kernel_rfl) fun K hK => ?_
    go_simp
    refine hK.out _ _ (fun h => absurd h (by decide)) ?_
    clear hK K
    try simp only [List.getElem_toArray, List.getElem_cons_succ, List.getElem_cons_zero, Act.put, List.setIfInBounds_toArray, List.set_cons_zero, List.set_cons_succ]
    refine wpT_done (by kernel_rfl) ?_
    have hGb : ¬ G = b := by omega
    have hbG : ¬ b = G := by omega
    have hGX : ¬ G = w.heap.size := by omega
    have hXGn : ¬ w.heap.size = G := by omega
    have GB9 := GB8.fill (.mk 0 W V 0 [] [] []) (.slice none 0 0) (.slice none 0 0)
    obtain ⟨f1, f2, f3, f4, f5⟩ := fill7_facts w8 G (.int .i64 0) (.string ⟨W.toArray⟩) (.string ⟨V.toArray⟩) (.int .i64 0) (.string ⟨#[]⟩) (.slice none 0 0) (.slice none 0 0)
    have XB9 := f1 XB8 hGX
    have hR9 := f5 hR8 hGb
    have hg9 := f3 hg8 (show w.heap.size ≤ G by omega)
    simp only [Gl.kind, Gl.frm, Gl.rcv, Gl.sort, Gl.name] at GB9
    clear f1 f2 f3 f4 f5 GB8 XB8 hR8 hg8 NB8
    generalize (((((((w8.setCell ⟨G, 0, none⟩ (.int .i64 0)).setCell ⟨G, 1, none⟩ (.string ⟨W.toArray⟩)).setCell ⟨G, 2, none⟩ (.string ⟨V.toArray⟩)).setCell ⟨G, 3, none⟩ (.int .i64 0)).setCell ⟨G, 4, none⟩ (.string ⟨#[]⟩)).setCell ⟨G, 5, none⟩ (.slice none 0 0)).setCell ⟨G, 6, none⟩ (.slice none 0 0)) = w9 at GB9 XB9 hR9 hg9 ⊢
    clear z0 z1 z2 z3 z4 z5 z6 z7 z8
    clear w8
    obtain ⟨r0, r1, r2, r3, r4, r5, r6⟩ := id hR9
    rcases bd7.eq_none_or_eq_some with rfl | ⟨qb, rfl⟩
    case' inl =>
      simp only [codeOf, placeOf] at r3 r4
      go_wp2_with fail
      refine (peek_any l b q7 none w9 hl hon7.2.1 hR9).mono ?_
      have hs2 := sk_le hon7.2.1
      simp only at hs2
      rintro e w10 ⟨rfl, hg, hR10⟩
      have hg10 := grown_trans hg9 hg
      have XB10 := XB9.grown' hg (by omega)
      have GB10 := GB9.grown' hg hGb
      clear hg hR9 hg9 XB9 GB9 r0 r1 r2 r3 r4 r5 r6
      clear w9
      have HRP := HRES
      clear HRES
      by_cases hpk : pk l (sk l q7) = [123]
      · replace HRP : Hid (gpickR l W V (gloopF l (gscanF l n) 7 ⟨sk l q7 + 1, none⟩ [] []) = RES) := Lib.hid (by rw [← HRP.out]; show _ = (if pk l (sk l q7) = [123] then _ else _); rw [if_pos hpk])
        obtain ⟨z0, z1, z2, z3, z4, z5, z6, z7, z8⟩ := id GB10
        obtain ⟨r0, r1, r2, r3, r4, r5, r6⟩ := id hR10
        have hq10 := at_lt ((pk_sign l (sk l q7) 123 (by decide)).1 hpk)
        have hps : p + 1 ≤ sk l q7 := by have h1 := (hon7.2.2 rfl).2; simp only at h1; omega
        rw [hpk]
        clear hpk
        generalize sk l q7 = q10 at hs2 hR10 hq10 HRP hps r1 ⊢
        go_wp2_with fail
        obtain ⟨hgA, hRA⟩ := s_on hg10 hR10 1
        rw [show ((1 : Nat) : Int) = 1 from rfl] at hgA hRA
        have XBA := XB10.far (p := ⟨b, 1, none⟩) hne2 (.int .i64 ((q10 : Int) + 1))
        have GBA := GB10.far (p := ⟨b, 1, none⟩) hbG (.int .i64 ((q10 : Int) + 1))
        have hR11 := hRA.far (a := ⟨G, 0, none⟩) hGb (.int .i64 6)
        have hg11 := grown_in (a := ⟨G, 0, none⟩) hgA (show w.heap.size ≤ G by omega) (.int .i64 6)
        have XB11 := XBA.far (p := ⟨G, 0, none⟩) hGX (.int .i64 6)
        have GB11 := GBA.set0 6
        simp only [Gl.kind, Gl.frm, Gl.rcv, Gl.sort, Gl.name, Gl.labels, Gl.kids] at GB11
        generalize (w10.setCell ⟨b, 1, none⟩ (.int .i64 ((q10 : Int) + 1))).setCell ⟨G, 0, none⟩ (.int .i64 6) = w11 at hR11 hg11 XB11 GB11 ⊢
        clear hgA hRA XBA GBA hR10 hg10 XB10 GB10 z0 z1 z2 z3 z4 z5 z6 z7 z8 r0 r1 r2 r3 r4 r5 r6
        clear w10
        have hon11 : On l 1 ⟨p, none⟩ ⟨q10 + 1, none⟩ := ⟨by show p ≤ q10 + 1; omega, hq10, fun _ => ⟨rfl, by show p + 1 ≤ q10 + 1; omega⟩⟩
        have rows11 : GRows w11 (G + 1) (.slice none 0 0) (.slice none 0 0) [] [] [] := GRows.new _ _
        go_loopg [] 7 (fun gk wr => ∃ (q : Nat) (ls : List Str) (ks : List Gl) (lv kv : Value) (xs : List Value), On l 1 ⟨p, none⟩ ⟨q, none⟩ ∧ ls.length + gk = 7 ∧ ls.length ≤ 6 ∧ ks.length = ls.length ∧ Hid (gpickR l W V (gloopF l (gscanF l n) gk ⟨q, none⟩ ls ks) = RES) ∧
          SBox wr b l ⟨q, none⟩ ∧ w.grownBy wr (some b) ∧ GBox wr w.heap.size zeroGl (.slice none 0 0) (.slice none 0 0) ∧ GBox wr G (.mk 6 W V 0 [] [] []) lv kv ∧ GRows wr (G + 1) lv kv ls ks xs)
        case atStart => exact ⟨q10 + 1, [], [], _, _, [], hon11, rfl, by simp, rfl, HRP, hR11, hg11, XB11, GB11, rows11⟩
        case round =>
          clear HRP hR11 hg11 XB11 GB11 rows11 hon11 hs2 hq10 hps
          obtain ⟨q, ls, ks, lv, kv, xs, hon4, hgk, hls6, hlen, HR, hR4, hg4, XB, GB, rows⟩ := hrel
          obtain ⟨g', rfl⟩ : ∃ g', gk = g' + 1 := ⟨gk - 1, by omega⟩
          have hk7 : ks.length ≤ 7 := by omega
          have HLEN := Lib.hid hlen; clear hlen
          obtain ⟨Al, cl, rfl⟩ := own_form rows.labels
          obtain ⟨Ak, ck, rfl⟩ := own_form rows.kids
          obtain ⟨c0, c1, c2, c3, c4, fr, lt⟩ := id hR4
          simp only [codeOf, placeOf] at c3 c4
          have HR1 : Hid (gpickR l W V (gstepR l (gscanF l n) g' ls ks (must l (labelOk ls) ⟨q, none⟩).1 (gscanF l n (must l (isW [58]) (must l (labelOk ls) ⟨q, none⟩).2).2).1 (gscanF l n (must l (isW [58]) (must l (labelOk ls) ⟨q, none⟩).2).2).2) = RES) := Lib.hid (by rw [← HR.out, gloopF_succ])
          clear HR
          go_wp2_with fail
          refine wp_region_T 8 (fun w' : World => w'.cell? ⟨G, 5, none⟩ = some (.slice Al ls.length cl)) (by kernel_rfl) ?_
          have hbd : Below wr.heap.size wr wr.drew := (Below.refl _ _).drew
          have hRd := hR4.keep hbd
          have hgd := grown_belowB hg4 hbd
          have XBd := XB.keep hbd XB.lt
          have GBd := GB.keep hbd GB.lt
          have rowsd := rows.below hbd
          generalize wr.drew = wd' at hRd hgd XBd GBd rowsd ⊢
          clear hbd hR4 hg4 XB GB rows c0 c1 c2 c3 c4 fr lt
          clear wr
          have hR4 := hRd
          clear hRd
          have hg4 := hgd
          clear hgd
          have XB := XBd
          clear XBd
          have GB := GBd
          clear GBd
          have rows := rowsd
          clear rowsd
          obtain ⟨wr, rfl⟩ : ∃ x, x = wd' := ⟨_, rfl⟩
          have HSd : Hid ((fun w' : World => w'.cell? ⟨G, 5, none⟩ = some (.slice Al ls.length cl)) wr) := Lib.hid GB.c5
          refine wpT_take (i := 0) (v := ?_) rfl (by kernel_rfl) (by kernel_rfl) (by kernel_rfl) (by kernel_rfl) (fun _ _ _ h => h) (Or.inl ⟨by rfl, ?_⟩) HSd.out ?_
          rotate_left
          · (intro wq hSw; have z6 := hSw; go_simp; all_goals (first | (with_reducible rfl) | (rw [if_neg (by first | omega | (simp; omega) | (simp only [List.length_append, List.length_cons, List.length_nil]; omega))])))
          simp only [List.getElem_toArray, List.getElem_cons_succ, List.getElem_cons_zero, Act.put, List.setIfInBounds_toArray, List.set_cons_zero, List.set_cons_succ]
          refine wpT_take (i := 1) (v := ?_) rfl (by kernel_rfl) (by kernel_rfl) (by kernel_rfl) (by kernel_rfl) (fun _ _ _ h => h) (Or.inl ⟨by rfl, ?_⟩) HSd.out ?_
          rotate_left
          · (intro wq hSw; have z6 := hSw; go_simp; all_goals (first | (with_reducible rfl) | (rw [if_neg (by first | omega | (simp; omega) | (simp only [List.length_append, List.length_cons, List.length_nil]; omega))])))
          simp only [List.getElem_toArray, List.getElem_cons_succ, List.getElem_cons_zero, Act.put, List.setIfInBounds_toArray, List.set_cons_zero, List.set_cons_succ]
          refine wpT_take (i := 2) (v := ?_) rfl (by kernel_rfl) (by kernel_rfl) (by kernel_rfl) (by kernel_rfl) (fun _ _ _ h => h) (Or.inl ⟨by rfl, ?_⟩) HSd.out ?_
          rotate_left
          · (intro wq hSw; have z6 := hSw; go_simp; all_goals (first | (with_reducible rfl) | (rw [if_neg (by first | omega | (simp; omega) | (simp only [List.length_append, List.length_cons, List.length_nil]; omega))])))
          simp only [List.getElem_toArray, List.getElem_cons_succ, List.getElem_cons_zero, Act.put, List.setIfInBounds_toArray, List.set_cons_zero, List.set_cons_succ]
          refine wpT_take (i := 3) (v := ?_) rfl (by kernel_rfl) (by kernel_rfl) (by kernel_rfl) (by kernel_rfl) (fun _ _ _ h => h) (Or.inl ⟨by rfl, ?_⟩) HSd.out ?_
          rotate_left
          · (intro wq hSw; have z6 := hSw; go_simp; all_goals (first | (with_reducible rfl) | (rw [if_neg (by first | omega | (simp; omega) | (simp only [List.length_append, List.length_cons, List.length_nil]; omega))])))
          simp only [List.getElem_toArray, List.getElem_cons_succ, List.getElem_cons_zero, Act.put, List.setIfInBounds_toArray, List.set_cons_zero, List.set_cons_succ]
          refine wpT_take (i := 4) (v := ?_) rfl (by kernel_rfl) (by kernel_rfl) (by kernel_rfl) (by kernel_rfl) (fun _ _ _ h => h) (Or.inl ⟨by rfl, ?_⟩) HSd.out ?_
          rotate_left
          · (intro wq hSw; have z6 := hSw; go_simp; all_goals (first | (with_reducible rfl) | (rw [if_neg (by first | omega | (simp; omega) | (simp only [List.length_append, List.length_cons, List.length_nil]; omega))])))
          simp only [List.getElem_toArray, List.getElem_cons_succ, List.getElem_cons_zero, Act.put, List.setIfInBounds_toArray, List.set_cons_zero, List.set_cons_succ]
          refine wpT_one (i := 5) rfl (by kernel_rfl) fun K hK => ?_
          go_simp
          have hlab := rows.strs (D := (· ≠ b)) (fun k hk => by omega)
          refine (label_any ls (.slice Al ls.length cl) l b q none wr hl hon4.2.1 hR4 hlab (by omega)).mono ?_
          have hon6 := (hon4.trans (must_on (l := l) (labelOk ls) (s := ⟨q, none⟩) hon4.2.1)).mono (d' := 1) (by omega)
          have hok6 := must_ok (l := l) (right := labelOk ls) (s := ⟨q, none⟩)
          generalize must l (labelOk ls) ⟨q, none⟩ = M6 at *
          obtain ⟨lb, q6, bd6⟩ := M6
          rintro e w5 ⟨rfl, hg, hR5⟩
          have hg5 := grown_trans hg4 hg
          replace XB := XB.grown' hg (by omega)
          replace GB := GB.grown' hg hGb
          replace rows := rows.at hg (by omega)
          refine hK.out _ _ (fun _ => GB.c5) ?_
          clear hK K hg hlab hR4 hg4 HSd
          try simp only [List.getElem_toArray, List.getElem_cons_succ, List.getElem_cons_zero, Act.put, List.setIfInBounds_toArray, List.set_cons_zero, List.set_cons_succ]
          refine wpT_one (i := 6) rfl (by kernel_rfl) fun K hK => ?_
          go_simp
          have hba : Below w5.heap.size w5 (w5.alloc (.cells #[.string ⟨lb.toArray⟩] 9)) := (Below.refl _ _).alloc (Nat.le_refl _) _
          have hca : (w5.alloc (.cells #[.string ⟨lb.toArray⟩] 9)).cell? ⟨w5.heap.size, 0, none⟩ = some (.string ⟨lb.toArray⟩) := by simp [go_sem]
          have hza : w5.heap.size < (w5.alloc (.cells #[.string ⟨lb.toArray⟩] 9)).heap.size := by simp
          have rowsA := rows.below hba
          have hT5 := GB.lt
          refine hK.out _ _ (fun _ => cell_keep GB.c5 hba) ?_
          clear hK K rows
          try simp only [List.getElem_toArray, List.getElem_cons_succ, List.getElem_cons_zero, Act.put, List.setIfInBounds_toArray, List.set_cons_zero, List.set_cons_succ]
          refine wpT_one (i := 7) rfl (by kernel_rfl) fun K hK => ?_
          refine step_app rt_strs rfl (.tmp 91) (.tmp 96) rfl (G + 1) _ ls.length (strVals ls) rfl rowsA.labels ⟨w5.heap.size, 0, none⟩ 1 1 [.string ⟨lb.toArray⟩] rfl rfl (fun j u hj => ?_) (by simp [Value.oneCell']) (by unfold maxLen; omega) (by omega) (by omega) (fun v' w9 k1 k2 k3 k4 => ?_)
          · match j, hj with
            | 0, hj => simp at hj; subst hj; exact hca
            | j + 1, hj => simp at hj
          have rows9 := rowsA.label k1 k2 k3
          have hb59 : Below (G + 1) w5 w9 := (hba.mono (by omega)).trans k4
          obtain ⟨Av, cv, rfl⟩ := own_form k1
          clear k1 k2 k3 k4 hca hza rowsA hba
          have hR9 := hR5.keepB hb59 (by omega)
          have hg9 := grown_belowT hg5 hb59 (by omega)
          have XB9 := XB.keep hb59 (by omega)
          have GB9 := GB.keep hb59 (by omega)
          refine hK.out _ _ (fun _ => GB9.c5) ?_
          clear hK K hb59 hR5 hg5 XB GB hT5
          try simp only [List.getElem_toArray, List.getElem_cons_succ, List.getElem_cons_zero, Act.put, List.setIfInBounds_toArray, List.set_cons_zero, List.set_cons_succ]
          obtain ⟨z0, z1, z2, z3, z4, z5, z6, z7, z8⟩ := id GB9
          refine wpT_one (i := 8) rfl (by kernel_rfl) fun K hK => ?_
          go_simp
          refine hK.out _ _ (fun h => absurd h (by decide)) ?_
          clear hK K
          try simp only [List.getElem_toArray, List.getElem_cons_succ, List.getElem_cons_zero, Act.put, List.setIfInBounds_toArray, List.set_cons_zero, List.set_cons_succ]
          refine wpT_one (i := 9) rfl (by kernel_rfl) fun K hK => ?_
          go_simp
          refine hK.out _ _ (fun h => absurd h (by decide)) ?_
          clear hK K
          try simp only [List.getElem_toArray, List.getElem_cons_succ, List.getElem_cons_zero, Act.put, List.setIfInBounds_toArray, List.set_cons_zero, List.set_cons_succ]
          refine wpT_done (by kernel_rfl) ?_
          have GB6 := GB9.put5 (.slice Av (ls.length + 1) cv)
          have rows6 := rows9.set (a := ⟨G, 5, none⟩) (show G < G + 1 by omega) (.slice Av (ls.length + 1) cv)
          have hR6 := hR9.far (a := ⟨G, 5, none⟩) hGb (.slice Av (ls.length + 1) cv)
          have XB6 := XB9.far (p := ⟨G, 5, none⟩) hGX (.slice Av (ls.length + 1) cv)
          have hg6 := grown_in (a := ⟨G, 5, none⟩) hg9 (show w.heap.size ≤ G by omega) (.slice Av (ls.length + 1) cv)
          generalize w9.setCell ⟨G, 5, none⟩ (.slice Av (ls.length + 1) cv) = w6 at GB6 rows6 hR6 XB6 hg6 ⊢
          clear GB9 rows9 hR9 XB9 hg9 z0 z1 z2 z3 z4 z5 z6 z7 z8
          clear w9
          go_wp2_with fail
          have hch1 := must_on (l := l) (isW [58]) (s := ⟨q6, bd6⟩) hon6.2.1
          refine (Is_any [58] w6).mono ?_
          rintro e wi ⟨rfl, hwi⟩
          have hbi : Below w6.heap.size w6 wi := by rw [hwi]; exact (Below.refl _ _).alloc (Nat.le_refl _) _
          have hci : wi.cell? ⟨w6.heap.size, 0, none⟩ = some (.string ⟨([58] : Str).toArray⟩) := by rw [hwi]; exact is_cell _ _ _
          have hNi : w6.heap.size ≠ b := by have := hR6.lt; omega
          have hRi := hR6.keep hbi
          have hgi := grown_belowB hg6 hbi
          have XBi := XB6.keep hbi XB6.lt
          have GBi := GB6.keep hbi GB6.lt
          have rowsi := rows6.below hbi
          clear hwi hR6 hg6 XB6 GB6
          generalize w6.heap.size = NI at hci hNi ⊢
          go_wp2_with fail
          refine (must_is [58] NI l b q6 bd6 wi hl hon6.2.1 hRi hNi hci).mono ?_
          have hon7 := (hon6.trans (must_on (l := l) (isW [58]) (s := ⟨q6, bd6⟩) hon6.2.1)).mono (d' := 1) (by omega)
          generalize must l (isW [58]) ⟨q6, bd6⟩ = M7 at *
          obtain ⟨y7, q7, bd7⟩ := M7
          rintro e w7 ⟨rfl, hg, hR7⟩
          have hg7 := grown_trans hgi hg
          have XB7 := XBi.grown' hg (by omega)
          have GB7 := GBi.grown' hg (by omega)
          have rows7 := rowsi.at hg (by omega)
          clear rows6 rowsi
          clear hg hRi hgi hci hNi hbi XBi GBi
          go_wp2_with fail
          refine wp_region_T 6 (fun w' : World => w'.cell? ⟨G, 6, none⟩ = some (.slice Ak ks.length ck)) (by kernel_rfl) ?_
          have hbd : Below w7.heap.size w7 w7.drew := (Below.refl _ _).drew
          have hR8 := hR7.keep hbd
          have hg8 := grown_belowB hg7 hbd
          have XB8 := XB7.keep hbd XB7.lt
          have GB8 := GB7.keep hbd GB7.lt
          have rows8 := rows7.below hbd
          generalize w7.drew = w8 at hR8 hg8 XB8 GB8 rows8 ⊢
          clear hbd hR7 hg7 XB7 GB7 rows7
          clear w7
          have HSd : Hid ((fun w' : World => w'.cell? ⟨G, 6, none⟩ = some (.slice Ak ks.length ck)) w8) := Lib.hid GB8.c6
          refine wpT_take (i := 0) (v := ?_) rfl (by kernel_rfl) (by kernel_rfl) (by kernel_rfl) (by kernel_rfl) (fun _ _ _ h => h) (Or.inl ⟨by rfl, ?_⟩) HSd.out ?_
          rotate_left
          · (intro wq hSw; have z6 := hSw; go_simp; all_goals (first | (with_reducible rfl) | (rw [if_neg (by first | omega | (simp; omega) | (simp only [List.length_append, List.length_cons, List.length_nil]; omega))])))
          simp only [List.getElem_toArray, List.getElem_cons_succ, List.getElem_cons_zero, Act.put, List.setIfInBounds_toArray, List.set_cons_zero, List.set_cons_succ]
          refine wpT_take (i := 1) (v := ?_) rfl (by kernel_rfl) (by kernel_rfl) (by kernel_rfl) (by kernel_rfl) (fun _ _ _ h => h) (Or.inl ⟨by rfl, ?_⟩) HSd.out ?_
          rotate_left
          · (intro wq hSw; have z6 := hSw; go_simp; all_goals (first | (with_reducible rfl) | (rw [if_neg (by first | omega | (simp; omega) | (simp only [List.length_append, List.length_cons, List.length_nil]; omega))])))
          simp only [List.getElem_toArray, List.getElem_cons_succ, List.getElem_cons_zero, Act.put, List.setIfInBounds_toArray, List.set_cons_zero, List.set_cons_succ]
          refine wpT_take (i := 2) (v := ?_) rfl (by kernel_rfl) (by kernel_rfl) (by kernel_rfl) (by kernel_rfl) (fun _ _ _ h => h) (Or.inl ⟨by rfl, ?_⟩) HSd.out ?_
          rotate_left
          · (intro wq hSw; have z6 := hSw; go_simp; all_goals (first | (with_reducible rfl) | (rw [if_neg (by first | omega | (simp; omega) | (simp only [List.length_append, List.length_cons, List.length_nil]; omega))])))
          simp only [List.getElem_toArray, List.getElem_cons_succ, List.getElem_cons_zero, Act.put, List.setIfInBounds_toArray, List.set_cons_zero, List.set_cons_succ]
          refine wpT_one (i := 3) rfl (by kernel_rfl) fun K hK => ?_
          go_simp
          refine (ih ⟨q7, bd7⟩ w8 hon7.2.1 (fun h => by have h1 : p + 1 ≤ q7 := (hon7.2.2 h).2; show l.length < n + q7; omega) hR8).mono ?_
          have hch2 := gscan_on (l := l) n ⟨q7, bd7⟩ hon7.2.1
          have hon8 := (hon7.trans hch2).mono (d' := 1) (by omega)
          generalize gscanF l n ⟨q7, bd7⟩ = TT at *
          obtain ⟨t, q8, bd8⟩ := TT
          rintro e wk ⟨hg, v, rfl, hTt, hRk⟩
          have hgk' := grown_trans hg8 hg
          have XBk := XB8.grown' hg (by omega)
          have GBk := GB8.grown' hg hGb
          have hlab9 := fun k e => (rows8.labels.lt k e).2
          have hkid9 := fun k e => (rows8.kids.lt k e).2
          have hT9 := GBk.lt
          have hT7 : G < w8.heap.size := GB8.lt
          have rowsk := rows8.at hg (by omega)
          replace hTt : GlV (fun k => w8.heap.size ≤ k) wk v t := hTt
          simp only at hRk
          obtain ⟨lv2, kv2, rfl, m1, m2⟩ := hTt
          have hdis : ∀ k, w8.heap.size ≤ k → G + 1 ≤ k ∧ (Value.slice Av (ls.length + 1) cv).ownBlock ≠ some k ∧ (Value.slice Ak ks.length ck).ownBlock ≠ some k := fun k hk => ⟨by omega, fun e => by have := hlab9 k e; omega, fun e => by have := hkid9 k e; omega⟩
          have M1 := Lib.hid (m1.keep (D' := fun k => G + 1 ≤ k ∧ (Value.slice Av (ls.length + 1) cv).ownBlock ≠ some k ∧ (Value.slice Ak ks.length ck).ownBlock ≠ some k) (fun _ _ _ => rfl) (fun k hk _ => hdis k hk))
          have M2 := Lib.hid (m2.keep (D' := fun k => G + 1 ≤ k ∧ (Value.slice Av (ls.length + 1) cv).ownBlock ≠ some k ∧ (Value.slice Ak ks.length ck).ownBlock ≠ some k) (fun _ _ _ => rfl) (fun k hk _ => hdis k hk))
          clear hdis hlab9 hkid9 hT7
          obtain ⟨A1, c1, rfl, -, -⟩ := m1
          obtain ⟨A2, c2, rfl, -, -⟩ := m2
          refine hK.out _ _ (fun _ => GBk.c6) ?_
          clear hK K hg hR8 hg8 XB8 GB8 rows8 HSd
          try simp only [List.getElem_toArray, List.getElem_cons_succ, List.getElem_cons_zero, Act.put, List.setIfInBounds_toArray, List.set_cons_zero, List.set_cons_succ]
          refine wpT_one (i := 4) rfl (by kernel_rfl) fun K hK => ?_
          go_simp
          have hb11 : Below wk.heap.size wk (wk.alloc (.cells #[.int .i64 t.kind, .string ⟨t.frm.toArray⟩, .string ⟨t.rcv.toArray⟩, .int .i64 t.sort, .string ⟨t.name.toArray⟩, .slice A1 t.labels.length c1, .slice A2 t.kids.length c2] 42)) := (Below.refl _ _).alloc (Nat.le_refl _) _
          have hz11 : wk.heap.size < (wk.alloc (.cells #[.int .i64 t.kind, .string ⟨t.frm.toArray⟩, .string ⟨t.rcv.toArray⟩, .int .i64 t.sort, .string ⟨t.name.toArray⟩, .slice A1 t.labels.length c1, .slice A2 t.kids.length c2] 42)).heap.size := by simp
          have rows11 := rowsk.below hb11
          have HC11 : Hid (Cells7 (fun k => G + 1 ≤ k ∧ (Value.slice Av (ls.length + 1) cv).ownBlock ≠ some k ∧ (Value.slice Ak ks.length ck).ownBlock ≠ some k) (wk.alloc (.cells #[.int .i64 t.kind, .string ⟨t.frm.toArray⟩, .string ⟨t.rcv.toArray⟩, .int .i64 t.sort, .string ⟨t.name.toArray⟩, .slice A1 t.labels.length c1, .slice A2 t.kids.length c2] 42)) [.int .i64 t.kind, .string ⟨t.frm.toArray⟩, .string ⟨t.rcv.toArray⟩, .int .i64 t.sort, .string ⟨t.name.toArray⟩, .slice A1 t.labels.length c1, .slice A2 t.kids.length c2] [t]) := Lib.hid (.cons t _ _ [] [] (M1.out.keep (Same.below hb11) (fun _ h _ => h)) (M2.out.keep (Same.below hb11) (fun _ h _ => h)) .nil)
          refine hK.out _ _ (fun _ => cell_keep GBk.c6 hb11) ?_
          clear hK K rowsk M1 M2
          try simp only [List.getElem_toArray, List.getElem_cons_succ, List.getElem_cons_zero, Act.put, List.setIfInBounds_toArray, List.set_cons_zero, List.set_cons_succ]
          refine wpT_one (i := 5) rfl (by kernel_rfl) fun K hK => ?_
          refine step_app rt_gls rfl (.tmp 103) (.tmp 106) rfl (G + 1) _ ks.length xs rfl rows11.kids ⟨wk.heap.size, 0, none⟩ 1 1 [.int .i64 t.kind, .string ⟨t.frm.toArray⟩, .string ⟨t.rcv.toArray⟩, .int .i64 t.sort, .string ⟨t.name.toArray⟩, .slice A1 t.labels.length c1, .slice A2 t.kids.length c2] rfl rfl (seven_new _ _ _ _ _ _ _ _ _) (by simp [Value.oneCell']) (by unfold maxLen; omega) (by omega) (by omega) (fun v' w12 k1 k2 k3 k4 => ?_)
          have rows12 := rows11.kid HC11.out k1 k2 k3
          have hb12 : Below (G + 1) wk w12 := (hb11.mono (by omega)).trans k4
          obtain ⟨Ax, cx, rfl⟩ := own_form k1
          clear k1 k2 k3 k4 HC11 rows11 hb11 hz11
          have hR12 := hRk.keepB hb12 (by omega)
          have hg12 := grown_belowT hgk' hb12 (by omega)
          have XB12 := XBk.keep hb12 (by omega)
          have GB12 := GBk.keep hb12 (by omega)
          refine hK.out _ _ (fun _ => GB12.c6) ?_
          clear hK K hb12 hRk hgk' XBk GBk hT9
          try simp only [List.getElem_toArray, List.getElem_cons_succ, List.getElem_cons_zero, Act.put, List.setIfInBounds_toArray, List.set_cons_zero, List.set_cons_succ]
          obtain ⟨z0, z1, z2, z3, z4, z5, z6, z7, z8⟩ := id GB12
          refine wpT_one (i := 6) rfl (by kernel_rfl) fun K hK => ?_
          go_simp
          refine hK.out _ _ (fun h => absurd h (by decide)) ?_
          clear hK K
          try simp only [List.getElem_toArray, List.getElem_cons_succ, List.getElem_cons_zero, Act.put, List.setIfInBounds_toArray, List.set_cons_zero, List.set_cons_succ]
          refine wpT_one (i := 7) rfl (by kernel_rfl) fun K hK => ?_
          go_simp
          refine hK.out _ _ (fun h => absurd h (by decide)) ?_
          clear hK K
          try simp only [List.getElem_toArray, List.getElem_cons_succ, List.getElem_cons_zero, Act.put, List.setIfInBounds_toArray, List.set_cons_zero, List.set_cons_succ]
          refine wpT_done (by kernel_rfl) ?_
          have GB13 := GB12.put6 (.slice Ax (ks.length + 1) cx)
          have rows13 := rows12.set (a := ⟨G, 6, none⟩) (show G < G + 1 by omega) (.slice Ax (ks.length + 1) cx)
          have hR13 := hR12.far (a := ⟨G, 6, none⟩) hGb (.slice Ax (ks.length + 1) cx)
          have XB13 := XB12.far (p := ⟨G, 6, none⟩) hGX (.slice Ax (ks.length + 1) cx)
          have hg13 := grown_in (a := ⟨G, 6, none⟩) hg12 (show w.heap.size ≤ G by omega) (.slice Ax (ks.length + 1) cx)
          generalize w12.setCell ⟨G, 6, none⟩ (.slice Ax (ks.length + 1) cx) = w13 at GB13 rows13 hR13 XB13 hg13 ⊢
          clear GB12 rows12 hR12 XB12 hg12 z0 z1 z2 z3 z4 z5 z6 z7 z8
          clear w12
          have el1 : (ls ++ [lb]).length = ls.length + 1 := by simp
          have el2 : (ks ++ [t]).length = ks.length + 1 := by simp
          obtain ⟨c0, c1', c2', c3, c4, fr, lt⟩ := id hR13
          simp only [codeOf, placeOf] at c3 c4
          rcases bd8.eq_none_or_eq_some with rfl | ⟨qb, rfl⟩
          case' inr =>
            simp only at c3 c4
            go_wp2_with fail
            have hon14 := hon8
            have HRE : Hid ((Gl.mk 6 W V 0 [] (ls ++ [lb]) (ks ++ [t]), (must l (isW [125]) ⟨q8, some qb⟩).2) = RES) := Lib.hid HR1.out
            have hR14 := hR13
            clear hR13
            have hg14 := hg13
            clear hg13
            have XB14 := XB13
            clear XB13
            have GB14 := GB13
            clear GB13
            have rows14 := rows13
            clear rows13
            obtain ⟨w14, rfl⟩ : ∃ x, x = w13 := ⟨_, rfl⟩
            obtain ⟨q14, rfl⟩ : ∃ x, x = q8 := ⟨_, rfl⟩
            obtain ⟨bd14, hon14, HRE, hR14⟩ : ∃ bd : Option Nat, On l 1 ⟨p, none⟩ ⟨q14, bd⟩ ∧ Hid ((Gl.mk 6 W V 0 [] (ls ++ [lb]) (ks ++ [t]), (must l (isW [125]) ⟨q14, bd⟩).2) = RES) ∧ SBox w14 b l ⟨q14, bd⟩ := ⟨some qb, hon14, HRE, hR14⟩
          case' inl =>
            simp only at c3 c4
            go_wp2_with fail
            refine (peek_any l b q8 none w13 hl hon8.2.1 hR13).mono ?_
            have hs8 := sk_le hon8.2.1
            simp only at hs8
            rintro e w14 ⟨rfl, hg, hR14⟩
            have hg14 := grown_trans hg13 hg
            have XB14 := XB13.grown' hg (by omega)
            have GB14 := GB13.grown' hg hGb
            have rows14 := rows13.at hg (by omega)
            clear hg hR13 hg13 XB13 GB13 rows13 c0 c1' c2' c3 c4 fr lt
            clear w13
            have hps8 : p + 1 ≤ sk l q8 := by have h1 := (hon8.2.2 rfl).2; simp only at h1; omega
            by_cases hpc : pk l (sk l q8) = [44]
            · have hlt8 := at_lt ((pk_sign l (sk l q8) 44 (by decide)).1 hpc)
              have h6' : (ls ++ [lb]).length ≤ 6 := by
                have k7 := (hch2.2.2 rfl).1
                have k6 := (hch1.2.2 k7).1
                have := hok6 k6
                simp only [labelOk, Bool.and_eq_true, decide_eq_true_eq] at this
                omega
              have HR2 : Hid (gpickR l W V (gloopF l (gscanF l n) g' ⟨sk l q8 + 1, none⟩ (ls ++ [lb]) (ks ++ [t])) = RES) := Lib.hid (by rw [← HR1.out]; show gpickR l W V _ = gpickR l W V (if pk l (sk l q8) = [44] then _ else _); rw [if_pos hpc])
              rw [hpc]
              have hlen' : (ks ++ [t]).length = (ls ++ [lb]).length := by rw [el1, el2, HLEN.out]
              have hgk2 : (ls ++ [lb]).length + g' = 7 := by omega
              have H6 := Lib.hid h6'; have HL2 := Lib.hid hlen'; have HG2 := Lib.hid hgk2
              clear h6' hlen' hgk2 el1 el2 hpc
              generalize sk l q8 = q14 at hs8 hR14 hlt8 HR2 hps8 ⊢
              obtain ⟨r0, r1, r2, r3, r4, r5, r6⟩ := id hR14
              go_wp2_with fail
              obtain ⟨hg15, hR15⟩ := s_on hg14 hR14 1
              rw [show ((1 : Nat) : Int) = 1 from rfl] at hg15 hR15
              have XB15 := XB14.far (p := ⟨b, 1, none⟩) hne2 (.int .i64 ((q14 : Int) + 1))
              have GB15 := GB14.far (p := ⟨b, 1, none⟩) hbG (.int .i64 ((q14 : Int) + 1))
              have rows15 := rows14.set (a := ⟨b, 1, none⟩) (show b < G + 1 by omega) (.int .i64 ((q14 : Int) + 1))
              generalize w14.setCell ⟨b, 1, none⟩ (.int .i64 ((q14 : Int) + 1)) = w15 at hR15 hg15 XB15 GB15 rows15 ⊢
              go_roundg g'
              case measure => omega
              case rel => exact ⟨q14 + 1, ls ++ [lb], ks ++ [t], _, _, _, ⟨by show p ≤ q14 + 1; omega, hlt8, fun _ => ⟨rfl, by show p + 1 ≤ q14 + 1; omega⟩⟩, HG2.out, H6.out, HL2.out, HR2, hR15, hg15, XB15, GB15, rows15⟩
            have HRE : Hid ((Gl.mk 6 W V 0 [] (ls ++ [lb]) (ks ++ [t]), (must l (isW [125]) ⟨sk l q8, none⟩).2) = RES) := Lib.hid (by rw [← HR1.out]; show _ = gpickR l W V (if pk l (sk l q8) = [44] then _ else _); rw [if_neg hpc]; rfl)
            have hpe : (pk l (sk l q8) == [44]) = false := by simpa using hpc
            have hon14 : On l 1 ⟨p, none⟩ ⟨sk l q8, none⟩ := ⟨by show p ≤ sk l q8; omega, hs8.2, fun _ => ⟨rfl, hps8⟩⟩
            go_wp2_with fail
            generalize sk l q8 = q14 at *
            obtain ⟨bd14, hon14, HRE, hR14⟩ : ∃ bd : Option Nat, On l 1 ⟨p, none⟩ ⟨q14, bd⟩ ∧ Hid ((Gl.mk 6 W V 0 [] (ls ++ [lb]) (ks ++ [t]), (must l (isW [125]) ⟨q14, bd⟩).2) = RES) ∧ SBox w14 b l ⟨q14, bd⟩ := ⟨none, hon14, HRE, hR14⟩
          all_goals
            refine (Is_any [125] w14).mono ?_
            rintro e wi ⟨rfl, hwi⟩
            have hbi : Below w14.heap.size w14 wi := by rw [hwi]; exact (Below.refl _ _).alloc (Nat.le_refl _) _
            have hci : wi.cell? ⟨w14.heap.size, 0, none⟩ = some (.string ⟨([125] : Str).toArray⟩) := by rw [hwi]; exact is_cell _ _ _
            have hNi : w14.heap.size ≠ b := by have := hR14.lt; omega
            have hRi := hR14.keep hbi
            have hgi := grown_belowB hg14 hbi
            have XBi := XB14.keep hbi XB14.lt
            have GBi := GB14.keep hbi GB14.lt
            have rowsi := rows14.below hbi
            clear hwi hR14 hg14 XB14 GB14
            generalize w14.heap.size = NI at hci hNi ⊢
            go_wp2_with fail
            refine (must_is [125] NI l b q14 bd14 wi hl hon14.2.1 hRi hNi hci).mono ?_
            have hon15 := (hon14.trans (must_on (l := l) (isW [125]) (s := ⟨q14, bd14⟩) hon14.2.1)).mono (d' := 1) (by omega)
            generalize must l (isW [125]) ⟨q14, bd14⟩ = M15 at *
            obtain ⟨y15, q15, bd15⟩ := M15
            rintro e w15 ⟨rfl, hg, hR15⟩
            have hg15 := grown_trans hgi hg
            have XB15 := XBi.grown' hg (by omega)
            have GB15 := GBi.grown' hg (by omega)
            have rows15 := rowsi.at hg (by omega)
            clear rows14 rowsi
            clear hg hRi hgi hci hNi hbi XBi GBi
            obtain ⟨z0, z1, z2, z3, z4, z5, z6, z7, z8⟩ := id GB15
            obtain ⟨x0, x1, x2, x3, x4, x5, x6, x7, x8⟩ := id XB15
            simp only [Gl.kind, Gl.frm, Gl.rcv, Gl.sort, Gl.name] at z0 z1 z2 z3 z4
            rename_i K1 h1 HREx honx K0 h0
            have H1 := Lib.hid h1
            clear h1
            go_wp2_with fail
            refine H1.out _ _ ?_
            clear H1
            go_step
            rename_i K2 h2
            have H2 := Lib.hid h2
            clear h2
            go_wp2_with fail
            obtain ⟨hF, hgF, hRF, hT⟩ := gfinishS hbw (Nat.le_refl _) hg15 hR15 XB15 6 W V 0 [] (ls ++ [lb]) (ks ++ [t]) (.slice Av (ls.length + 1) cv) (.slice Ax (ks.length + 1) cx) (rows15.strs (fun k hk => ⟨by omega, by omega⟩)) (rows15.gls (fun k hk => ⟨by omega, by omega⟩))
            generalize (((((((w15.setCell ⟨w.heap.size, 0, none⟩ (.int .i64 6)).setCell ⟨w.heap.size, 1, none⟩ (.string ⟨W.toArray⟩)).setCell ⟨w.heap.size, 2, none⟩ (.string ⟨V.toArray⟩)).setCell ⟨w.heap.size, 3, none⟩ (.int .i64 0)).setCell ⟨w.heap.size, 4, none⟩ (.string ⟨#[]⟩)).setCell ⟨w.heap.size, 5, none⟩ (.slice Av (ls.length + 1) cv)).setCell ⟨w.heap.size, 6, none⟩ (.slice Ax (ks.length + 1) cx)) = wF at hF hgF hRF hT ⊢
            obtain ⟨d0, d1, d2, d3, d4, d5, d6, d7, d8⟩ := hF
            clear z0 z1 z2 z3 z4 z5 z6 z7 z8 x0 x1 x2 x3 x4 x5 x6 x7 x8
            clear rows15 GB15 XB15 hR15 hg15 el1 el2
            refine H2.out _ _ ?_
            clear H2
            refine wp_ret ?_
            refine bodyPost_ret (v := .agg #[.int .i64 6, .string ⟨W.toArray⟩, .string ⟨V.toArray⟩, .int .i64 0, .string ⟨#[]⟩, .slice Av (ls.length + 1) cv, .slice Ax (ks.length + 1) cx]) (by simp [results, Tryd.results99, go_sem, d0, d1, d2, d3, d4, d5, d6, Gl.kind, Gl.frm, Gl.rcv, Gl.sort, Gl.name]) rfl ?_
            rw [← HRE.out]
            exact ⟨hgF, _, rfl, hT, hRF⟩
      replace HRP : Hid (gscanSend l (gscanF l n) W V ⟨sk l q7, none⟩ = RES) := Lib.hid (by rw [← HRP.out]; show _ = (if pk l (sk l q7) = [123] then _ else _); rw [if_neg hpk])
      have hpe : (pk l (sk l q7) == [123]) = false := by simpa using hpk
      have hon10 : On l 1 ⟨p, none⟩ ⟨sk l q7, none⟩ := ⟨by have := hon7.1; simp only at this; show p ≤ sk l q7; omega, hs2.2, fun _ => ⟨rfl, by have h1 := (hon7.2.2 rfl).2; simp only at h1; show p + 1 ≤ sk l q7; omega⟩⟩
      generalize sk l q7 = q10 at hs2 hR10 HRP hon10 hpe hpk ⊢
      obtain ⟨z0, z1, z2, z3, z4, z5, z6, z7, z8⟩ := id GB10
      go_wp2_with fail
      obtain ⟨bd10, hon10x, HRPx, hR10x⟩ : ∃ bd : Option Nat, On l 1 ⟨p, none⟩ ⟨q10, bd⟩ ∧ Hid (gscanSend l (gscanF l n) W V ⟨q10, bd⟩ = RES) ∧ SBox w10 b l ⟨q10, bd⟩ := ⟨none, hon10, HRP, hR10⟩
      clear hon10 HRP hR10
      have hon10 := hon10x
      clear hon10x
      have HRP := HRPx
      clear HRPx
      have hR10 := hR10x
      clear hR10x
      clear hpk hs2 hon7
    case' inr =>
      simp only [codeOf, placeOf] at r3 r4
      have HRP : Hid (gscanSend l (gscanF l n) W V ⟨q7, some qb⟩ = RES) := Lib.hid HRES.out
      clear HRES
      have hon10 := hon7
      clear hon7
      have hR10 := hR9
      clear hR9
      have hg10 := hg9
      clear hg9
      have XB10 := XB9
      clear XB9
      have GB10 := GB9
      clear GB9
      obtain ⟨w10, rfl⟩ : ∃ x, x = w9 := ⟨_, rfl⟩
      obtain ⟨q10, rfl⟩ : ∃ x, x = q7 := ⟨_, rfl⟩
      obtain ⟨z0, z1, z2, z3, z4, z5, z6, z7, z8⟩ := id GB10
      go_wp2_with fail
      obtain ⟨bd10, hon10x, HRPx, hR10x⟩ : ∃ bd : Option Nat, On l 1 ⟨p, none⟩ ⟨q10, bd⟩ ∧ Hid (gscanSend l (gscanF l n) W V ⟨q10, bd⟩ = RES) ∧ SBox w10 b l ⟨q10, bd⟩ := ⟨some qb, hon10, HRP, hR10⟩
      clear hon10 HRP hR10
      have hon10 := hon10x
      clear hon10x
      have HRP := HRPx
      clear HRPx
      have hR10 := hR10x
      clear hR10x
      clear r0 r1 r2 r3 r4 r5 r6
    all_goals
      have hR10' := hR10.far (a := ⟨G, 0, none⟩) hGb (.int .i64 2)
      have hg10' := grown_in (a := ⟨G, 0, none⟩) hg10 (show w.heap.size ≤ G by omega) (.int .i64 2)
      have XB10' := XB10.far (p := ⟨G, 0, none⟩) hGX (.int .i64 2)
      have GB10' := GB10.set0 2
      simp only [Gl.kind, Gl.frm, Gl.rcv, Gl.sort, Gl.name, Gl.labels, Gl.kids] at GB10'
      generalize w10.setCell ⟨G, 0, none⟩ (.int .i64 2) = w11 at hR10' hg10' XB10' GB10' ⊢
      clear hR10 hg10 XB10 GB10 z0 z1 z2 z3 z4 z5 z6 z7 z8
      clear w10
      have hR11 := hR10'
      clear hR10'
      have hg11 := hg10'
      clear hg10'
      have XB11 := XB10'
      clear XB10'
      have GB11 := GB10'
      clear GB10'
      have hon11 := hon10
      have HRS : Hid (((.mk 2 W V (sortIx (must l (fun w => decide (0 < sortIx w)) (must l (isW [58]) ⟨q10, bd10⟩).2).1) [] [] [(gscanF l n (must l (isW [46]) (must l (fun w => decide (0 < sortIx w)) (must l (isW [58]) ⟨q10, bd10⟩).2).2).2).1], (gscanF l n (must l (isW [46]) (must l (fun w => decide (0 < sortIx w)) (must l (isW [58]) ⟨q10, bd10⟩).2).2).2).2) : Gl × St) = RES) := Lib.hid HRP.out
      clear HRP
      refine (Is_any [58] w11).mono ?_
      rintro e wi ⟨rfl, hwi⟩
      have hbi : Below w11.heap.size w11 wi := by rw [hwi]; exact (Below.refl _ _).alloc (Nat.le_refl _) _
      have hci : wi.cell? ⟨w11.heap.size, 0, none⟩ = some (.string ⟨([58] : Str).toArray⟩) := by rw [hwi]; exact is_cell _ _ _
      have hNi : w11.heap.size ≠ b := by have := hR11.lt; omega
      have hRi := hR11.keep hbi
      have hgi := grown_belowB hg11 hbi
      have XBi := XB11.keep hbi XB11.lt
      have GBi := GB11.keep hbi GB11.lt
      clear hwi hR11 hg11 XB11 GB11
      generalize w11.heap.size = NI at hci hNi ⊢
      go_wp2_with fail
      refine (must_is [58] NI l b q10 bd10 wi hl hon11.2.1 hRi hNi hci).mono ?_
      have hon12 := (hon11.trans (must_on (l := l) (isW [58]) (s := ⟨q10, bd10⟩) hon11.2.1)).mono (d' := 1) (by omega)
      generalize must l (isW [58]) ⟨q10, bd10⟩ = M12 at *
      obtain ⟨y12, q12, bd12⟩ := M12
      rintro e w12 ⟨rfl, hg, hR12⟩
      have hg12 := grown_trans hgi hg
      have XB12 := XBi.grown' hg (by omega)
      have GB12 := GBi.grown' hg (by omega)
      clear hg hRi hgi hci hNi hbi XBi GBi
      go_wp2_with fail
      refine (must_any (fun w => decide (0 < sortIx w)) 184 #[] (fun _ _ => by kernel_rfl) l b q12 bd12 w12 hl hon12.2.1 hR12 (fun x w' _ _ => t2_any x w')).mono ?_
      have hon13 := (hon12.trans (must_on (l := l) (fun w => decide (0 < sortIx w)) (s := ⟨q12, bd12⟩) hon12.2.1)).mono (d' := 1) (by omega)
      generalize must l (fun w => decide (0 < sortIx w)) ⟨q12, bd12⟩ = M13 at *
      obtain ⟨sw, q13, bd13⟩ := M13
      rintro e w13 ⟨rfl, hg, hR13⟩
      have hg13 := grown_trans hg12 hg
      have XB13 := XB12.grown' hg (by omega)
      have GB13 := GB12.grown' hg hGb
      clear hg hR12 hg12 XB12 GB12
      clear w12
      go_wp2_with fail
      refine (sortOf_any sw w13).mono ?_
      rintro e w14 ⟨rfl, hb14⟩
      have hR14 := hR13.keep hb14
      have hg14 := grown_belowB hg13 hb14
      have XB14 := XB13.keep hb14 XB13.lt
      have GB14 := GB13.keep hb14 GB13.lt
      clear hb14 hR13 hg13 XB13 GB13
      clear w13
      obtain ⟨X, hX⟩ : ∃ x, sortIx sw = x := ⟨_, rfl⟩
      simp only [hX] at HRS ⊢
      clear hX
      obtain ⟨z0, z1, z2, z3, z4, z5, z6, z7, z8⟩ := id GB14
      go_wp2_with fail
      have hR15 := hR14.far (a := ⟨G, 3, none⟩) hGb (.int .i64 X)
      have hg15 := grown_in (a := ⟨G, 3, none⟩) hg14 (show w.heap.size ≤ G by omega) (.int .i64 X)
      have XB15 := XB14.far (p := ⟨G, 3, none⟩) hGX (.int .i64 X)
      have GB15 := GB14.set3 X
      simp only [Gl.kind, Gl.frm, Gl.rcv, Gl.sort, Gl.name, Gl.labels, Gl.kids] at GB15
      generalize w14.setCell ⟨G, 3, none⟩ (.int .i64 X) = w15 at hR15 hg15 XB15 GB15 ⊢
      clear hR14 hg14 XB14 GB14 z0 z1 z2 z3 z4 z5 z6 z7 z8
      clear w14
      have hon15 := hon13
      refine (Is_any [46] w15).mono ?_
      rintro e wi ⟨rfl, hwi⟩
      have hbi : Below w15.heap.size w15 wi := by rw [hwi]; exact (Below.refl _ _).alloc (Nat.le_refl _) _
      have hci : wi.cell? ⟨w15.heap.size, 0, none⟩ = some (.string ⟨([46] : Str).toArray⟩) := by rw [hwi]; exact is_cell _ _ _
      have hNi : w15.heap.size ≠ b := by have := hR15.lt; omega
      have hRi := hR15.keep hbi
      have hgi := grown_belowB hg15 hbi
      have XBi := XB15.keep hbi XB15.lt
      have GBi := GB15.keep hbi GB15.lt
      clear hwi hR15 hg15 XB15 GB15
      generalize w15.heap.size = NI at hci hNi ⊢
      go_wp2_with fail
      refine (must_is [46] NI l b q13 bd13 wi hl hon15.2.1 hRi hNi hci).mono ?_
      have hon16 := (hon15.trans (must_on (l := l) (isW [46]) (s := ⟨q13, bd13⟩) hon15.2.1)).mono (d' := 1) (by omega)
      generalize must l (isW [46]) ⟨q13, bd13⟩ = M16 at *
      obtain ⟨y16, q16, bd16⟩ := M16
      rintro e w16 ⟨rfl, hg, hR16⟩
      have hg16 := grown_trans hgi hg
      have XB16 := XBi.grown' hg (by omega)
      have GB16 := GBi.grown' hg (by omega)
      clear hg hRi hgi hci hNi hbi XBi GBi
      rename_i Kx hkx Ky hky
      have HKX := Lib.hid hkx
      clear hkx
      go_wp2_with fail
      refine HKX.out _ _ ?_
      clear HKX Kx
      go_wp2_with fail
      rename_i Kx hkx Ky' hky'
      have HKX := Lib.hid hkx
      clear hkx
      refine (ih ⟨q16, bd16⟩ w16 hon16.2.1 (fun h => by have h1 : p + 1 ≤ q16 := (hon16.2.2 h).2; show l.length < n + q16; omega) hR16).mono ?_
      generalize gscanF l n ⟨q16, bd16⟩ = TT at *
      obtain ⟨t, q8, bd8⟩ := TT
      rintro e w7 ⟨hg, v, rfl, hT, hR7⟩
      have hg7 := grown_trans hg16 hg
      have hltm := XB16.lt
      have hzm := hg.size
      have XB7 := XB16.grown' hg (by omega)
      have GB7 := GB16.grown' hg hGb
      have hGm := GB16.lt
      clear hg hR16 hg16 GB16
      replace hT : GlV (fun k => w16.heap.size ≤ k) w7 v t := hT
      simp only at hR7
      obtain ⟨lv, kv, rfl, k1, k2⟩ := hT
      have K1 := Lib.hid k1; have K2 := Lib.hid k2
      obtain ⟨A1, c1, rfl, -, -⟩ := k1
      obtain ⟨A2, c2, rfl, -, -⟩ := k2
      obtain ⟨z0, z1, z2, z3, z4, z5, z6, z7, z8⟩ := id GB7
      have hc7 : Hid (Cells7 (fun k => w.heap.size ≤ k ∧ k ≠ w.heap.size ∧ k ≠ G) w7 [.int .i64 t.kind, .string ⟨t.frm.toArray⟩, .string ⟨t.rcv.toArray⟩, .int .i64 t.sort, .string ⟨t.name.toArray⟩, .slice A1 t.labels.length c1, .slice A2 t.kids.length c2] [t]) := Lib.hid (.cons t _ _ [] [] (K1.out.keep (fun _ _ _ => rfl) (fun k hk _ => ⟨by omega, by omega, by omega⟩)) (K2.out.keep (fun _ _ _ => rfl) (fun k hk _ => ⟨by omega, by omega, by omega⟩)) .nil)
      clear K1 K2
      go_wp2_with fail
      have hsz : (w7.setCell ⟨G, 6, none⟩ (.slice (some ⟨w7.heap.size, 0, none⟩) 1 1)).heap.size = w7.heap.size := by simp
      have XB8 := XB7.far (p := ⟨G, 6, none⟩) hGX (.slice (some ⟨w7.heap.size, 0, none⟩) 1 1)
      have GB8 := GB7.put6 (.slice (some ⟨w7.heap.size, 0, none⟩) 1 1)
      have hR8 := hR7.far (a := ⟨G, 6, none⟩) hGb (.slice (some ⟨w7.heap.size, 0, none⟩) 1 1)
      have hg8 := grown_in (a := ⟨G, 6, none⟩) hg7 (show w.heap.size ≤ G by omega) (.slice (some ⟨w7.heap.size, 0, none⟩) 1 1)
      have hc8 : Hid (Cells7 (fun k => w.heap.size ≤ k ∧ k ≠ w.heap.size ∧ k ≠ G) (w7.setCell ⟨G, 6, none⟩ (.slice (some ⟨w7.heap.size, 0, none⟩) 1 1)) [.int .i64 t.kind, .string ⟨t.frm.toArray⟩, .string ⟨t.rcv.toArray⟩, .int .i64 t.sort, .string ⟨t.name.toArray⟩, .slice A1 t.labels.length c1, .slice A2 t.kids.length c2] [t]) := Lib.hid (hc7.out.keep (Same.set (fun h => h.2.2 rfl)) (fun _ h _ => h))
      clear hc7
      generalize w7.setCell ⟨G, 6, none⟩ (.slice (some ⟨w7.heap.size, 0, none⟩) 1 1) = w8 at hsz XB8 GB8 hR8 hg8 hc8 ⊢
      generalize w7.heap.size = R at hsz GB8 ⊢
      subst hsz
      have hX8 := XB8.lt
      have hG8 := GB8.lt
      have hb9 : Below w8.heap.size w8 (w8.alloc (.cells #[.int .i64 t.kind, .string ⟨t.frm.toArray⟩, .string ⟨t.rcv.toArray⟩, .int .i64 t.sort, .string ⟨t.name.toArray⟩, .slice A1 t.labels.length c1, .slice A2 t.kids.length c2] 42)) := (Below.refl _ _).alloc (Nat.le_refl _) _
      have hgl := gl_row (E := 42) hc8.out ⟨by omega, by omega, by omega⟩
      simp only [List.length_cons, List.length_nil, Nat.zero_add] at hgl
      have XB9 := XB8.keep hb9 XB8.lt
      have GB9 := GB8.keep hb9 GB8.lt
      have hR9 := hR8.keep hb9
      have hg9 := grown_belowB hg8 hb9
      have HS := Lib.hid (hgl.keep (D' := fun k => w.heap.size ≤ k ∧ k ≠ w.heap.size) (Same.refl _ _) (fun k hk _ => ⟨hk.1, hk.2.1⟩))
      clear hb9 hgl hX8 hG8 hc8 XB8 GB8 hR8 hg8
      generalize w8.alloc (.cells #[.int .i64 t.kind, .string ⟨t.frm.toArray⟩, .string ⟨t.rcv.toArray⟩, .int .i64 t.sort, .string ⟨t.name.toArray⟩, .slice A1 t.labels.length c1, .slice A2 t.kids.length c2] 42) = w9 at HS XB9 GB9 hR9 hg9 ⊢
      generalize w8.heap.size = R at HS GB9 ⊢
      refine HKX.out _ _ ?_
      clear HKX
      obtain ⟨z0, z1, z2, z3, z4, z5, z6, z7, z8⟩ := id GB9
      obtain ⟨x0, x1, x2, x3, x4, x5, x6, x7, x8⟩ := id XB9
      simp only [Gl.kind, Gl.frm, Gl.rcv, Gl.sort, Gl.name] at z0 z1 z2 z3 z4
      go_step
      rename_i K2 h2
      have H2 := Lib.hid h2
      clear h2
      go_wp2_with fail
      obtain ⟨hF, hgF, hRF, hT⟩ := gfinishS hbw (Nat.le_refl _) hg9 hR9 XB9 2 W V X [] [] [t] (.slice none 0 0) (.slice (some ⟨R, 0, none⟩) 1 1) (no_strs' _ _) HS.out
      generalize (((((((w9.setCell ⟨w.heap.size, 0, none⟩ (.int .i64 2)).setCell ⟨w.heap.size, 1, none⟩ (.string ⟨W.toArray⟩)).setCell ⟨w.heap.size, 2, none⟩ (.string ⟨V.toArray⟩)).setCell ⟨w.heap.size, 3, none⟩ (.int .i64 X)).setCell ⟨w.heap.size, 4, none⟩ (.string ⟨#[]⟩)).setCell ⟨w.heap.size, 5, none⟩ (.slice none 0 0)).setCell ⟨w.heap.size, 6, none⟩ (.slice (some ⟨R, 0, none⟩) 1 1)) = wF at hF hgF hRF hT ⊢
      obtain ⟨d0, d1, d2, d3, d4, d5, d6, d7, d8⟩ := hF
      refine H2.out _ _ ?_
      clear H2
      refine wp_ret ?_
      refine bodyPost_ret (v := .agg #[.int .i64 2, .string ⟨W.toArray⟩, .string ⟨V.toArray⟩, .int .i64 X, .string ⟨#[]⟩, .slice none 0 0, .slice (some ⟨R, 0, none⟩) 1 1]) (by simp [results, Tryd.results99, go_sem, d0, d1, d2, d3, d4, d5, d6, Gl.kind, Gl.frm, Gl.rcv, Gl.sort, Gl.name]) rfl ?_
      rw [← HRS.out]
      exact ⟨hgF, _, rfl, hT, hRF⟩
end
end Go.Proofs.YtcacembpegoghaaDoor
