/-
  The reference's reader: blanks, words and signs, how it fails, and what must stand there.
  The reference's reader: the functions that say what is right, and labels.
-/
import Derived.Test.YtgnkncfnkjeinaaDoorM10
import Derived.Test.YtgnkncfnkjeinaaDoorM6
namespace Go.Proofs.YtgnkncfnkjeinaaDoor
open Go.RowKit Go.Proofs

set_option maxRecDepth 100000
def codeOf : Option Nat → Int | none => 0 | some _ => 3
def placeOf : Option Nat → Int | none => 0 | some q => q
/-- The reference's reader in memory. -/
structure SBox (w : World) (b : Nat) (l : Str) (s : St) : Prop where
  c0 : w.cell? ⟨b, 0, none⟩ = some (.string ⟨l.toArray⟩)
  c1 : w.cell? ⟨b, 1, none⟩ = some (.int .i64 s.p)
  c2 : w.cell? ⟨b, 2, none⟩ = some (.bool false)
  c3 : w.cell? ⟨b, 3, none⟩ = some (.int .i64 (codeOf s.bad))
  c4 : w.cell? ⟨b, 4, none⟩ = some (.int .i64 (placeOf s.bad))
  fr : ∀ j, w.frozen? ⟨b, j, none⟩ = false
  lt : b < w.heap.size
theorem SBox.set {w : World} {b : Nat} {l : Str} {p : Nat} {bad : Option Nat} (h : SBox w b l ⟨p, bad⟩) (q : Nat) : SBox (w.setCell ⟨b, 1, none⟩ (.int .i64 q)) b l ⟨q, bad⟩ :=
  ⟨(World.cell?_setCell_other _ _ _ _ (by simp)).trans h.c0, World.cell?_setCell_same' _ _ _ (by rw [h.c1]; rfl), (World.cell?_setCell_other _ _ _ _ (by simp)).trans h.c2, (World.cell?_setCell_other _ _ _ _ (by simp)).trans h.c3, (World.cell?_setCell_other _ _ _ _ (by simp)).trans h.c4,
    fun j => by rw [World.frozen?_setCell]; exact h.fr j, by rw [World.size_setCell]; exact h.lt⟩
theorem SBox.setBad {w : World} {b : Nat} {l : Str} {p : Nat} {bad : Option Nat} (h : SBox w b l ⟨p, bad⟩) (q : Nat) : SBox ((w.setCell ⟨b, 3, none⟩ (.int .i64 3)).setCell ⟨b, 4, none⟩ (.int .i64 q)) b l ⟨p, some q⟩ := by
  have e : ∀ {w : World} {i j : Nat} {u : Value}, i ≠ j → (w.setCell ⟨b, i, none⟩ u).cell? ⟨b, j, none⟩ = w.cell? ⟨b, j, none⟩ := fun h => World.cell?_setCell_other _ _ _ _ (fun e => h (by injection e))
  refine ⟨?_, ?_, ?_, ?_, ?_, fun j => by simp only [World.frozen?_setCell]; exact h.fr j, by simp only [World.size_setCell]; exact h.lt⟩
  · rw [e (by decide), e (by decide)]; exact h.c0
  · rw [e (by decide), e (by decide)]; exact h.c1
  · rw [e (by decide), e (by decide)]; exact h.c2
  · rw [e (by decide)]; exact World.cell?_setCell_same' _ _ _ (by rw [h.c3]; rfl)
  · exact World.cell?_setCell_same' _ _ _ (by rw [e (by decide), h.c4]; rfl)
theorem SBox.keep {w w' : World} {b : Nat} {l : Str} {s : St} (h : SBox w b l s) (hb : Below w.heap.size w w') : SBox w' b l s :=
  ⟨cell_keep h.c0 hb, cell_keep h.c1 hb, cell_keep h.c2 hb, cell_keep h.c3 hb, cell_keep h.c4 hb, fun j => (hb.frozen (p := ⟨b, j, none⟩) h.lt).trans (h.fr j), Nat.lt_of_lt_of_le h.lt hb.size⟩
theorem SBox.far {w : World} {b : Nat} {l : Str} {s : St} (h : SBox w b l s) {a : Addr} (ha : a.block ≠ b) (u : Value) : SBox (w.setCell a u) b l s :=
  ⟨(World.cell?_setCell_far w a _ u ha).trans h.c0, (World.cell?_setCell_far w a _ u ha).trans h.c1, (World.cell?_setCell_far w a _ u ha).trans h.c2, (World.cell?_setCell_far w a _ u ha).trans h.c3, (World.cell?_setCell_far w a _ u ha).trans h.c4, fun j => by rw [World.frozen?_setCell]; exact h.fr j, by rw [World.size_setCell]; exact h.lt⟩
theorem SBox.drewN {w : World} {b : Nat} {l : Str} {s : St} (h : SBox w b l s) (n : Nat) : SBox (w.drewN n) b l s := ⟨h.c0, h.c1, h.c2, h.c3, h.c4, h.fr, h.lt⟩

set_option maxHeartbeats 2000000 in
theorem skip_any (l : Str) (b p : Nat) (bad : Option Nat) (w : World) (hl : l.length ≤ 2000) (hp : p ≤ l.length) (hR : SBox w b l ⟨p, bad⟩) :
    Calls Tryd.prog 52 #[.pointer (some ⟨b, 0, none⟩)] w fun e w' => e = .returned (.tuple #[]) ∧ w.grownBy w' (some b) ∧ SBox w' b l ⟨sk l p, bad⟩ := by
  obtain ⟨Q, hQ⟩ : ∃ x, sk l p = x := ⟨_, rfl⟩
  rw [hQ]
  have HQ := Lib.hid hQ; clear hQ
  go_enter Tryd.func52, Tryd.ntmps52
  go_wp2_with fail
  go_loopg [] (l.length - p) (fun gk wr => ∃ k, k ≤ l.length ∧ l.length - k ≤ gk ∧ sk l k = Q ∧ SBox wr b l ⟨k, bad⟩ ∧ w.grownBy wr (some b))
  case atStart => exact ⟨p, hp, Nat.le_refl _, HQ.out, hR, grown_refl w b⟩
  case round =>
    obtain ⟨k, hk, hgk, hq, hB, hg⟩ := hrel
    have HK := Lib.hid hq; clear hq hR
    obtain ⟨c0, c1, c2, c3, c4, fr, lt⟩ := id hB
    by_cases hlt : k < l.length
    · obtain ⟨x, hx⟩ : ∃ x, l[k]? = some x := ⟨_, List.getElem?_eq_getElem hlt⟩
      have HX := Lib.hid hx; clear hx
      have E : (⟨l.toArray⟩ : ByteArray)[k]'(by simpa [ByteArray.size] using hlt) = x := byte_at' HX.out _
      have hlt' : (k : Int) < (l.length : Int) := by omega
      by_cases h32 : x = 32
      · subst h32
        go_wp2_with fail
        go_quiet (fail)
        have hB2 := hB.drewN nq
        have hg2 := grown_drewN hg nq
        generalize wr.drewN nq = w2 at hB2 hg2 ⊢
        clear c0 c1 c2 c3 c4 fr lt hB hg
        obtain ⟨c0, c1, c2, c3, c4, fr, lt⟩ := id hB2
        go_wp2_with fail
        go_roundg (l.length - (k + 1))
        case measure => omega
        case rel => exact ⟨k + 1, by omega, Nat.le_refl _, by rw [← HK.out]; exact (sk_step HX.out).symm, by simpa using hB2.set (k + 1), grown_trans hg2 (grown_at _ _ _ _)⟩
      · have h32' : ((x.toNat : Int) == 32) = false := by
          rw [beq_eq_false_iff_ne]
          intro e
          exact h32 (UInt8.toNat.inj (by simpa using (by omega : x.toNat = 32)))
        go_wp2_with fail
        go_quiet (fail)
        have hB2 := hB.drewN nq
        have hg2 := grown_drewN hg nq
        generalize wr.drewN nq = w2 at hB2 hg2 ⊢
        clear c0 c1 c2 c3 c4 fr lt hB hg
        go_wp2_with fail
        go_end0
        refine ⟨rfl, hg2, ?_⟩
        rw [← HK.out, sk_stop HX.out h32]
        exact hB2
    · have hlt' : decide ((k : Int) < (l.length : Int)) = false := by simp; omega
      go_wp2_with fail
      go_quiet (fail)
      have hB2 := hB.drewN nq
      have hg2 := grown_drewN hg nq
      generalize wr.drewN nq = w2 at hB2 hg2 ⊢
      clear c0 c1 c2 c3 c4 fr lt hB hg
      go_wp2_with fail
      go_end0
      refine ⟨rfl, hg2, ?_⟩
      rw [← HK.out, sk_end (by omega)]
      exact hB2

theorem wd_step {l : Str} {j : Nat} {x : UInt8} (h : l[j]? = some x) (hx : lowb x = true) : (wd l j).length = (wd l (j + 1)).length + 1 := by
  unfold wd
  rw [drop_at h, List.takeWhile_cons]
  simp [hx]
theorem wd_stop {l : Str} {j : Nat} {x : UInt8} (h : l[j]? = some x) (hx : lowb x = false) : wd l j = [] := by
  unfold wd
  rw [drop_at h, List.takeWhile_cons]
  simp [hx]
theorem wd_end {l : Str} {j : Nat} (h : l.length ≤ j) : wd l j = [] := by
  unfold wd
  rw [List.drop_eq_nil_of_le h]
  rfl
theorem wd_pre (l : Str) (q : Nat) : (l.drop q).take (wd l q).length = wd l q :=
  (List.prefix_iff_eq_take.1 (List.takeWhile_prefix lowb)).symm

set_option maxHeartbeats 2000000 in
theorem peek_any (l : Str) (b p : Nat) (bad : Option Nat) (w : World) (hl : l.length ≤ 2000) (hp : p ≤ l.length) (hR : SBox w b l ⟨p, bad⟩) :
    Calls Tryd.prog 60 #[.pointer (some ⟨b, 0, none⟩)] w fun e w' => e = .returned (.string ⟨(pk l (sk l p)).toArray⟩) ∧ w.grownBy w' (some b) ∧ SBox w' b l ⟨sk l p, bad⟩ := by
  have hs := sk_le hp
  have hcall := skip_any l b p bad w hl hp hR
  generalize sk l p = q at hs hcall ⊢
  obtain ⟨PK, hPK⟩ : ∃ x, pk l q = x := ⟨_, rfl⟩
  rw [hPK]
  have HPK := Lib.hid hPK; clear hPK
  go_enter Tryd.func60, Tryd.ntmps60
  go_wp2_with fail
  refine hcall.mono ?_; clear hcall
  rintro e w1 ⟨rfl, hg1, hB1⟩
  obtain ⟨c0, c1, c2, c3, c4, fr, lt⟩ := id hB1
  go_wp2_with fail
  go_loop [3] (fun i => ∃ j : Nat, q ≤ j ∧ j ≤ l.length ∧ i = .int .i64 j ∧ Hid (j + (wd l j).length = q + (wd l q).length)) (fun i => l.length - (intOf i).toNat)
  case atStart => exact ⟨q, Nat.le_refl _, hs.2, rfl, rfl⟩
  case round =>
    obtain ⟨j, hj1, hj2, rfl, hf⟩ := hrel
    by_cases hlt : j < l.length
    · obtain ⟨x, hx⟩ : ∃ x, l[j]? = some x := ⟨_, List.getElem?_eq_getElem hlt⟩
      have HX := Lib.hid hx; clear hx
      have E : (⟨l.toArray⟩ : ByteArray)[j]'(by simpa [ByteArray.size] using hlt) = x := byte_at' HX.out _
      by_cases h97 : 97 ≤ x.toNat
      · by_cases h122 : x.toNat ≤ 122
        · have g97 : (97 : Int) ≤ (x.toNat : Int) := by omega
          have g122 : (x.toNat : Int) ≤ 122 := by omega
          go_wp2_with fail
          refine ⟨⟨j + 1, by omega, by omega, by simp, ?_⟩, by simp [intOf]; omega⟩
          show j + 1 + (wd l (j + 1)).length = q + (wd l q).length
          rw [← hf.out, wd_step HX.out (by simp [lowb, h97, h122])]
          omega
        · have g97 : (97 : Int) ≤ (x.toNat : Int) := by omega
          have g122 : ¬ (x.toNat : Int) ≤ 122 := by omega
          have hwj : wd l j = [] := wd_stop HX.out (by simp [lowb, h122])
          have hj : j = q + (wd l q).length := by have := hf.out; rw [hwj] at this; simpa using this
          have HJ := Lib.hid hj
          clear hf hj hwj
          by_cases hjq : j = q
          · subst hjq
            have hw0 : wd l j = [] := List.eq_nil_of_length_eq_zero (by have := HJ.out; omega)
            have HW0 := Lib.hid hw0
            clear HJ hw0
            by_cases hjl : j < l.length
            · have k1 : (j : Int) < (l.length : Int) := by omega
              have k3 : (j : Int) ≤ (j : Int) + 1 := by omega
              have k4 : (j : Int) + 1 ≤ (l.length : Int) := by omega
              go_wp2_with fail
              go_quiet (fail)
              have hB2 := hB1.drewN nq
              have hg2 := grown_drewN hg1 nq
              generalize w1.drewN nq = w2 at hB2 hg2 ⊢
              clear c0 c1 c2 c3 c4 fr lt hB1 hg1
              go_wp2_with fail
              go_ret
              refine ⟨?_, hg2, hB2⟩
              rw [← HPK.out]
              have e1 : (l.drop j).take 1 = pk l j := by rw [pk, if_pos HW0.out]
              rw [← e1]
              show Ending.returned (.string (ByteArray.extract ⟨l.toArray⟩ j (j + 1))) = _
              rw [ext_mid, show j + 1 - j = 1 by omega]
            · exact absurd hlt hjl
          · have k2 : ((j : Int) == (q : Int)) = false := by rw [beq_eq_false_iff_ne]; omega
            have k3 : (q : Int) ≤ (j : Int) := by omega
            have k4 : (j : Int) ≤ (l.length : Int) := by omega
            go_wp2_with fail
            go_quiet (fail)
            have hB2 := hB1.drewN nq
            have hg2 := grown_drewN hg1 nq
            generalize w1.drewN nq = w2 at hB2 hg2 ⊢
            clear c0 c1 c2 c3 c4 fr lt hB1 hg1
            go_wp2_with fail
            go_ret
            refine ⟨?_, hg2, hB2⟩
            rw [← HPK.out]
            have e1 : (l.drop q).take (j - q) = pk l q := by
              rw [pk, if_neg (fun e => by have := HJ.out; rw [e] at this; simp at this; exact hjq this)]
              have := HJ.out
              rw [show j - q = (wd l q).length by omega]
              exact wd_pre l q
            rw [← e1]
            show Ending.returned (.string (ByteArray.extract ⟨l.toArray⟩ q j)) = _
            rw [ext_mid]
      · have g97 : decide ((97 : Int) ≤ (x.toNat : Int)) = false := by simp; omega
        have hwj : wd l j = [] := wd_stop HX.out (by simp [lowb, h97])
        have hj : j = q + (wd l q).length := by have := hf.out; rw [hwj] at this; simpa using this
        have HJ := Lib.hid hj
        clear hf hj hwj
        by_cases hjq : j = q
        · subst hjq
          have hw0 : wd l j = [] := List.eq_nil_of_length_eq_zero (by have := HJ.out; omega)
          have HW0 := Lib.hid hw0
          clear HJ hw0
          by_cases hjl : j < l.length
          · have k1 : (j : Int) < (l.length : Int) := by omega
            have k3 : (j : Int) ≤ (j : Int) + 1 := by omega
            have k4 : (j : Int) + 1 ≤ (l.length : Int) := by omega
            go_wp2_with fail
            go_quiet (fail)
            have hB2 := hB1.drewN nq
            have hg2 := grown_drewN hg1 nq
            generalize w1.drewN nq = w2 at hB2 hg2 ⊢
            clear c0 c1 c2 c3 c4 fr lt hB1 hg1
            go_wp2_with fail
            go_ret
            refine ⟨?_, hg2, hB2⟩
            rw [← HPK.out]
            have e1 : (l.drop j).take 1 = pk l j := by rw [pk, if_pos HW0.out]
            rw [← e1]
            show Ending.returned (.string (ByteArray.extract ⟨l.toArray⟩ j (j + 1))) = _
            rw [ext_mid, show j + 1 - j = 1 by omega]
          · exact absurd hlt hjl
        · have k2 : ((j : Int) == (q : Int)) = false := by rw [beq_eq_false_iff_ne]; omega
          have k3 : (q : Int) ≤ (j : Int) := by omega
          have k4 : (j : Int) ≤ (l.length : Int) := by omega
          go_wp2_with fail
          go_quiet (fail)
          have hB2 := hB1.drewN nq
          have hg2 := grown_drewN hg1 nq
          generalize w1.drewN nq = w2 at hB2 hg2 ⊢
          clear c0 c1 c2 c3 c4 fr lt hB1 hg1
          go_wp2_with fail
          go_ret
          refine ⟨?_, hg2, hB2⟩
          rw [← HPK.out]
          have e1 : (l.drop q).take (j - q) = pk l q := by
            rw [pk, if_neg (fun e => by have := HJ.out; rw [e] at this; simp at this; exact hjq this)]
            have := HJ.out
            rw [show j - q = (wd l q).length by omega]
            exact wd_pre l q
          rw [← e1]
          show Ending.returned (.string (ByteArray.extract ⟨l.toArray⟩ q j)) = _
          rw [ext_mid]
    · have hwj : wd l j = [] := wd_end (by omega)
      have hj : j = q + (wd l q).length := by have := hf.out; rw [hwj] at this; simpa using this
      have HJ := Lib.hid hj
      clear hf hj hwj
      by_cases hjq : j = q
      · subst hjq
        have hw0 : wd l j = [] := List.eq_nil_of_length_eq_zero (by have := HJ.out; omega)
        have HW0 := Lib.hid hw0
        clear HJ hw0
        by_cases hjl : j < l.length
        · exact absurd hjl hlt
        · have k1 : decide ((j : Int) < (l.length : Int)) = false := by simp; omega
          have k3 : (j : Int) ≤ (j : Int) := by omega
          have k4 : (j : Int) ≤ (l.length : Int) := by omega
          go_wp2_with fail
          go_quiet (fail)
          have hB2 := hB1.drewN nq
          have hg2 := grown_drewN hg1 nq
          generalize w1.drewN nq = w2 at hB2 hg2 ⊢
          clear c0 c1 c2 c3 c4 fr lt hB1 hg1
          go_wp2_with fail
          go_ret
          refine ⟨?_, hg2, hB2⟩
          rw [← HPK.out]
          have e1 : (l.drop j).take 0 = pk l j := by rw [pk, if_pos HW0.out, List.drop_eq_nil_of_le (by omega)]; rfl
          rw [← e1]
          rfl
      · have k2 : ((j : Int) == (q : Int)) = false := by rw [beq_eq_false_iff_ne]; omega
        have k3 : (q : Int) ≤ (j : Int) := by omega
        have k4 : (j : Int) ≤ (l.length : Int) := by omega
        go_wp2_with fail
        go_quiet (fail)
        have hB2 := hB1.drewN nq
        have hg2 := grown_drewN hg1 nq
        generalize w1.drewN nq = w2 at hB2 hg2 ⊢
        clear c0 c1 c2 c3 c4 fr lt hB1 hg1
        go_wp2_with fail
        go_ret
        refine ⟨?_, hg2, hB2⟩
        rw [← HPK.out]
        have e1 : (l.drop q).take (j - q) = pk l q := by
          rw [pk, if_neg (fun e => by have := HJ.out; rw [e] at this; simp at this; exact hjq this)]
          have := HJ.out
          rw [show j - q = (wd l q).length by omega]
          exact wd_pre l q
        rw [← e1]
        show Ending.returned (.string (ByteArray.extract ⟨l.toArray⟩ q j)) = _
        rw [ext_mid]

set_option maxHeartbeats 2000000 in
theorem Fail_none (l : Str) (b p : Nat) (w : World) (hl : l.length ≤ 2000) (hp : p ≤ l.length) (hR : SBox w b l ⟨p, none⟩) :
    Calls Tryd.prog 61 #[.pointer (some ⟨b, 0, none⟩)] w fun e w' => e = .returned (.tuple #[]) ∧ w.grownBy w' (some b) ∧ SBox w' b l ⟨sk l p, some (sk l p)⟩ := by
  have hcall := skip_any l b p none w hl hp hR
  generalize sk l p = q at hcall ⊢
  obtain ⟨c0, c1, c2, c3, c4, fr, lt⟩ := id hR
  simp only [codeOf, placeOf] at c3 c4
  go_enter Tryd.func61, Tryd.ntmps61
  go_wp2_with fail
  refine hcall.mono ?_; clear hcall
  rintro e w1 ⟨rfl, hg1, hB1⟩
  clear c0 c1 c2 c3 c4 fr lt
  obtain ⟨c0, c1, c2, c3, c4, fr, lt⟩ := id hB1
  simp only [codeOf, placeOf] at c3 c4
  go_wp2_with fail
  go_end0
  exact ⟨rfl, grown_trans hg1 (grown_trans (grown_at _ _ _ _) (grown_at _ _ _ _)), hB1.setBad q⟩
/-- A text that must be so, as a function value. -/
def isFn (a : Addr) : Value := .func (.func 109) #[] #[.pointer (some a)]
theorem Is_any (c : Str) (w : World) :
    Calls Tryd.prog 86 #[.string ⟨c.toArray⟩] w fun e w' => e = .returned (isFn ⟨w.heap.size, 0, none⟩) ∧ w' = w.alloc (.cells #[.string ⟨c.toArray⟩] 9) := by
  have hmf : ∀ (fn : Fn) (first cap : Array Value) (w : World), (Instr.makeFunc fn first cap).run Tryd.prog w = .ok (.func fn first cap) w := fun _ _ _ _ => rfl
  go_enter Tryd.func86, Tryd.ntmps86
  go_wp2_with fail
  go_ret
  exact ⟨rfl, rfl⟩
theorem Is1_any (c x : Str) (a : Nat) (w : World) (h : w.cell? ⟨a, 0, none⟩ = some (.string ⟨c.toArray⟩)) :
    Calls Tryd.prog 109 #[.string ⟨x.toArray⟩, .pointer (some ⟨a, 0, none⟩)] w fun e w' => e = .returned (.bool (isW c x)) ∧ w' = w := by
  go_enter Tryd.func109, Tryd.ntmps109
  go_wp2_with fail
  go_ret
  refine ⟨ret_bool ?_, rfl⟩
  rw [Bool.eq_iff_iff, beq_iff_eq, isW, decide_eq_true_eq]

set_option maxHeartbeats 2000000 in
/-- What must stand there: whatever function says what is right. -/
theorem must_any (right : Str → Bool) (F : FuncId) (cap : Array Value) (hF : ∀ (args : Array Value) (w : World), (callFunc F args).run Tryd.prog w = .ok (.enter F args) w) (l : Str) (b p : Nat) (bad : Option Nat) (w : World) (hl : l.length ≤ 2000) (hp : p ≤ l.length) (hR : SBox w b l ⟨p, bad⟩)
    (hr : ∀ (x : Str) (w' : World), x.length ≤ 2000 → w.grownBy w' (some b) → Calls Tryd.prog F (#[.string ⟨x.toArray⟩] ++ cap) w' fun e w'' => e = .returned (.bool (right x)) ∧ Below w'.heap.size w' w'') :
    Calls Tryd.prog 84 #[.pointer (some ⟨b, 0, none⟩), .func (.func F) #[] cap] w fun e w' => e = .returned (.string ⟨(must l right ⟨p, bad⟩).1.toArray⟩) ∧ w.grownBy w' (some b) ∧ SBox w' b l (must l right ⟨p, bad⟩).2 := by
  have hs := sk_le hp
  have hss := sk_sk l p
  have hcall := peek_any l b p bad w hl hp hR
  cases bad with
  | some q0 =>
    rw [must_bad]
    generalize sk l p = q at hs hss hcall ⊢
    generalize pk l q = PK at hcall
    go_enter Tryd.func84, Tryd.ntmps84
    go_wp2_with fail
    refine hcall.mono ?_; clear hcall
    rintro e w1 ⟨rfl, hg1, hB1⟩
    obtain ⟨c0, c1, c2, c3, c4, fr, lt⟩ := id hB1
    simp only [codeOf, placeOf] at c3 c4
    go_wp2_with fail
    go_ret
    exact ⟨rfl, hg1, hB1⟩
  | none =>
    unfold must
    simp only
    have hpl : (pk l (sk l p)).length ≤ l.length ∧ sk l p + (pk l (sk l p)).length ≤ l.length := by
      rcases pk_case l (sk l p) with ⟨_, _, h3⟩ | ⟨x, _, _, _, _, h5⟩ | ⟨x, h1, _, _, h4⟩
      · rw [h3]; simp; omega
      · rw [h5]; have := wd_le hs.2; omega
      · rw [h4]; have := at_lt h1; simp; omega
    generalize sk l p = q at hs hss hcall hpl ⊢
    generalize pk l q = PK at hcall hpl ⊢
    by_cases hPK : PK = []
    · subst hPK
      rw [if_pos (Or.inl rfl)]
      go_enter Tryd.func84, Tryd.ntmps84
      go_wp2_with fail
      refine hcall.mono ?_; clear hcall
      rintro e w1 ⟨rfl, hg1, hB1⟩
      obtain ⟨c0, c1, c2, c3, c4, fr, lt⟩ := id hB1
      simp only [codeOf, placeOf] at c3 c4
      go_wp2_with fail
      refine (Fail_none l b q w1 hl hs.2 hB1).mono ?_
      rintro e w2 ⟨rfl, hg2, hB2⟩
      rw [hss] at hB2
      clear c0 c1 c2 c3 c4 fr lt
      go_wp2_with fail
      go_ret
      exact ⟨rfl, grown_trans hg1 hg2, hB2⟩
    · cases hrt : right PK with
      | false =>
        rw [if_pos (Or.inr rfl)]
        have HRT := Lib.hid hrt; clear hrt
        have hPe : (PK == []) = false := by simpa using hPK
        go_enter Tryd.func84, Tryd.ntmps84
        go_wp2_with fail
        refine hcall.mono ?_; clear hcall
        rintro e w1 ⟨rfl, hg1, hB1⟩
        obtain ⟨c0, c1, c2, c3, c4, fr, lt⟩ := id hB1
        simp only [codeOf, placeOf] at c3 c4
        go_wp2_with fail
        refine (hr PK w1 (by omega) hg1).mono ?_; rw [HRT.out]; rintro e w2 ⟨rfl, hb2⟩
        have hB2 := hB1.keep hb2
        have hg2 := grown_belowB hg1 hb2
        clear c0 c1 c2 c3 c4 fr lt
        go_wp2_with fail
        refine (Fail_none l b q w2 hl hs.2 hB2).mono ?_
        rintro e w3 ⟨rfl, hg3, hB3⟩
        rw [hss] at hB3
        go_wp2_with fail
        go_ret
        exact ⟨rfl, grown_trans hg2 hg3, hB3⟩
      | true =>
        rw [if_neg (by simp [hPK])]
        have HRT := Lib.hid hrt; clear hrt
        have hPe : (PK == []) = false := by simpa using hPK
        go_enter Tryd.func84, Tryd.ntmps84
        go_wp2_with fail
        refine hcall.mono ?_; clear hcall
        rintro e w1 ⟨rfl, hg1, hB1⟩
        obtain ⟨c0, c1, c2, c3, c4, fr, lt⟩ := id hB1
        simp only [codeOf, placeOf] at c3 c4
        go_wp2_with fail
        refine (hr PK w1 (by omega) hg1).mono ?_; rw [HRT.out]; rintro e w2 ⟨rfl, hb2⟩
        have hB2 := hB1.keep hb2
        have hg2 := grown_belowB hg1 hb2
        clear c0 c1 c2 c3 c4 fr lt
        obtain ⟨c0, c1, c2, c3, c4, fr, lt⟩ := id hB2
        go_wp2_with fail
        go_ret
        have e1 : ((q + PK.length : Nat) : Int) = (q : Int) + (PK.length : Int) := by omega
        refine ⟨rfl, grown_trans hg2 (grown_at _ _ _ _), ?_⟩
        rw [← e1]
        exact hB2.set (q + PK.length)
end Go.Proofs.YtgnkncfnkjeinaaDoor
namespace Go.Proofs.YtgnkncfnkjeinaaDoor
open Go.RowKit Go.Proofs

set_option maxRecDepth 100000
theorem is3_any (x : Str) (w : World) : Calls Tryd.prog 90 #[.string ⟨x.toArray⟩] w fun e w' => e = .returned (.bool (isW [125] x || isW [44] x)) ∧ Below w.heap.size w w' := by
  by_cases h1 : x = [125]
  · subst h1
    go_enter Tryd.func90, Tryd.ntmps90
    go_wp2_with fail
    go_ret
    exact ⟨rfl, Below.refl _ _⟩
  · by_cases h2 : x = [44]
    · subst h2
      go_enter Tryd.func90, Tryd.ntmps90
      go_wp2_with fail
      go_ret
      exact ⟨rfl, Below.refl _ _⟩
    · have e1 : (x == [125]) = false := by simpa using h1
      have e2 : (x == [44]) = false := by simpa using h2
      go_enter Tryd.func90, Tryd.ntmps90
      go_wp2_with fail
      go_ret
      exact ⟨ret_bool (by simp [isW, h1, h2]), Below.refl _ _⟩

set_option maxHeartbeats 1000000 in
theorem is1_start (x : Str) (w : World) (hx : x.length ≤ 2000) : Calls Tryd.prog 85 #[.string ⟨x.toArray⟩] w fun e w' => e = .returned (.bool (startOk x)) ∧ Below w.heap.size w w' := by
  obtain ⟨ANS, hA⟩ : ∃ y, startOk x = y := ⟨_, rfl⟩
  have HA := Lib.hid hA; rw [hA]; clear hA
  have hcall := fun w => refIsVar_any x w (by omega)
  by_cases h1 : x = endW
  · have e1 : (x == [101, 110, 100]) = true := by simpa [endW] using h1
    go_enter Tryd.func85, Tryd.ntmps85
    go_wp2_with fail
    go_ret
    exact ⟨ret_bool (by rw [← HA.out]; simp [startOk, isW, h1]), Below.refl _ _⟩
  · have e1 : (x == [101, 110, 100]) = false := by simpa [endW] using h1
    by_cases h2 : x = recW
    · have e2 : (x == [114, 101, 99]) = true := by simpa [recW] using h2
      go_enter Tryd.func85, Tryd.ntmps85
      go_wp2_with fail
      go_ret
      exact ⟨ret_bool (by rw [← HA.out]; simp [startOk, isW, h2]), Below.refl _ _⟩
    · have e2 : (x == [114, 101, 99]) = false := by simpa [recW] using h2
      cases hv : isVar x with
      | true =>
        have HV := Lib.hid hv; clear hv
        go_enter Tryd.func85, Tryd.ntmps85
        go_wp2_with fail
        refine (hcall w).mono ?_; rw [HV.out]; rintro e w1 ⟨rfl, hb1⟩
        go_wp2_with fail
        go_ret
        exact ⟨ret_bool (by rw [← HA.out]; simp [startOk, HV.out]), hb1⟩
      | false =>
        have HV := Lib.hid hv; clear hv
        by_cases h3 : x = [33] ∨ x = [63] ∨ x = [43] ∨ x = [38]
        · rcases h3 with rfl | rfl | rfl | rfl
          all_goals
            go_enter Tryd.func85, Tryd.ntmps85
            go_wp2_with fail
            refine (hcall w).mono ?_; rw [HV.out]; rintro e w1 ⟨rfl, hb1⟩
            go_wp2_with fail
            go_ret
            exact ⟨ret_bool (by rw [← HA.out]; rfl), hb1⟩
        · simp only [not_or] at h3
          obtain ⟨k3, k4, k5, k6⟩ := h3
          have e3 : (x == [33]) = false := by simpa using k3
          have e4 : (x == [63]) = false := by simpa using k4
          have e5 : (x == [43]) = false := by simpa using k5
          have e6 : (x == [38]) = false := by simpa using k6
          go_enter Tryd.func85, Tryd.ntmps85
          go_wp2_with fail
          refine (hcall w).mono ?_; rw [HV.out]; rintro e w1 ⟨rfl, hb1⟩
          go_wp2_with fail
          go_ret
          exact ⟨ret_bool (by rw [← HA.out]; simp [startOk, isW, h1, h2, HV.out, k3, k4, k5, k6]), hb1⟩

def sortWd (s : Nat) : Str := if s = 1 then [105, 110, 116] else if s = 2 then [98, 111, 111, 108] else [116, 101, 120, 116]
theorem sortWd_any (s : Nat) (h1 : 1 ≤ s) (h3 : s ≤ 3) (w : World) :
    Calls Tryd.prog 41 #[.int .i64 s] w fun e w' => e = .returned (.string ⟨(sortWd s).toArray⟩) ∧ Below w.heap.size w w' := by
  obtain rfl | rfl | rfl : s = 1 ∨ s = 2 ∨ s = 3 := by omega
  all_goals
    go_enter Tryd.func41, Tryd.ntmps41
    go_wp2_with fail
    go_ret
    exact ⟨rfl, by go_grown⟩
theorem sortIx_wd (x : Str) (s : Nat) (h1 : 1 ≤ s) (h3 : s ≤ 3) (h : x = sortWd s) : sortIx x = s := by
  obtain rfl | rfl | rfl : s = 1 ∨ s = 2 ∨ s = 3 := by omega
  all_goals subst h; decide
theorem sortIx_no (x : Str) (h : ∀ s, 1 ≤ s → s ≤ 3 → x ≠ sortWd s) : sortIx x = 0 := by
  unfold sortIx
  rw [if_neg (show x ≠ [105, 110, 116] from h 1 (by omega) (by omega)), if_neg (show x ≠ [98, 111, 111, 108] from h 2 (by omega) (by omega)), if_neg (show x ≠ [116, 101, 120, 116] from h 3 (by omega) (by omega))]
set_option maxHeartbeats 1000000 in
theorem sortOf_any (x : Str) (w : World) : Calls Tryd.prog 87 #[.string ⟨x.toArray⟩] w fun e w' => e = .returned (.int .i64 (sortIx x)) ∧ Below w.heap.size w w' := by
  obtain ⟨ANS, hA⟩ : ∃ y, sortIx x = y := ⟨_, rfl⟩
  have HA := Lib.hid hA; rw [hA]; clear hA
  go_enter Tryd.func87, Tryd.ntmps87
  go_wp2_with fail
  go_loopw [3] (fun i wr => ∃ k : Nat, 1 ≤ k ∧ k ≤ 4 ∧ i = .int .i64 k ∧ Hid (∀ s, 1 ≤ s → s < k → x ≠ sortWd s) ∧ Below w.heap.size w wr) (fun i _ => 4 - (intOf i).toNat)
  case atStart => exact ⟨1, by omega, by omega, rfl, Lib.hid (fun s h1 h2 => by omega), Below.refl _ _⟩
  case round =>
    obtain ⟨k, hk1, hk4, rfl, hno, hb⟩ := hrel
    by_cases hlt : k < 4
    · have hlt' : (k : Int) < 4 := by omega
      have hcall := sortWd_any k hk1 (by omega)
      by_cases hx : x = sortWd k
      · have HX := Lib.hid hx
        obtain ⟨W, hW⟩ : ∃ y, sortWd k = y := ⟨_, rfl⟩
        rw [hW] at hcall hx
        have he : (W == x) = true := by simp [hx]
        clear hW hx
        go_wp2_with fail
        refine (hcall wr).mono ?_; clear hcall
        rintro e w1 ⟨rfl, hb1⟩
        go_wp2_with fail
        go_ret
        exact ⟨by rw [← HA.out, sortIx_wd x k hk1 (by omega) HX.out]; rfl, chain hb hb1⟩
      · have HX := Lib.hid hx
        obtain ⟨W, hW⟩ : ∃ y, sortWd k = y := ⟨_, rfl⟩
        rw [hW] at hcall hx
        have he : (W == x) = false := by simpa using fun e : W = x => hx e.symm
        clear hW hx
        go_wp2_with fail
        refine (hcall wr).mono ?_; clear hcall
        rintro e w1 ⟨rfl, hb1⟩
        go_wp2_with fail
        go_roundw
        case rel =>
          refine ⟨k + 1, by omega, by omega, by simp, Lib.hid (fun s h1 h2 => ?_), chain hb hb1⟩
          by_cases hs : s = k
          · rw [hs]; exact HX.out
          · exact hno.out s h1 (by omega)
        case measure => simp [intOf]; omega
    · have hk : k = 4 := by omega
      subst hk
      clear hlt
      go_wp2_with fail
      go_ret
      exact ⟨by rw [← HA.out, sortIx_no x (fun s h1 h3 => hno.out s h1 (by omega))]; rfl, hb⟩
theorem is2_any (x : Str) (w : World) : Calls Tryd.prog 88 #[.string ⟨x.toArray⟩] w fun e w' => e = .returned (.bool (decide (0 < sortIx x))) ∧ Below w.heap.size w w' := by
  have hcall := fun w => sortOf_any x w
  go_enter Tryd.func88, Tryd.ntmps88
  go_wp2_with fail
  refine (hcall w).mono ?_; clear hcall
  rintro e w1 ⟨rfl, hb1⟩
  go_wp2_with fail
  go_ret
  exact ⟨ret_bool (by simp), hb1⟩

set_option maxHeartbeats 1000000 in
/-- What is right as the next label. -/
theorem label1_any (x : Str) (ls : List Str) (lv : Value) (a : Nat) (w : World) (hx : x.length ≤ 2000) (hv : IsStrs w lv ls) (hn : ls.length ≤ 7) (hc : w.cell? ⟨a, 0, none⟩ = some lv) :
    Calls Tryd.prog 110 #[.string ⟨x.toArray⟩, .pointer (some ⟨a, 0, none⟩)] w fun e w' => e = .returned (.bool (labelOk ls x)) ∧ Below w.heap.size w w' := by
  obtain ⟨A, cap, rfl, hcap, hr⟩ := hv
  obtain ⟨ANS, hA⟩ : ∃ y, labelOk ls x = y := ⟨_, rfl⟩
  have HA := Lib.hid hA; rw [hA]; clear hA
  have hcall := fun w => refIsName_any x w (by omega)
  cases hi : isName x with
  | false =>
    have HI := Lib.hid hi; clear hi
    go_enter Tryd.func110, Tryd.ntmps110
    go_wp2_with fail
    refine (hcall w).mono ?_; rw [HI.out]; rintro e w1 ⟨rfl, hb1⟩
    go_wp2_with fail
    go_ret
    exact ⟨ret_bool (by rw [← HA.out]; simp [labelOk, HI.out]), hb1⟩
  | true =>
    have HI := Lib.hid hi; clear hi
    by_cases h6 : ls.length < 6
    · have h6' : (ls.length : Int) < 6 := by omega
      by_cases h0 : ls.length = 0
      · have hl : ls = [] := List.eq_nil_of_length_eq_zero h0
        subst hl
        go_enter Tryd.func110, Tryd.ntmps110
        go_wp2_with fail
        refine (hcall w).mono ?_; rw [HI.out]; rintro e w1 ⟨rfl, hb1⟩
        have hc1 := cell_keep hc hb1
        go_wp2_with fail
        go_ret
        exact ⟨ret_bool (by rw [← HA.out]; simp [labelOk, HI.out, behind]), hb1⟩
      · obtain ⟨b, off, rfl, hrow⟩ := hr (by omega)
        obtain ⟨q, hq⟩ : ∃ q, ls[ls.length - 1]? = some q := ⟨_, List.getElem?_eq_getElem (by omega)⟩
        have hcell := hrow _ _ hq
        have hlast : ls.getLast? = some q := by rw [List.getLast?_eq_getElem?]; exact hq
        have HLT := Lib.hid hlast
        have g0 : ((ls.length : Int) == 0) = false := by rw [beq_eq_false_iff_ne]; omega
        have e1 : ((ls.length : Int) - 1) = ((ls.length - 1 : Nat) : Int) := by omega
        have HE1 := Lib.hid e1
        have g1 : 0 ≤ (ls.length : Int) - 1 ∧ (ls.length : Int) - 1 < (ls.length : Int) := by omega
        clear hrow hq hlast e1 hr
        go_enter Tryd.func110, Tryd.ntmps110
        go_wp2_with fail
        refine (hcall w).mono ?_; rw [HI.out]; rintro e w1 ⟨rfl, hb1⟩
        have hc1 := cell_keep hc hb1
        have hc2 := cell_keep hcell hb1
        go_wp2_with fail
        go_ret
        exact ⟨ret_bool (by rw [← HA.out]; simp [labelOk, HI.out, HLT.out, h6, behind_some]), hb1⟩
    · have h6' : decide ((ls.length : Int) < 6) = false := by simp; omega
      go_enter Tryd.func110, Tryd.ntmps110
      go_wp2_with fail
      refine (hcall w).mono ?_; rw [HI.out]; rintro e w1 ⟨rfl, hb1⟩
      have hc1 := cell_keep hc hb1
      go_wp2_with fail
      go_ret
      exact ⟨ret_bool (by rw [← HA.out]; simp [labelOk, HI.out]; omega), hb1⟩
set_option maxHeartbeats 1000000 in
/-- A label. -/
theorem label_any (ls : List Str) (lv : Value) (l : Str) (b p : Nat) (bad : Option Nat) (w : World) (hl : l.length ≤ 2000) (hp : p ≤ l.length) (hR : SBox w b l ⟨p, bad⟩) (hv : StrsD (· ≠ b) w lv ls) (hn : ls.length ≤ 7) :
    Calls Tryd.prog 89 #[.pointer (some ⟨b, 0, none⟩), lv] w fun e w' => e = .returned (.string ⟨(must l (labelOk ls) ⟨p, bad⟩).1.toArray⟩) ∧ w.grownBy w' (some b) ∧ SBox w' b l (must l (labelOk ls) ⟨p, bad⟩).2 := by
  have hmf : ∀ (fn : Fn) (first cap : Array Value) (w : World), (Instr.makeFunc fn first cap).run Tryd.prog w = .ok (.func fn first cap) w := fun _ _ _ _ => rfl
  have HV := Lib.hid hv
  obtain ⟨A, cap, rfl, -, -⟩ := hv
  go_enter Tryd.func89, Tryd.ntmps89
  go_wp2_with fail
  have hbW : Below w.heap.size w (w.alloc (.cells #[.slice A ls.length cap] 22)) := by go_grown
  have hc0 : (w.alloc (.cells #[.slice A ls.length cap] 22)).cell? ⟨w.heap.size, 0, none⟩ = some (.slice A ls.length cap) := by simp [go_sem]
  have hR0 := hR.keep hbW
  have hg0 := grown_belowB (grown_refl w b) hbW
  have hV0 := HV.out.keep (D' := (· ≠ b)) (Same.below hbW) (fun _ h _ => h)
  have hlt := hR.lt
  have hsz : (w.alloc (.cells #[.slice A ls.length cap] 22)).heap.size = w.heap.size + 1 := by simp
  generalize w.alloc (.cells #[.slice A ls.length cap] 22) = w0 at hc0 hR0 hg0 hV0 hsz ⊢
  refine (must_any (labelOk ls) 110 #[.pointer (some ⟨w.heap.size, 0, none⟩)] (fun _ _ => by kernel_rfl) l b p bad w0 hl hp hR0 fun x w' hx hg' => ?_).mono ?_
  · have hs' : Same (· ≠ b) w0 w' := Same.grown hg' (fun k hk e => hk (by injection e))
    exact label1_any x ls _ w.heap.size w' hx (hV0.keep (D' := (· ≠ b)) hs' (fun _ h _ => h)).is hn (hs'.cell (by show w.heap.size ≠ b; omega) hc0)
  · rintro e w1 ⟨rfl, hg1, hR1⟩
    go_wp2_with fail
    go_ret
    exact ⟨rfl, grown_trans hg0 hg1, hR1⟩
end Go.Proofs.YtgnkncfnkjeinaaDoor
