/-
  The program's reader of conversations: signs and words, and how it fails.
  What the texts of conversations need: append of strings, the words of the sorts, the reference's joined.
-/
import Derived.Test.YtgnkncfnkjeinaaDoorM10
import Derived.Test.YtgnkncfnkjeinaaDoorM8
namespace Go.Proofs.YtgnkncfnkjeinaaDoor
open Go.RowKit Go.Proofs

set_option maxRecDepth 100000
set_option maxHeartbeats 2000000 in
theorem gis_any (l : Str) (b p : Nat) (c : UInt8) (w : World) (hl : l.length ≤ 2000) (hp : p ≤ l.length) (hR : RBox w b l p) :
    Calls Tryd.prog 57 #[.pointer (some ⟨b, 0, none⟩), .int .u8 c.toNat] w fun e w' => e = .returned (.bool (decide (l[sk l p]? = some c))) ∧ w.grownBy w' (some b) ∧ RBox w' b l (sk l p) := by
  obtain ⟨Q, hQ⟩ : ∃ x, sk l p = x := ⟨_, rfl⟩
  rw [hQ]
  have HQ := Lib.hid hQ; clear hQ
  go_enter Tryd.func57, Tryd.ntmps57
  go_wp2_with fail
  go_loopg [] (l.length - p) (fun gk wr => ∃ k, k ≤ l.length ∧ l.length - k ≤ gk ∧ sk l k = Q ∧ RBox wr b l k ∧ w.grownBy wr (some b))
  case atStart => exact ⟨p, hp, Nat.le_refl _, HQ.out, hR, grown_refl w b⟩
  case round =>
    obtain ⟨k, hk, hgk, hq, hB, hg⟩ := hrel
    have HK := Lib.hid hq; clear hq hR
    obtain ⟨c0, c1, fr, lt⟩ := id hB
    by_cases hlt : k < l.length
    · obtain ⟨x, hx⟩ : ∃ x, l[k]? = some x := ⟨_, List.getElem?_eq_getElem hlt⟩
      have HX := Lib.hid hx; clear hx
      have E : (⟨l.toArray⟩ : ByteArray)[k]'(by simpa [ByteArray.size] using hlt) = x := byte_at' HX.out _
      have hlt' : (k : Int) < (l.length : Int) := by omega
      by_cases h32 : x = 32
      · subst h32
        go_wp2_with fail
        go_quiet (fail)
        have hB2 := hB.drewN nq
        have hg2 := grown_drewN hg nq
        generalize wr.drewN nq = w2 at hB2 hg2 ⊢
        clear c0 c1 fr lt hB hg
        obtain ⟨c0, c1, fr, lt⟩ := id hB2
        go_wp2_with fail
        go_roundg (l.length - (k + 1))
        case measure => omega
        case rel => exact ⟨k + 1, by omega, Nat.le_refl _, by rw [← HK.out]; exact (sk_step HX.out).symm, by simpa using hB2.set (k + 1), grown_trans hg2 (grown_at _ _ _ _)⟩
      · have h32' : ((x.toNat : Int) == 32) = false := by
          rw [beq_eq_false_iff_ne]
          intro e
          exact h32 (UInt8.toNat.inj (by simpa using (by omega : x.toNat = 32)))
        have hkq : k = Q := by rw [← HK.out, sk_stop HX.out h32]
        subst hkq
        go_wp2_with fail
        go_quiet (fail)
        have hB2 := hB.drewN nq
        have hg2 := grown_drewN hg nq
        generalize wr.drewN nq = w2 at hB2 hg2 ⊢
        clear c0 c1 fr lt hB hg
        obtain ⟨c0, c1, fr, lt⟩ := id hB2
        go_wp2_with fail
        go_quiet (fail)
        have hB3 := hB2.drewN nq
        have hg3 := grown_drewN hg2 nq
        generalize w2.drewN nq = w3 at hB3 hg3 ⊢
        clear c0 c1 fr lt hB2 hg2
        go_wp2_with fail
        go_ret
        refine ⟨ret_bool ?_, hg3, hB3⟩
        rw [HX.out, Bool.eq_iff_iff]
        simp only [beq_iff_eq, decide_eq_true_eq, Option.some.injEq]
        exact ⟨fun h => UInt8.toNat.inj (by omega), fun h => by rw [h]⟩
    · have hlt' : decide ((k : Int) < (l.length : Int)) = false := by simp; omega
      have hkq : k = Q := by rw [← HK.out, sk_end (by omega)]
      subst hkq
      go_wp2_with fail
      go_quiet (fail)
      have hB2 := hB.drewN nq
      have hg2 := grown_drewN hg nq
      generalize wr.drewN nq = w2 at hB2 hg2 ⊢
      clear c0 c1 fr lt hB hg
      obtain ⟨c0, c1, fr, lt⟩ := id hB2
      go_wp2_with fail
      go_quiet (fail)
      have hB3 := hB2.drewN nq
      have hg3 := grown_drewN hg2 nq
      generalize w2.drewN nq = w3 at hB3 hg3 ⊢
      clear c0 c1 fr lt hB2 hg2
      go_wp2_with fail
      go_ret
      have hq : l[k]? = none := by simp; omega
      exact ⟨ret_bool (by rw [hq]; simp), hg3, hB3⟩

/-- What is thrown. -/
def gthrown (q : Nat) : List PanicEntry := [{ v := .iface 87 (.agg #[.int .i64 3, .int .i64 q]), recovered := false }]
theorem gfail_any (l : Str) (b p : Nat) (w : World) (hR : RBox w b l p) :
    Calls Tryd.prog 58 #[.pointer (some ⟨b, 0, none⟩)] w fun e w' => e = .panicked (gthrown p) ∧ w.grownBy w' (some b) := by
  obtain ⟨c0, c1, fr, lt⟩ := id hR
  go_enter Tryd.func58, Tryd.ntmps58
  go_wp2_with fail
  exact ⟨rfl, rfl, grown_refl w b⟩
theorem gsign_ok (l : Str) (b p : Nat) (c : UInt8) (w : World) (hl : l.length ≤ 2000) (hp : p ≤ l.length) (hR : RBox w b l p) (h : l[sk l p]? = some c) :
    Calls Tryd.prog 94 #[.pointer (some ⟨b, 0, none⟩), .int .u8 c.toNat] w fun e w' => e = .returned (.tuple #[]) ∧ w.grownBy w' (some b) ∧ RBox w' b l (sk l p + 1) := by
  have hs := sk_le hp
  have hlt := at_lt h
  have hcall := gis_any l b p c w hl hp hR
  rw [h] at hcall
  generalize sk l p = q at hs hlt hcall ⊢
  clear h
  go_enter Tryd.func94, Tryd.ntmps94
  go_wp2_with fail
  refine hcall.mono ?_; clear hcall
  rintro e w1 ⟨rfl, hg1, hB1⟩
  obtain ⟨c0, c1, fr, lt⟩ := id hB1
  go_wp2_with fail
  go_end0
  exact ⟨rfl, grown_trans hg1 (grown_at _ _ _ _), by simpa using hB1.set (q + 1)⟩
theorem gsign_bad (l : Str) (b p : Nat) (c : UInt8) (w : World) (hl : l.length ≤ 2000) (hp : p ≤ l.length) (hR : RBox w b l p) (h : ¬ l[sk l p]? = some c) :
    Calls Tryd.prog 94 #[.pointer (some ⟨b, 0, none⟩), .int .u8 c.toNat] w fun e w' => e = .panicked (gthrown (sk l p)) ∧ w.grownBy w' (some b) := by
  have hs := sk_le hp
  have hcall := gis_any l b p c w hl hp hR
  have hd : decide (l[sk l p]? = some c) = false := by simpa using h
  rw [hd] at hcall
  generalize sk l p = q at hs hcall ⊢
  clear h hd
  go_enter Tryd.func94, Tryd.ntmps94
  go_wp2_with fail
  refine hcall.mono ?_; clear hcall
  rintro e w1 ⟨rfl, hg1, hB1⟩
  go_wp2_with fail
  refine (gfail_any l b q w1 hB1).mono ?_
  rintro e w2 ⟨rfl, hg2⟩
  exact ⟨rfl, rfl, grown_trans hg1 hg2⟩
set_option maxHeartbeats 1000000 in
theorem gpeek_any (l : Str) (b p : Nat) (w : World) (hl : l.length ≤ 2000) (hp : p ≤ l.length) (hR : RBox w b l p) :
    Calls Tryd.prog 118 #[.pointer (some ⟨b, 0, none⟩)] w fun e w' => e = .returned (.string ⟨(wd l (sk l p)).toArray⟩) ∧ w.grownBy w' (some b) ∧ RBox w' b l (sk l p) := by
  have hs := sk_le hp
  have hcall := gis_any l b p 32 w hl hp hR
  obtain ⟨q, hQ⟩ : ∃ x, sk l p = x := ⟨_, rfl⟩
  rw [hQ] at hs hcall ⊢
  clear hQ
  generalize decide (l[q]? = some 32) = bq at hcall
  obtain ⟨WD, hW⟩ : ∃ x, wd l q = x := ⟨_, rfl⟩
  rw [hW]
  have HW := Lib.hid hW; clear hW
  go_enter Tryd.func118, Tryd.ntmps118
  go_wp2_with fail
  refine hcall.mono ?_; clear hcall
  rintro e w1 ⟨rfl, hg1, hB1⟩
  obtain ⟨c0, c1, fr, lt⟩ := id hB1
  have g1 : ¬ (l.length : Int) < (q : Int) := by omega
  have g2 : ¬ (q : Int) < 0 := by omega
  have g3 : 0 ≤ (q : Int) ∧ (q : Int) ≤ (l.length : Int) := by omega
  have g4 : (q : Int) ≤ (l.length : Int) := by omega
  have g5 : (l.length : Int) ≤ 2000 := by omega
  go_wp2_with fail
  go_quiet (fail)
  have hB2 := hB1.drewN nq
  have hg2 := grown_drewN hg1 nq
  generalize w1.drewN nq = w2 at hB2 hg2 ⊢
  clear c0 c1 fr lt hB1 hg1
  have hDl : (l.drop q).length = l.length - q := List.length_drop
  have hT := tw_take lowb (l.drop q)
  have hTl := (List.dropWhile_sublist lowb (l := l.drop q)).length_le
  go_wp2_with fail
  refine (trim_any' _ _).mono ?_
  rintro e w3 ⟨rfl, hb3⟩
  have hB3 := hB2.keep hb3
  have hg3 := grown_belowB hg2 hb3
  have hWD : Hid ((l.drop q).take ((l.drop q).length - ((l.drop q).dropWhile lowb).length) = WD) := Lib.hid (hT.trans HW.out)
  generalize (l.drop q).dropWhile lowb = T at hTl hWD ⊢
  generalize l.drop q = D at hDl hTl hWD ⊢
  clear hB2 hg2 hb3 hT HW
  clear w2
  have k1 : ((D.length : Int) - (T.length : Int)) = ((D.length - T.length : Nat) : Int) := by omega
  have k2 : ((D.length - T.length : Nat) : Int) ≤ (D.length : Int) := by omega
  go_wp2_with fail
  go_ret
  rw [hDl] at hWD
  exact ⟨by rw [hWD.out]; rfl, hg3, hB3⟩

section
variable (right : Str → Bool) (F : FuncId) (cap : Array Value) (hF : ∀ (args : Array Value) (w : World), (callFunc F args).run Tryd.prog w = .ok (.enter F args) w) (l : Str) (b p : Nat) (w : World) (hl : l.length ≤ 2000) (hp : p ≤ l.length) (hR : RBox w b l p)
  (hr : ∀ (x : Str) (w' : World), x.length ≤ 2000 → w.grownBy w' (some b) → Calls Tryd.prog F (#[.string ⟨x.toArray⟩] ++ cap) w' fun e w'' => e = .returned (.bool (right x)) ∧ Below w'.heap.size w' w'')
include hF hl hp hR hr
theorem gword_ok (h : right (wd l (sk l p)) = true) :
    Calls Tryd.prog 93 #[.pointer (some ⟨b, 0, none⟩), .func (.func F) #[] cap] w fun e w' => e = .returned (.string ⟨(wd l (sk l p)).toArray⟩) ∧ w.grownBy w' (some b) ∧ RBox w' b l (sk l p + (wd l (sk l p)).length) := by
  have hs := sk_le hp
  have hw := wd_le hs.2
  have hcall := gpeek_any l b p w hl hp hR
  have H := Lib.hid h; clear h
  generalize sk l p = q at hs hw hcall H ⊢
  generalize wd l q = W at hw hcall H ⊢
  go_enter Tryd.func93, Tryd.ntmps93
  go_wp2_with fail
  refine hcall.mono ?_; clear hcall
  rintro e w1 ⟨rfl, hg1, hB1⟩
  go_wp2_with fail
  refine (hr W w1 (by omega) hg1).mono ?_; rw [H.out]; rintro e w2 ⟨rfl, hb2⟩
  have hB2 := hB1.keep hb2
  have hg2 := grown_belowB hg1 hb2
  obtain ⟨c0, c1, fr, lt⟩ := id hB2
  go_wp2_with fail
  go_ret
  have e1 : ((q + W.length : Nat) : Int) = (q : Int) + (W.length : Int) := by omega
  refine ⟨rfl, grown_trans hg2 (grown_at _ _ _ _), ?_⟩
  rw [← e1]
  exact hB2.set (q + W.length)
theorem gword_bad (h : right (wd l (sk l p)) = false) :
    Calls Tryd.prog 93 #[.pointer (some ⟨b, 0, none⟩), .func (.func F) #[] cap] w fun e w' => e = .panicked (gthrown (sk l p)) ∧ w.grownBy w' (some b) := by
  have hs := sk_le hp
  have hw := wd_le hs.2
  have hcall := gpeek_any l b p w hl hp hR
  have H := Lib.hid h; clear h
  generalize sk l p = q at hs hw hcall H ⊢
  generalize wd l q = W at hw hcall H ⊢
  go_enter Tryd.func93, Tryd.ntmps93
  go_wp2_with fail
  refine hcall.mono ?_; clear hcall
  rintro e w1 ⟨rfl, hg1, hB1⟩
  go_wp2_with fail
  refine (hr W w1 (by omega) hg1).mono ?_; rw [H.out]; rintro e w2 ⟨rfl, hb2⟩
  have hB2 := hB1.keep hb2
  have hg2 := grown_belowB hg1 hb2
  go_wp2_with fail
  refine (gfail_any l b q w2 hB2).mono ?_
  rintro e w3 ⟨rfl, hg3⟩
  exact ⟨rfl, rfl, grown_trans hg2 hg3⟩
end
/-- What is right as the other role. -/
theorem g1_any (x u : Str) (a : Nat) (w : World) (hx : x.length ≤ 2000) (hc : w.cell? ⟨a, 0, none⟩ = some (.string ⟨u.toArray⟩)) : Calls Tryd.prog 95 #[.string ⟨x.toArray⟩, .pointer (some ⟨a, 0, none⟩)] w fun e w' => e = .returned (.bool (otherOk u x)) ∧ Below w.heap.size w w' := by
  have hcall := fun w => isRole_any x w (by omega)
  cases hi : isRole x with
  | false =>
    have HI := Lib.hid hi; clear hi
    go_enter Tryd.func95, Tryd.ntmps95
    go_wp2_with fail
    refine (hcall w).mono ?_; rw [HI.out]; rintro e w1 ⟨rfl, hb1⟩
    go_wp2_with fail
    go_ret
    exact ⟨ret_bool (by simp [otherOk, HI.out]), hb1⟩
  | true =>
    have HI := Lib.hid hi; clear hi
    go_enter Tryd.func95, Tryd.ntmps95
    go_wp2_with fail
    refine (hcall w).mono ?_; rw [HI.out]; rintro e w1 ⟨rfl, hb1⟩
    have hc1 := cell_keep hc hb1
    go_wp2_with fail
    go_ret
    exact ⟨ret_bool (by simp [otherOk, HI.out]), hb1⟩
/-- The words of global.sorts as they lie in the world. -/
def GSorts (w : World) : Prop := ∃ b o c, w.cell? ⟨1, 0, none⟩ = some (.slice (some ⟨b, o, none⟩) 4 c) ∧ 4 ≤ c ∧ StrRow w b o [[], [105, 110, 116], [98, 111, 111, 108], [116, 101, 120, 116]]
theorem GSorts.keep {w w' : World} (h : GSorts w) (hb : Below w.heap.size w w') : GSorts w' := by
  obtain ⟨b, o, c, h1, h2, h3⟩ := h
  exact ⟨b, o, c, cell_keep h1 hb, h2, h3.keep hb⟩
theorem g2_any (x : Str) (w : World) (hx : x.length ≤ 2000) (hS : GSorts w) : Calls Tryd.prog 97 #[.string ⟨x.toArray⟩] w fun e w' => e = .returned (.bool (decide (0 < sortIx x))) ∧ Below w.heap.size w w' := by
  obtain ⟨gb, go, gc, h1, h2, h3⟩ := hS
  have hcall := index_sorts (gc := gc) h3 x
  have e : decide (0 < ixOf x) = decide (0 < sortIx x) := by
    by_cases h0 : sortIx x = 0
    · have := ixOf_lt h0
      rw [h0]; simp; omega
    · rw [ixOf_eq h0]
  go_enter Tryd.func97, Tryd.ntmps97
  go_wp2_with fail
  refine hcall.mono ?_; clear hcall
  rintro e1 w1 ⟨rfl, rfl⟩
  go_wp2_with fail
  go_ret
  exact ⟨ret_bool (by rw [← e]), by go_grown⟩
set_option maxHeartbeats 1000000 in
/-- What is right as the next label; the labels lie in the box that is being filled. -/
theorem gc1_any (x : Str) (ls : List Str) (lv : Value) (a X : Nat) (w : World) (hx : x.length ≤ 2000) (hv : IsStrs w lv ls) (hn : ls.length ≤ 7) (hp : w.cell? ⟨a, 0, none⟩ = some (.pointer (some ⟨X, 0, none⟩))) (hc : w.cell? ⟨X, 5, none⟩ = some lv) :
    Calls Tryd.prog 119 #[.string ⟨x.toArray⟩, .pointer (some ⟨a, 0, none⟩)] w fun e w' => e = .returned (.bool (labelOk ls x)) ∧ Below w.heap.size w w' := by
  obtain ⟨A, cap, rfl, hcap, hr⟩ := hv
  obtain ⟨ANS, hA⟩ : ∃ y, labelOk ls x = y := ⟨_, rfl⟩
  have HA := Lib.hid hA; rw [hA]; clear hA
  have hcall := fun w => isName_any x w (by omega)
  cases hi : isName x with
  | false =>
    have HI := Lib.hid hi; clear hi
    go_enter Tryd.func119, Tryd.ntmps119
    go_wp2_with fail
    refine (hcall w).mono ?_; rw [HI.out]; rintro e w1 ⟨rfl, hb1⟩
    go_wp2_with fail
    go_ret
    exact ⟨ret_bool (by rw [← HA.out]; simp [labelOk, HI.out]), hb1⟩
  | true =>
    have HI := Lib.hid hi; clear hi
    by_cases h6 : ls.length < 6
    · have h6' : (ls.length : Int) < 6 := by omega
      by_cases h0 : ls.length = 0
      · have hl : ls = [] := List.eq_nil_of_length_eq_zero h0
        subst hl
        go_enter Tryd.func119, Tryd.ntmps119
        go_wp2_with fail
        refine (hcall w).mono ?_; rw [HI.out]; rintro e w1 ⟨rfl, hb1⟩
        go_wp2_with fail
        go_ret
        exact ⟨ret_bool (by rw [← HA.out]; simp [labelOk, HI.out, behind]), hb1⟩
      · obtain ⟨b, off, rfl, hrow⟩ := hr (by omega)
        obtain ⟨q, hq⟩ : ∃ q, ls[ls.length - 1]? = some q := ⟨_, List.getElem?_eq_getElem (by omega)⟩
        have hcell := hrow _ _ hq
        have hlast : ls.getLast? = some q := by rw [List.getLast?_eq_getElem?]; exact hq
        have HLT := Lib.hid hlast
        have g0 : ((ls.length : Int) == 0) = false := by rw [beq_eq_false_iff_ne]; omega
        have e1 : ((ls.length : Int) - 1) = ((ls.length - 1 : Nat) : Int) := by omega
        have HE1 := Lib.hid e1
        have g1 : 0 ≤ (ls.length : Int) - 1 ∧ (ls.length : Int) - 1 < (ls.length : Int) := by omega
        clear hrow hq hlast e1 hr
        go_enter Tryd.func119, Tryd.ntmps119
        go_wp2_with fail
        refine (hcall w).mono ?_; rw [HI.out]; rintro e w1 ⟨rfl, hb1⟩
        have hp1 := cell_keep hp hb1
        have hc1 := cell_keep hc hb1
        have hc2 := cell_keep hcell hb1
        go_wp2_with fail
        go_ret
        exact ⟨ret_bool (by rw [← HA.out]; simp [labelOk, HI.out, HLT.out, h6, behind_some, less_total]), hb1⟩
    · have h6' : decide ((ls.length : Int) < 6) = false := by simp; omega
      go_enter Tryd.func119, Tryd.ntmps119
      go_wp2_with fail
      refine (hcall w).mono ?_; rw [HI.out]; rintro e w1 ⟨rfl, hb1⟩
      go_wp2_with fail
      go_ret
      exact ⟨ret_bool (by rw [← HA.out]; simp [labelOk, HI.out]; omega), hb1⟩
end Go.Proofs.YtgnkncfnkjeinaaDoor
namespace Go.Proofs.YtgnkncfnkjeinaaDoor
open Go.RowKit Go.Proofs
set_option maxRecDepth 100000

theorem app_list (a b : List UInt8) : (⟨a.toArray⟩ : ByteArray) ++ ⟨b.toArray⟩ = ⟨(a ++ b).toArray⟩ := by
  rw [str_data ((⟨a.toArray⟩ : ByteArray) ++ ⟨b.toArray⟩)]
  simp [ByteArray.data_append]
attribute [go_sem] app_list
def GSays (f : FuncId) (t : Gl) (v : Value) (w : World) : Prop := Calls Tryd.prog f #[v] w fun e w' => e = .returned (.string ⟨(gtxt t).toArray⟩) ∧ Below w.heap.size w w'
theorem gsort_row {w : World} {b o : Nat} (h : StrRow w b o [[], [105, 110, 116], [98, 111, 111, 108], [116, 101, 120, 116]]) {s : Nat} (h1 : 1 ≤ s) (h3 : s ≤ 3) : w.cell? ⟨b, o + s, none⟩ = some (.string ⟨(sortWord (s : Int)).toArray⟩) := by
  refine h s _ ?_
  obtain rfl | rfl | rfl : s = 1 ∨ s = 2 ∨ s = 3 := by omega
  all_goals rfl
/-- What is joined when k are done. -/
def joinK (P : List Str) (k : Nat) : Str := joined (P.take k)
theorem joinK_step {P : List Str} {k : Nat} {x : Str} (h : P[k]? = some x) : joinK P (k + 1) = (if k = 0 then [] else joinK P k ++ [44]) ++ x := by
  have hk : k < P.length := (List.getElem?_eq_some_iff.1 h).1
  unfold joinK
  rw [List.take_add_one, h]
  by_cases h0 : k = 0
  · subst h0; simp [joined]
  · rw [if_neg h0]
    have hne : P.take k ≠ [] := by
      intro e
      rcases List.take_eq_nil_iff.1 e with e | e
      · exact h0 e
      · rw [e] at hk; simp at hk
    show joined (P.take k ++ [x]) = _
    rw [joined_snoc _ _ hne]
theorem joinK_len {P : List Str} (hP : ∀ x ∈ P, x.length ≤ 6009) : ∀ {k : Nat}, k ≤ P.length → (joinK P k).length ≤ 6010 * k := by
  intro k
  induction k with
  | zero => intro _; simp [joinK, joined]
  | succ k ih =>
    intro hk
    have h : P[k]? = some P[k] := List.getElem?_eq_getElem (by omega)
    rw [joinK_step h]
    have h1 := ih (by omega)
    have h2 := hP P[k] (List.getElem_mem (by omega))
    split
    · simp only [List.nil_append]; omega
    · simp only [List.length_append, List.length_cons, List.length_nil]; omega
set_option maxHeartbeats 4000000 in
theorem joined_any (P : List Str) (v : Value) (w : World) (hv : IsStrs w v P) (h6 : P.length ≤ 6) (hP : ∀ x ∈ P, x.length ≤ 6009) :
    Calls Tryd.prog 70 #[v, .string ⟨([44] : Str).toArray⟩] w fun e w' => e = .returned (.string ⟨(joined P).toArray⟩) ∧ Below w.heap.size w w' := by
  have hans : joined P = joinK P P.length := by unfold joinK; rw [List.take_length]
  rw [hans]
  have HV := Lib.hid hv
  obtain ⟨A, cap, rfl, -, -⟩ := hv
  have HPX := Lib.hid hP
  clear hP hans
  go_enter Tryd.func70, Tryd.ntmps70
  go_wp2_with fail
  go_loopw [5, 6] (fun s i wr => ∃ k : Nat, k ≤ P.length ∧ i = .int .i64 k ∧ s = .string ⟨(joinK P k).toArray⟩ ∧ wr = w) (fun _ i _ => P.length - (intOf i).toNat)
  case atStart => exact ⟨0, by omega, rfl, rfl, rfl⟩
  case round =>
    obtain ⟨k, hk, rfl, rfl, rfl⟩ := hrel
    have hgl : (joinK P k).length ≤ 40000 := by have := joinK_len HPX.out (k := k) hk; omega
    by_cases hlt : k < P.length
    · obtain ⟨x, hx⟩ : ∃ x, P[k]? = some x := ⟨_, List.getElem?_eq_getElem hlt⟩
      have hxl := HPX.out x (List.mem_of_getElem? hx)
      obtain ⟨lA, lp, el, hlc, hlr⟩ := HV.out
      obtain ⟨lb, loff, rfl, hlrow⟩ := hlr (by omega)
      injection el with el1 el2 el3
      subst el1 el3
      clear el2
      have clab := hlrow k x hx
      have hstep := joinK_step hx
      obtain ⟨N, hN⟩ : ∃ y, joinK P (k + 1) = y := ⟨_, rfl⟩
      rw [hN] at hstep
      have HN := Lib.hid hN; clear hN
      obtain ⟨J, hJ⟩ : ∃ y, joinK P k = y := ⟨_, rfl⟩
      rw [hJ] at hgl hstep ⊢
      have HJ := Lib.hid hJ
      clear hJ hx hlrow hlr
      have HST := Lib.hid hstep; clear hstep
      by_cases h0 : k = 0
      · have hk0 : ¬ 0 < k := by omega
        have HK0 := Lib.hid h0
        have hJ0 : Hid (J = []) := Lib.hid (by rw [← HJ.out, h0]; rfl)
        clear h0
        go_wp2_with fail
        go_roundw
        case rel =>
          refine ⟨k + 1, by omega, by go_num, ?_, trivial⟩
          rw [HN.out, HST.out, if_pos HK0.out, hJ0.out]
        case measure => simp [intOf]; omega
      · have hk0 : 0 < k := by omega
        have HK0 := Lib.hid h0
        clear h0
        go_wp2_with fail
        go_roundw
        case rel =>
          refine ⟨k + 1, by omega, by go_num, ?_, trivial⟩
          rw [HN.out, HST.out, if_neg HK0.out]
          simp
        case measure => simp [intOf]; omega
    · have hkL : k = P.length := by omega
      subst hkL
      clear hlt
      go_wp2_with fail
      go_ret
      exact ⟨rfl, Below.refl _ _⟩
end Go.Proofs.YtgnkncfnkjeinaaDoor
