/-
  The program's reader of types: blanks, signs and words, and how it fails.
-/
import Derived.Test.YtcacembpegoghaaDoorRdS
import Derived.Deep.LoopGhost
namespace Go.Proofs.YtcacembpegoghaaDoor
open Go.RowKit Go.Proofs

set_option maxRecDepth 100000
/-- A reader: its text, and where it is. -/
structure RBox (w : World) (b : Nat) (l : Str) (p : Nat) : Prop where
  c0 : w.cell? ⟨b, 0, none⟩ = some (.string ⟨l.toArray⟩)
  c1 : w.cell? ⟨b, 1, none⟩ = some (.int .i64 p)
  fr : ∀ j, w.frozen? ⟨b, j, none⟩ = false
  lt : b < w.heap.size
theorem RBox.set {w : World} {b : Nat} {l : Str} {p : Nat} (h : RBox w b l p) (q : Nat) : RBox (w.setCell ⟨b, 1, none⟩ (.int .i64 q)) b l q :=
  ⟨(World.cell?_setCell_other _ _ _ _ (by simp)).trans h.c0, World.cell?_setCell_same' _ _ _ (by rw [h.c1]; rfl), fun j => by rw [World.frozen?_setCell]; exact h.fr j, by rw [World.size_setCell]; exact h.lt⟩
theorem RBox.keep {w w' : World} {b : Nat} {l : Str} {p : Nat} (h : RBox w b l p) (hb : Below w.heap.size w w') : RBox w' b l p :=
  ⟨cell_keep h.c0 hb, cell_keep h.c1 hb, fun j => (hb.frozen (p := ⟨b, j, none⟩) h.lt).trans (h.fr j), Nat.lt_of_lt_of_le h.lt hb.size⟩
theorem RBox.far {w : World} {b : Nat} {l : Str} {p : Nat} (h : RBox w b l p) {a : Addr} (ha : a.block ≠ b) (u : Value) : RBox (w.setCell a u) b l p :=
  ⟨(World.cell?_setCell_far w a _ u ha).trans h.c0, (World.cell?_setCell_far w a _ u ha).trans h.c1, fun j => by rw [World.frozen?_setCell]; exact h.fr j, by rw [World.size_setCell]; exact h.lt⟩
theorem grown_at (w : World) (b : Nat) (a : Nat) (u : Value) : w.grownBy (w.setCell ⟨b, a, none⟩ u) (some b) := by
  refine ⟨rfl, rfl, rfl, by rw [World.size_setCell]; exact Nat.le_refl _, fun q hl hne => ?_⟩
  unfold World.setCell
  simp only
  rw [Array.getElem?_modify, if_neg (fun e => hne (by rw [← e]))]
theorem grown_refl (w : World) (b : Nat) : w.grownBy w (some b) := ⟨rfl, rfl, rfl, Nat.le_refl _, fun _ _ _ => rfl⟩
theorem grown_trans {a b c : World} {row : Option Nat} (h1 : a.grownBy b row) (h2 : b.grownBy c row) : a.grownBy c row :=
  ⟨h2.os.trans h1.os, h2.tape.trans h1.tape, h2.output.trans h1.output, Nat.le_trans h1.size h2.size, fun q hl hne => (h2.block q (Nat.lt_of_lt_of_le hl h1.size) hne).trans (h1.block q hl hne)⟩
theorem grown_belowB {a w w' : World} {b : Nat} (h : a.grownBy w (some b)) (hb : Below w.heap.size w w') : a.grownBy w' (some b) :=
  grown_trans h ⟨hb.os, hb.tape, hb.output, hb.size, fun q hl _ => hb.block q hl⟩

theorem grown_drewN {a w : World} {row : Option Nat} (h : a.grownBy w row) (n : Nat) : a.grownBy (w.drewN n) row := ⟨h.os, h.tape, h.output, h.size, h.block⟩
theorem RBox.drewN {w : World} {b : Nat} {l : Str} {p : Nat} (h : RBox w b l p) (n : Nat) : RBox (w.drewN n) b l p := ⟨h.c0, h.c1, h.fr, h.lt⟩

theorem sk_step {l : Str} {p : Nat} (h : l[p]? = some 32) : sk l p = sk l (p + 1) := by
  unfold sk
  rw [drop_at h, List.takeWhile_cons]
  simp
  omega
theorem sk_stop {l : Str} {p : Nat} {x : UInt8} (h : l[p]? = some x) (hx : x ≠ 32) : sk l p = p := by
  unfold sk
  rw [drop_at h, List.takeWhile_cons]
  simp [hx]
theorem sk_end {l : Str} {p : Nat} (h : l.length ≤ p) : sk l p = p := by
  unfold sk
  rw [List.drop_eq_nil_of_le h]
  rfl

set_option maxHeartbeats 1000000 in
theorem blanks_any (l : Str) (b p : Nat) (w : World) (hl : l.length ≤ 2000) (hp : p ≤ l.length) (hR : RBox w b l p) :
    Calls Tryd.prog 107 #[.pointer (some ⟨b, 0, none⟩)] w fun e w' => e = .returned (.tuple #[]) ∧ w.grownBy w' (some b) ∧ RBox w' b l (sk l p) := by
  obtain ⟨Q, hQ⟩ : ∃ x, sk l p = x := ⟨_, rfl⟩
  rw [hQ]
  have HQ := Lib.hid hQ; clear hQ
  go_enter Tryd.func107, Tryd.ntmps107
  go_wp2_with fail
  go_loopg [] (l.length - p) (fun gk wr => ∃ k, k ≤ l.length ∧ l.length - k ≤ gk ∧ sk l k = Q ∧ RBox wr b l k ∧ w.grownBy wr (some b))
  case atStart => exact ⟨p, hp, Nat.le_refl _, HQ.out, hR, ⟨rfl, rfl, rfl, Nat.le_refl _, fun _ _ _ => rfl⟩⟩
  case round =>
    obtain ⟨k, hk, hgk, hq, hB, hg⟩ := hrel
    have HK := Lib.hid hq; clear hq hR
    obtain ⟨c0, c1, fr, lt⟩ := id hB
    by_cases hlt : k < l.length
    · obtain ⟨x, hx⟩ : ∃ x, l[k]? = some x := ⟨_, List.getElem?_eq_getElem hlt⟩
      have HX := Lib.hid hx; clear hx
      have E : (⟨l.toArray⟩ : ByteArray)[k]'(by simpa [ByteArray.size] using hlt) = x := byte_at' HX.out _
      have hlt' : (k : Int) < (l.length : Int) := by omega
      by_cases h32 : x = 32
      · subst h32
        go_wp2_with fail
        go_quiet (fail)
        have hB2 := hB.drewN nq
        have hg2 := grown_drewN hg nq
        generalize wr.drewN nq = w2 at hB2 hg2 ⊢
        clear c0 c1 fr lt hB hg
        obtain ⟨c0, c1, fr, lt⟩ := id hB2
        go_wp2_with fail
        go_roundg (l.length - (k + 1))
        case measure => omega
        case rel => exact ⟨k + 1, by omega, Nat.le_refl _, by rw [← HK.out]; exact (sk_step HX.out).symm, by simpa using hB2.set (k + 1), grown_trans hg2 (grown_at _ _ _ _)⟩
      · have h32' : ((x.toNat : Int) == 32) = false := by
          rw [beq_eq_false_iff_ne]
          intro e
          exact h32 (UInt8.toNat.inj (by simpa using (by omega : x.toNat = 32)))
        go_wp2_with fail
        go_quiet (fail)
        have hB2 := hB.drewN nq
        have hg2 := grown_drewN hg nq
        generalize wr.drewN nq = w2 at hB2 hg2 ⊢
        clear c0 c1 fr lt hB hg
        go_wp2_with fail
        go_end0
        refine ⟨rfl, hg2, ?_⟩
        rw [← HK.out, sk_stop HX.out h32]
        exact hB2
    · have hlt' : decide ((k : Int) < (l.length : Int)) = false := by simp; omega
      go_wp2_with fail
      go_quiet (fail)
      have hB2 := hB.drewN nq
      have hg2 := grown_drewN hg nq
      generalize wr.drewN nq = w2 at hB2 hg2 ⊢
      clear c0 c1 fr lt hB hg
      go_wp2_with fail
      go_end0
      refine ⟨rfl, hg2, ?_⟩
      rw [← HK.out, sk_end (by omega)]
      exact hB2

set_option maxHeartbeats 1000000 in
theorem is_any (l : Str) (b p : Nat) (c : UInt8) (w : World) (hl : l.length ≤ 2000) (hp : p ≤ l.length) (hR : RBox w b l p) :
    Calls Tryd.prog 189 #[.pointer (some ⟨b, 0, none⟩), .int .u8 c.toNat] w fun e w' => e = .returned (.bool (decide (l[sk l p]? = some c))) ∧ w.grownBy w' (some b) ∧ RBox w' b l (sk l p) := by
  have hs := sk_le hp
  have hcall := blanks_any l b p w hl hp hR
  obtain ⟨q, hQ⟩ : ∃ x, sk l p = x := ⟨_, rfl⟩
  rw [hQ] at hs hcall ⊢
  clear hQ
  by_cases hlt : q < l.length
  · obtain ⟨x, hx⟩ : ∃ x, l[q]? = some x := ⟨_, List.getElem?_eq_getElem hlt⟩
    rw [hx]
    have HX := Lib.hid hx; clear hx
    have E : (⟨l.toArray⟩ : ByteArray)[q]'(by simpa [ByteArray.size] using hlt) = x := byte_at' HX.out _
    have hlt' : (q : Int) < (l.length : Int) := by omega
    go_enter Tryd.func189, Tryd.ntmps189
    go_wp2_with fail
    refine hcall.mono ?_; clear hcall
    rintro e w1 ⟨rfl, hg1, hB1⟩
    obtain ⟨c0, c1, fr, lt⟩ := id hB1
    go_wp2_with fail
    go_quiet (fail)
    have hB2 := hB1.drewN nq
    have hg2 := grown_drewN hg1 nq
    generalize w1.drewN nq = w2 at hB2 hg2 ⊢
    go_wp2_with fail
    go_ret
    refine ⟨ret_bool ?_, hg2, hB2⟩
    rw [Bool.eq_iff_iff]
    simp only [beq_iff_eq, decide_eq_true_eq, Option.some.injEq]
    exact ⟨fun h => UInt8.toNat.inj (by omega), fun h => by rw [h]⟩
  · have hlt' : decide ((q : Int) < (l.length : Int)) = false := by simp; omega
    have hq : l[q]? = none := by simp; omega
    rw [hq]
    go_enter Tryd.func189, Tryd.ntmps189
    go_wp2_with fail
    refine hcall.mono ?_; clear hcall
    rintro e w1 ⟨rfl, hg1, hB1⟩
    obtain ⟨c0, c1, fr, lt⟩ := id hB1
    go_wp2_with fail
    go_quiet (fail)
    have hB2 := hB1.drewN nq
    have hg2 := grown_drewN hg1 nq
    generalize w1.drewN nq = w2 at hB2 hg2 ⊢
    go_wp2_with fail
    go_ret
    exact ⟨ret_bool (by simp), hg2, hB2⟩

/-- What is thrown. -/
def thrown (q : Nat) : List PanicEntry := [{ v := .iface 136 (.agg #[.int .i64 3, .int .i64 q]), recovered := false }]
theorem fail_any (l : Str) (b p : Nat) (w : World) (hR : RBox w b l p) :
    Calls Tryd.prog 187 #[.pointer (some ⟨b, 0, none⟩)] w fun e w' => e = .panicked (thrown p) ∧ w.grownBy w' (some b) := by
  obtain ⟨c0, c1, fr, lt⟩ := id hR
  go_enter Tryd.func187, Tryd.ntmps187
  go_wp2_with fail
  exact ⟨rfl, rfl, grown_refl w b⟩
theorem trim_any' (l : Str) (w : World) :
    Calls Tryd.prog 247 #[.string ⟨l.toArray⟩, .string ⟨#[97, 98, 99, 100, 101, 102, 103, 104, 105, 106, 107, 108, 109, 110, 111, 112, 113, 114, 115, 116, 117, 118, 119, 120, 121, 122]⟩] w fun e w' => e = .returned (.string ⟨(l.dropWhile lowb).toArray⟩) ∧ Below w.heap.size w w' := by
  have h := Any.strings_TrimLeft_laid Tryd.lays161 (by kernel_rfl) ⟨l.toArray⟩ ⟨alphabet.toArray⟩ w (by decide) (ascii_of_all (by decide +kernel))
  have e : Lib.trimLeftS l alphabet = l.dropWhile lowb := by
    unfold Lib.trimLeftS
    congr 1
    funext x
    exact alphabet_has x
  simp only at h
  rw [e] at h
  exact h
set_option maxHeartbeats 1000000 in
theorem word_any (l : Str) (b p : Nat) (w : World) (hl : l.length ≤ 2000) (hp : p ≤ l.length) (hR : RBox w b l p) :
    Calls Tryd.prog 186 #[.pointer (some ⟨b, 0, none⟩)] w fun e w' => e = .returned (.string ⟨(wd l (sk l p)).toArray⟩) ∧ w.grownBy w' (some b) ∧ RBox w' b l (sk l p) := by
  have hs := sk_le hp
  have hcall := blanks_any l b p w hl hp hR
  obtain ⟨q, hQ⟩ : ∃ x, sk l p = x := ⟨_, rfl⟩
  rw [hQ] at hs hcall ⊢
  clear hQ
  obtain ⟨WD, hW⟩ : ∃ x, wd l q = x := ⟨_, rfl⟩
  rw [hW]
  have HW := Lib.hid hW; clear hW
  go_enter Tryd.func186, Tryd.ntmps186
  go_wp2_with fail
  refine hcall.mono ?_; clear hcall
  rintro e w1 ⟨rfl, hg1, hB1⟩
  obtain ⟨c0, c1, fr, lt⟩ := id hB1
  have g1 : ¬ (l.length : Int) < (q : Int) := by omega
  have g2 : ¬ (q : Int) < 0 := by omega
  have g3 : 0 ≤ (q : Int) ∧ (q : Int) ≤ (l.length : Int) := by omega
  have g4 : (q : Int) ≤ (l.length : Int) := by omega
  have g5 : (l.length : Int) ≤ 2000 := by omega
  go_wp2_with fail
  go_quiet (fail)
  have hB2 := hB1.drewN nq
  have hg2 := grown_drewN hg1 nq
  generalize w1.drewN nq = w2 at hB2 hg2 ⊢
  clear c0 c1 fr lt hB1 hg1
  have hDl : (l.drop q).length = l.length - q := List.length_drop
  have hT := tw_take lowb (l.drop q)
  have hTl := (List.dropWhile_sublist lowb (l := l.drop q)).length_le
  go_wp2_with fail
  refine (trim_any' _ _).mono ?_
  rintro e w3 ⟨rfl, hb3⟩
  have hB3 := hB2.keep hb3
  have hg3 := grown_belowB hg2 hb3
  have hWD : Hid ((l.drop q).take ((l.drop q).length - ((l.drop q).dropWhile lowb).length) = WD) := Lib.hid (hT.trans HW.out)
  generalize (l.drop q).dropWhile lowb = T at hTl hWD ⊢
  generalize l.drop q = D at hDl hTl hWD ⊢
  clear hB2 hg2 hb3 hT HW
  clear w2
  have k1 : ((D.length : Int) - (T.length : Int)) = ((D.length - T.length : Nat) : Int) := by omega
  have k2 : ((D.length - T.length : Nat) : Int) ≤ (D.length : Int) := by omega
  go_wp2_with fail
  go_ret
  rw [hDl] at hWD
  exact ⟨by rw [hWD.out]; rfl, hg3, hB3⟩

/-- What a reading answers in the program: the rest behind it, or what is thrown. -/
theorem sign_ok (l : Str) (b p : Nat) (c : UInt8) (w : World) (hl : l.length ≤ 2000) (hp : p ≤ l.length) (hR : RBox w b l p) (h : l[sk l p]? = some c) :
    Calls Tryd.prog 188 #[.pointer (some ⟨b, 0, none⟩), .int .u8 c.toNat] w fun e w' => e = .returned (.tuple #[]) ∧ w.grownBy w' (some b) ∧ RBox w' b l (sk l p + 1) := by
  have hs := sk_le hp
  have hlt := at_lt h
  have hcall := is_any l b p c w hl hp hR
  rw [h] at hcall
  generalize sk l p = q at hs hlt hcall ⊢
  clear h
  go_enter Tryd.func188, Tryd.ntmps188
  go_wp2_with fail
  refine hcall.mono ?_; clear hcall
  rintro e w1 ⟨rfl, hg1, hB1⟩
  obtain ⟨c0, c1, fr, lt⟩ := id hB1
  go_wp2_with fail
  go_end0
  exact ⟨rfl, grown_trans hg1 (grown_at _ _ _ _), by simpa using hB1.set (q + 1)⟩
theorem sign_bad (l : Str) (b p : Nat) (c : UInt8) (w : World) (hl : l.length ≤ 2000) (hp : p ≤ l.length) (hR : RBox w b l p) (h : ¬ l[sk l p]? = some c) :
    Calls Tryd.prog 188 #[.pointer (some ⟨b, 0, none⟩), .int .u8 c.toNat] w fun e w' => e = .panicked (thrown (sk l p)) ∧ w.grownBy w' (some b) := by
  have hs := sk_le hp
  have hcall := is_any l b p c w hl hp hR
  have hd : decide (l[sk l p]? = some c) = false := by simpa using h
  rw [hd] at hcall
  generalize sk l p = q at hs hcall ⊢
  clear h hd
  go_enter Tryd.func188, Tryd.ntmps188
  go_wp2_with fail
  refine hcall.mono ?_; clear hcall
  rintro e w1 ⟨rfl, hg1, hB1⟩
  go_wp2_with fail
  refine (fail_any l b q w1 hB1).mono ?_
  rintro e w2 ⟨rfl, hg2⟩
  exact ⟨rfl, rfl, grown_trans hg1 hg2⟩
end Go.Proofs.YtcacembpegoghaaDoor
