/-
  The program's reader of types: blanks, signs and words, and how it fails.
  The words of types.sorts as they lie in the world; the type that stands for none.
  The reference's reader goes on and never back; what Begin and Parse answer.
  Readers: what the walks of several readers share.
  The program's reader of a type: one, by cases of what stands there.
  wires' reader: a byte, a number, a text.
  What is read of bytes as events, in plain Lean.
  What is read as a type is a right type.
  wires.Read$1: what is thrown is caught.
  strings.Clone.
-/
import Derived.Test.YtpidjanngbaiiaaGreatDoorM8
import Derived.Deep.LoopGhost
import Derived.Test.YtpidjanngbaiiaaGreatDoorM3
import Derived.Test.YtpidjanngbaiiaaGreatDoorM4
import Derived.Test.YtpidjanngbaiiaaGreatDoorM5
import Derived.Recover
import Derived.Test.YtpidjanngbaiiaaGreatDoorShelf
namespace Go.Proofs.YtpidjanngbaiiaaGreatDoor
open Go.RowKit Go.Proofs

set_option maxRecDepth 100000
structure RBox (w : World) (b : Nat) (l : Str) (p : Nat) : Prop where
 c0 : w.cell? ⟨b, 0, none⟩ = some (.string ⟨l.toArray⟩)
 c1 : w.cell? ⟨b, 1, none⟩ = some (.int .i64 p)
 fr : ∀ j, w.frozen? ⟨b, j, none⟩ = false
 lt : b < w.heap.size
theorem RBox.set {w : World} {b : Nat} {l : Str} {p : Nat} (h : RBox w b l p) (q : Nat) : RBox (w.setCell ⟨b, 1, none⟩ (.int .i64 q)) b l q :=
 ⟨(World.cell?_setCell_other _ _ _ _ (by simp)).trans h.c0, World.cell?_setCell_same' _ _ _ (by rw [h.c1]; rfl), fun j => by rw [World.frozen?_setCell]; exact h.fr j, by rw [World.size_setCell]; exact h.lt⟩
theorem RBox.keep {w w' : World} {b : Nat} {l : Str} {p : Nat} (h : RBox w b l p) (hb : Below w.heap.size w w') : RBox w' b l p :=
 ⟨cell_keep h.c0 hb, cell_keep h.c1 hb, fun j => (hb.frozen (p := ⟨b, j, none⟩) h.lt).trans (h.fr j), Nat.lt_of_lt_of_le h.lt hb.size⟩
theorem RBox.far {w : World} {b : Nat} {l : Str} {p : Nat} (h : RBox w b l p) {a : Addr} (ha : a.block ≠ b) (u : Value) : RBox (w.setCell a u) b l p :=
 ⟨(World.cell?_setCell_far w a _ u ha).trans h.c0, (World.cell?_setCell_far w a _ u ha).trans h.c1, fun j => by rw [World.frozen?_setCell]; exact h.fr j, by rw [World.size_setCell]; exact h.lt⟩
theorem grown_at (w : World) (b : Nat) (a : Nat) (u : Value) : w.grownBy (w.setCell ⟨b, a, none⟩ u) (some b) := by
 refine ⟨rfl, rfl, rfl, by rw [World.size_setCell]; exact Nat.le_refl _, fun q hl hne => ?_⟩
 unfold World.setCell
 simp only
 rw [Array.getElem?_modify, if_neg (fun e => hne (by rw [← e]))]
theorem grown_refl (w : World) (b : Nat) : w.grownBy w (some b) := ⟨rfl, rfl, rfl, Nat.le_refl _, fun _ _ _ => rfl⟩
theorem grown_trans {a b c : World} {row : Option Nat} (h1 : a.grownBy b row) (h2 : b.grownBy c row) : a.grownBy c row :=
 ⟨h2.os.trans h1.os, h2.tape.trans h1.tape, h2.output.trans h1.output, Nat.le_trans h1.size h2.size, fun q hl hne => (h2.block q (Nat.lt_of_lt_of_le hl h1.size) hne).trans (h1.block q hl hne)⟩
theorem grown_belowB {a w w' : World} {b : Nat} (h : a.grownBy w (some b)) (hb : Below w.heap.size w w') : a.grownBy w' (some b) :=
 grown_trans h ⟨hb.os, hb.tape, hb.output, hb.size, fun q hl _ => hb.block q hl⟩

theorem grown_drewN {a w : World} {row : Option Nat} (h : a.grownBy w row) (n : Nat) : a.grownBy (w.drewN n) row := ⟨h.os, h.tape, h.output, h.size, h.block⟩
theorem RBox.drewN {w : World} {b : Nat} {l : Str} {p : Nat} (h : RBox w b l p) (n : Nat) : RBox (w.drewN n) b l p := ⟨h.c0, h.c1, h.fr, h.lt⟩

theorem sk_step {l : Str} {p : Nat} (h : l[p]? = some 32) : sk l p = sk l (p + 1) := by
 unfold sk
 rw [drop_at h, List.takeWhile_cons]
 simp
 omega
theorem sk_stop {l : Str} {p : Nat} {x : UInt8} (h : l[p]? = some x) (hx : x ≠ 32) : sk l p = p := by
 unfold sk
 rw [drop_at h, List.takeWhile_cons]
 simp [hx]
theorem sk_end {l : Str} {p : Nat} (h : l.length ≤ p) : sk l p = p := by
 unfold sk
 rw [List.drop_eq_nil_of_le h]
 rfl

set_option maxHeartbeats 1000000 in
theorem blanks_any (l : Str) (b p : Nat) (w : World) (hl : l.length ≤ 2000) (hp : p ≤ l.length) (hR : RBox w b l p) :
  Calls Tryz.prog 137 #[.pointer (some ⟨b, 0, none⟩)] w fun e w' => e = .returned (.tuple #[]) ∧ w.grownBy w' (some b) ∧ RBox w' b l (sk l p) := by
 obtain ⟨Q, hQ⟩ : ∃ x, sk l p = x := ⟨_, rfl⟩
 rw [hQ]
 have HQ := Lib.hid hQ; clear hQ
 go_enter Tryz.func137, Tryz.ntmps137
 go_wp2_with fail
 go_loopg [] (l.length - p) (fun gk wr => ∃ k, k ≤ l.length ∧ l.length - k ≤ gk ∧ sk l k = Q ∧ RBox wr b l k ∧ w.grownBy wr (some b))
 case atStart => exact ⟨p, hp, Nat.le_refl _, HQ.out, hR, ⟨rfl, rfl, rfl, Nat.le_refl _, fun _ _ _ => rfl⟩⟩
 case round =>
  obtain ⟨k, hk, hgk, hq, hB, hg⟩ := hrel
  have HK := Lib.hid hq; clear hq hR
  obtain ⟨c0, c1, fr, lt⟩ := id hB
  by_cases hlt : k < l.length
  ·obtain ⟨x, hx⟩ : ∃ x, l[k]? = some x := ⟨_, List.getElem?_eq_getElem hlt⟩
   have HX := Lib.hid hx; clear hx
   have E : (⟨l.toArray⟩ : ByteArray)[k]'(by simpa [ByteArray.size] using hlt) = x := byte_at' HX.out _
   have hlt' : (k : Int) < (l.length : Int) := by omega
   by_cases h32 : x = 32
   ·subst h32
    go_wp2_with fail
    go_quiet (fail)
    have hB2 := hB.drewN nq
    have hg2 := grown_drewN hg nq
    generalize wr.drewN nq = w2 at hB2 hg2 ⊢
    clear c0 c1 fr lt hB hg
    obtain ⟨c0, c1, fr, lt⟩ := id hB2
    go_wp2_with fail
    go_roundg (l.length - (k + 1))
    case measure => omega
    case rel => exact ⟨k + 1, by omega, Nat.le_refl _, by rw [← HK.out]; exact (sk_step HX.out).symm, by simpa using hB2.set (k + 1), grown_trans hg2 (grown_at _ _ _ _)⟩
   ·have h32' : ((x.toNat : Int) == 32) = false := by
     rw [beq_eq_false_iff_ne]
     intro e
     exact h32 (UInt8.toNat.inj (by simpa using (by omega : x.toNat = 32)))
    go_wp2_with fail
    go_quiet (fail)
    have hB2 := hB.drewN nq
    have hg2 := grown_drewN hg nq
    generalize wr.drewN nq = w2 at hB2 hg2 ⊢
    clear c0 c1 fr lt hB hg
    go_wp2_with fail
    go_end0
    refine ⟨rfl, hg2, ?_⟩
    rw [← HK.out, sk_stop HX.out h32]
    exact hB2
  ·have hlt' : decide ((k : Int) < (l.length : Int)) = false := by simp; omega
   go_wp2_with fail
   go_quiet (fail)
   have hB2 := hB.drewN nq
   have hg2 := grown_drewN hg nq
   generalize wr.drewN nq = w2 at hB2 hg2 ⊢
   clear c0 c1 fr lt hB hg
   go_wp2_with fail
   go_end0
   refine ⟨rfl, hg2, ?_⟩
   rw [← HK.out, sk_end (by omega)]
   exact hB2

set_option maxHeartbeats 1000000 in
theorem is_any (l : Str) (b p : Nat) (c : UInt8) (w : World) (hl : l.length ≤ 2000) (hp : p ≤ l.length) (hR : RBox w b l p) :
  Calls Tryz.prog 166 #[.pointer (some ⟨b, 0, none⟩), .int .u8 c.toNat] w fun e w' => e = .returned (.bool (decide (l[sk l p]? = some c))) ∧ w.grownBy w' (some b) ∧ RBox w' b l (sk l p) := by
 have hs := sk_le hp
 have hcall := blanks_any l b p w hl hp hR
 obtain ⟨q, hQ⟩ : ∃ x, sk l p = x := ⟨_, rfl⟩
 rw [hQ] at hs hcall ⊢
 clear hQ
 by_cases hlt : q < l.length
 ·obtain ⟨x, hx⟩ : ∃ x, l[q]? = some x := ⟨_, List.getElem?_eq_getElem hlt⟩
  rw [hx]
  have HX := Lib.hid hx; clear hx
  have E : (⟨l.toArray⟩ : ByteArray)[q]'(by simpa [ByteArray.size] using hlt) = x := byte_at' HX.out _
  have hlt' : (q : Int) < (l.length : Int) := by omega
  go_enter Tryz.func166, Tryz.ntmps166
  go_wp2_with fail
  refine hcall.mono ?_; clear hcall
  rintro e w1 ⟨rfl, hg1, hB1⟩
  obtain ⟨c0, c1, fr, lt⟩ := id hB1
  go_wp2_with fail
  go_quiet (fail)
  have hB2 := hB1.drewN nq
  have hg2 := grown_drewN hg1 nq
  generalize w1.drewN nq = w2 at hB2 hg2 ⊢
  go_wp2_with fail
  go_ret
  refine ⟨ret_bool ?_, hg2, hB2⟩
  rw [Bool.eq_iff_iff]
  simp only [beq_iff_eq, decide_eq_true_eq, Option.some.injEq]
  exact ⟨fun h => UInt8.toNat.inj (by omega), fun h => by rw [h]⟩
 ·have hlt' : decide ((q : Int) < (l.length : Int)) = false := by simp; omega
  have hq : l[q]? = none := by simp; omega
  rw [hq]
  go_enter Tryz.func166, Tryz.ntmps166
  go_wp2_with fail
  refine hcall.mono ?_; clear hcall
  rintro e w1 ⟨rfl, hg1, hB1⟩
  obtain ⟨c0, c1, fr, lt⟩ := id hB1
  go_wp2_with fail
  go_quiet (fail)
  have hB2 := hB1.drewN nq
  have hg2 := grown_drewN hg1 nq
  generalize w1.drewN nq = w2 at hB2 hg2 ⊢
  go_wp2_with fail
  go_ret
  exact ⟨ret_bool (by simp), hg2, hB2⟩

def thrown (q : Nat) : List PanicEntry := [{ v := .iface 198 (.agg #[.int .i64 3, .int .i64 q]), recovered := false }]
theorem fail_any (l : Str) (b p : Nat) (w : World) (hR : RBox w b l p) :
  Calls Tryz.prog 164 #[.pointer (some ⟨b, 0, none⟩)] w fun e w' => e = .panicked (thrown p) ∧ w.grownBy w' (some b) := by
 obtain ⟨c0, c1, fr, lt⟩ := id hR
 go_enter Tryz.func164, Tryz.ntmps164
 go_wp2_with fail
 exact ⟨rfl, rfl, grown_refl w b⟩
theorem trim_any' (l : Str) (w : World) :
  Calls Tryz.prog 123 #[.string ⟨l.toArray⟩, .string ⟨#[97, 98, 99, 100, 101, 102, 103, 104, 105, 106, 107, 108, 109, 110, 111, 112, 113, 114, 115, 116, 117, 118, 119, 120, 121, 122]⟩] w fun e w' => e = .returned (.string ⟨(l.dropWhile lowb).toArray⟩) ∧ Below w.heap.size w w' := by
 have h := Any.strings_TrimLeft_laid Tryz.lays161 (by kernel_rfl) ⟨l.toArray⟩ ⟨alphabet.toArray⟩ w (by decide) (ascii_of_all (by decide +kernel))
 have e : Lib.trimLeftS l alphabet = l.dropWhile lowb := by
  unfold Lib.trimLeftS
  congr 1
  funext x
  exact alphabet_has x
 simp only at h
 rw [e] at h
 exact h
set_option maxHeartbeats 1000000 in
theorem word_any (l : Str) (b p : Nat) (w : World) (hl : l.length ≤ 2000) (hp : p ≤ l.length) (hR : RBox w b l p) :
  Calls Tryz.prog 163 #[.pointer (some ⟨b, 0, none⟩)] w fun e w' => e = .returned (.string ⟨(wd l (sk l p)).toArray⟩) ∧ w.grownBy w' (some b) ∧ RBox w' b l (sk l p) := by
 have hs := sk_le hp
 have hcall := blanks_any l b p w hl hp hR
 obtain ⟨q, hQ⟩ : ∃ x, sk l p = x := ⟨_, rfl⟩
 rw [hQ] at hs hcall ⊢
 clear hQ
 obtain ⟨WD, hW⟩ : ∃ x, wd l q = x := ⟨_, rfl⟩
 rw [hW]
 have HW := Lib.hid hW; clear hW
 go_enter Tryz.func163, Tryz.ntmps163
 go_wp2_with fail
 refine hcall.mono ?_; clear hcall
 rintro e w1 ⟨rfl, hg1, hB1⟩
 obtain ⟨c0, c1, fr, lt⟩ := id hB1
 have g1 : ¬ (l.length : Int) < (q : Int) := by omega
 have g2 : ¬ (q : Int) < 0 := by omega
 have g3 : 0 ≤ (q : Int) ∧ (q : Int) ≤ (l.length : Int) := by omega
 have g4 : (q : Int) ≤ (l.length : Int) := by omega
 have g5 : (l.length : Int) ≤ 2000 := by omega
 go_wp2_with fail
 go_quiet (fail)
 have hB2 := hB1.drewN nq
 have hg2 := grown_drewN hg1 nq
 generalize w1.drewN nq = w2 at hB2 hg2 ⊢
 clear c0 c1 fr lt hB1 hg1
 have hDl : (l.drop q).length = l.length - q := List.length_drop
 have hT := tw_take lowb (l.drop q)
 have hTl := (List.dropWhile_sublist lowb (l := l.drop q)).length_le
 go_wp2_with fail
 refine (trim_any' _ _).mono ?_
 rintro e w3 ⟨rfl, hb3⟩
 have hB3 := hB2.keep hb3
 have hg3 := grown_belowB hg2 hb3
 have hWD : Hid ((l.drop q).take ((l.drop q).length - ((l.drop q).dropWhile lowb).length) = WD) := Lib.hid (hT.trans HW.out)
 generalize (l.drop q).dropWhile lowb = T at hTl hWD ⊢
 generalize l.drop q = D at hDl hTl hWD ⊢
 clear hB2 hg2 hb3 hT HW
 clear w2
 have k1 : ((D.length : Int) - (T.length : Int)) = ((D.length - T.length : Nat) : Int) := by omega
 have k2 : ((D.length - T.length : Nat) : Int) ≤ (D.length : Int) := by omega
 go_wp2_with fail
 go_ret
 rw [hDl] at hWD
 exact ⟨by rw [hWD.out]; rfl, hg3, hB3⟩

theorem sign_ok (l : Str) (b p : Nat) (c : UInt8) (w : World) (hl : l.length ≤ 2000) (hp : p ≤ l.length) (hR : RBox w b l p) (h : l[sk l p]? = some c) :
  Calls Tryz.prog 165 #[.pointer (some ⟨b, 0, none⟩), .int .u8 c.toNat] w fun e w' => e = .returned (.tuple #[]) ∧ w.grownBy w' (some b) ∧ RBox w' b l (sk l p + 1) := by
 have hs := sk_le hp
 have hlt := at_lt h
 have hcall := is_any l b p c w hl hp hR
 rw [h] at hcall
 generalize sk l p = q at hs hlt hcall ⊢
 clear h
 go_enter Tryz.func165, Tryz.ntmps165
 go_wp2_with fail
 refine hcall.mono ?_; clear hcall
 rintro e w1 ⟨rfl, hg1, hB1⟩
 obtain ⟨c0, c1, fr, lt⟩ := id hB1
 go_wp2_with fail
 go_end0
 exact ⟨rfl, grown_trans hg1 (grown_at _ _ _ _), by simpa using hB1.set (q + 1)⟩
theorem sign_bad (l : Str) (b p : Nat) (c : UInt8) (w : World) (hl : l.length ≤ 2000) (hp : p ≤ l.length) (hR : RBox w b l p) (h : ¬ l[sk l p]? = some c) :
  Calls Tryz.prog 165 #[.pointer (some ⟨b, 0, none⟩), .int .u8 c.toNat] w fun e w' => e = .panicked (thrown (sk l p)) ∧ w.grownBy w' (some b) := by
 have hs := sk_le hp
 have hcall := is_any l b p c w hl hp hR
 have hd : decide (l[sk l p]? = some c) = false := by simpa using h
 rw [hd] at hcall
 generalize sk l p = q at hs hcall ⊢
 clear h hd
 go_enter Tryz.func165, Tryz.ntmps165
 go_wp2_with fail
 refine hcall.mono ?_; clear hcall
 rintro e w1 ⟨rfl, hg1, hB1⟩
 go_wp2_with fail
 refine (fail_any l b q w1 hB1).mono ?_
 rintro e w2 ⟨rfl, hg2⟩
 exact ⟨rfl, rfl, grown_trans hg1 hg2⟩
def Sorts (w : World) : Prop := ∃ b o c, w.cell? ⟨2, 0, none⟩ = some (.slice (some ⟨b, o, none⟩) 4 c) ∧ 4 ≤ c ∧ StrRow w b o [[], [105, 110, 116], [98, 111, 111, 108], [116, 101, 120, 116]]
theorem Sorts.keep {w w' : World} (h : Sorts w) (hb : Below w.heap.size w w') : Sorts w' := by
 obtain ⟨b, o, c, h1, h2, h3⟩ := h
 exact ⟨b, o, c, cell_keep h1 hb, h2, h3.keep hb⟩

def noTy : Ty := .mk 0 0 [] [] []
theorem fit_no : Fit noTy := .mk 0 0 [] [] [] (by decide) (by decide) (by simp) (by simp) (by simp) (by simp) (by simp)
end Go.Proofs.YtpidjanngbaiiaaGreatDoor
namespace Go.Proofs.YtpidjanngbaiiaaGreatDoor
open Go.RowKit Go.Proofs

section
variable {l : Str}
theorem pk_le {q : Nat} (h : q ≤ l.length) : q + (pk l q).length ≤ l.length := by
 rcases pk_case l q with ⟨_, _, h3⟩ | ⟨x, _, _, _, _, h5⟩ | ⟨x, h1, _, _, h4⟩
 ·rw [h3]; simpa using h
 ·rw [h5]; exact wd_le h
 ·rw [h4]; have := at_lt h1; simp; omega
def On (l : Str) (d : Nat) (s s' : St) : Prop := s.p ≤ s'.p ∧ s'.p ≤ l.length ∧ (s'.bad = none → s.bad = none ∧ s.p + d ≤ s'.p)
theorem On.refl {s : St} (h : s.p ≤ l.length) : On l 0 s s := ⟨Nat.le_refl _, h, fun h => ⟨h, Nat.le_refl _⟩⟩
theorem On.trans {d d' : Nat} {a b c : St} (h1 : On l d a b) (h2 : On l d' b c) : On l (d + d') a c :=
 ⟨Nat.le_trans h1.1 h2.1, h2.2.1, fun h => by
  have k2 := h2.2.2 h
  have k1 := h1.2.2 k2.1
  exact ⟨k1.1, by omega⟩⟩
theorem On.mono {d d' : Nat} {a b : St} (h : On l d a b) (hd : d' ≤ d) : On l d' a b := ⟨h.1, h.2.1, fun k => ⟨(h.2.2 k).1, by have := (h.2.2 k).2; omega⟩⟩
theorem must_on (right : Str → Bool) {s : St} (h : s.p ≤ l.length) : On l 1 s (must l right s).2 := by
 obtain ⟨p, bad⟩ := s
 have h1 := sk_le (show p ≤ l.length from h)
 have h2 := pk_le h1.2
 cases bad with
 | some b => exact ⟨h1.1, h1.2, fun k => by cases k⟩
 | none =>
  unfold must
  simp only
  split
  ·exact ⟨h1.1, h1.2, fun k => by cases k⟩
  ·rename_i hne
   simp only [not_or] at hne
   have : (pk l (sk l p)).length ≠ 0 := fun e => hne.1 (List.eq_nil_of_length_eq_zero e)
   exact ⟨by simp only; omega, h2, fun _ => ⟨rfl, by simp only; omega⟩⟩
theorem loop_on {F : St → Ty × St} (hF : ∀ s, s.p ≤ l.length → On l 0 s (F s).2) : ∀ (m : Nat) (s : St) (ls : List Str) (ks : List Ty), s.p ≤ l.length → On l 0 s (loopF l F m s ls ks).2.2 := by
 intro m
 induction m with
 | zero =>
  intro s ls ks h
  obtain ⟨p, bad⟩ := s
  cases bad with
  | none => exact ⟨Nat.le_refl _, h, fun k => by cases k⟩
  | some b => exact ⟨Nat.le_refl _, h, fun k => by cases k⟩
 | succ m ih =>
  intro s ls ks h
  obtain ⟨p, bad⟩ := s
  cases bad with
  | some b => exact ⟨Nat.le_refl _, h, fun k => by cases k⟩
  | none =>
   unfold loopF
   simp only
   have h1 := must_on (labelOk ls) (s := ⟨p, none⟩) h
   have h2 := must_on (isW [58]) h1.2.1
   have h3 := hF _ h2.2.1
   have h4 := must_on (fun w => isW [125] w || isW [44] w) h3.2.1
   have h5 := ((h1.trans h2).trans h3).trans h4
   split
   ·exact (h5.trans (ih _ _ _ h4.2.1)).mono (by omega)
   ·exact h5.mono (by omega)
theorem passed_on {F : St → Ty × St} (hF : ∀ s, s.p ≤ l.length → On l 0 s (F s).2) (add : Int) {s : St} (h : s.p ≤ l.length) : On l 0 s (scanPassed l F add s).2 := by
 have h1 := sk_le h
 unfold scanPassed
 split
 ·rename_i hp
  have h2 := pk_le h1.2
  rw [hp] at h2
  simp only [List.length_cons, List.length_nil] at h2
  have h0 : On l 0 s ⟨sk l s.p + 1, s.bad⟩ := ⟨by simp only; omega, by simp only; omega, fun k => ⟨k, by simp only; omega⟩⟩
  have h3 := hF _ h0.2.1
  have h4 := must_on (isW [125]) h3.2.1
  have h5 := must_on (isW [46]) h4.2.1
  exact ((((h0.trans h3).trans h4).trans h5).trans (hF _ h5.2.1)).mono (by omega)
 ·have h0 : On l 0 s ⟨sk l s.p, s.bad⟩ := ⟨h1.1, h1.2, fun k => ⟨k, h1.1⟩⟩
  have h4 := must_on (fun w => decide (0 < sortIx w)) h0.2.1
  have h5 := must_on (isW [46]) h4.2.1
  exact (((h0.trans h4).trans h5).trans (hF _ h5.2.1)).mono (by omega)
theorem scan_on : ∀ (n : Nat) (s : St), s.p ≤ l.length → On l 0 s (scanF l n s).2 := by
 intro n
 induction n with
 | zero =>
  intro s h
  obtain ⟨p, bad⟩ := s
  cases bad with
  | none => exact ⟨Nat.le_refl _, h, fun k => by cases k⟩
  | some b => exact ⟨Nat.le_refl _, h, fun k => by cases k⟩
 | succ n ih =>
  intro s h
  obtain ⟨p, bad⟩ := s
  cases bad with
  | some b => exact ⟨Nat.le_refl _, h, fun k => by cases k⟩
  | none =>
   unfold scanF
   simp only
   have h1 := must_on startOk (s := ⟨p, none⟩) h
   split
   ·exact h1.mono (by omega)
   split
   ·have h2 := must_on isVar h1.2.1
    have h3 := must_on (isW [46]) h2.2.1
    exact (((h1.trans h2).trans h3).trans (ih _ h3.2.1)).mono (by omega)
   split
   ·exact (h1.trans (passed_on ih 0 h1.2.1)).mono (by omega)
   split
   ·exact (h1.trans (passed_on ih 1 h1.2.1)).mono (by omega)
   split
   ·have h2 := must_on (isW [123]) h1.2.1
    exact ((h1.trans h2).trans (loop_on ih 7 _ [] [] h2.2.1)).mono (by omega)
   split
   ·have h2 := must_on (isW [123]) h1.2.1
    exact ((h1.trans h2).trans (loop_on ih 7 _ [] [] h2.2.1)).mono (by omega)
   ·exact h1.mono (by omega)
end
def rdBegin (l : Str) (p : Nat) : Ty × Nat × Int × Nat :=
 if 2000 < l.length then (zeroTy, 0, 2, 0)
 else match rdOne l (l.length + 1) p with
  | .bad q => (zeroTy, 0, 3, q)
  | .ok t q => if tyErr t = 0 then (t, sk l q, 0, 0) else (zeroTy, 0, tyErr t, 0)
def rdParse (l : Str) : Ty × Int × Nat :=
 if (rdBegin l 0).2.2.1 = 0 ∧ (rdBegin l 0).2.1 < l.length then (zeroTy, 3, (rdBegin l 0).2.1) else ((rdBegin l 0).1, (rdBegin l 0).2.2)
def scBegin (l : Str) (p : Nat) : Ty × Nat × Int × Nat :=
 if 2000 < l.length then (zeroTy, 0, 2, 0)
 else match (scanF l (l.length + 1) ⟨p, none⟩).2.bad with
  | some q => (zeroTy, 0, 3, q)
  | none => if tyErr (scanF l (l.length + 1) ⟨p, none⟩).1 = 0 then ((scanF l (l.length + 1) ⟨p, none⟩).1, sk l (scanF l (l.length + 1) ⟨p, none⟩).2.p, 0, 0) else (zeroTy, 0, tyErr (scanF l (l.length + 1) ⟨p, none⟩).1, 0)
theorem begin_agree (l : Str) (p : Nat) : scBegin l p = rdBegin l p := by
 unfold scBegin rdBegin
 split
 ·rfl
 ·have h := scan_agree (l := l) (l.length + 1) p
  cases hr : rdOne l (l.length + 1) p with
  | bad q =>
   rw [hr] at h
   have h' : (scanF l (l.length + 1) ⟨p, none⟩).2.bad = some q := h
   simp only [h']
  | ok t q =>
   rw [hr] at h
   have h' : scanF l (l.length + 1) ⟨p, none⟩ = (t, ⟨q, none⟩) := h
   simp only [h']
end Go.Proofs.YtpidjanngbaiiaaGreatDoor
namespace Go.Proofs.YtpidjanngbaiiaaGreatDoor
open Go.RowKit Go.Proofs

set_option maxRecDepth 100000
def sortsL : List Str := [[], [105, 110, 116], [98, 111, 111, 108], [116, 101, 120, 116]]
def ixOf (W : Str) : Int := if W = [] then 0 else if sortIx W = 0 then -1 else sortIx W
theorem ixOf_lt {W : Str} (h : sortIx W = 0) : ixOf W < 1 := by
 unfold ixOf
 rw [h]
 split <;> decide
theorem ixOf_eq {W : Str} (h : ¬ sortIx W = 0) : ixOf W = sortIx W := by
 unfold ixOf
 rw [if_neg (sortIx_low h).1, if_neg h]
theorem index_sorts {w : World} {gb go gc : Nat} (hrow : StrRow w gb go [[], [105, 110, 116], [98, 111, 111, 108], [116, 101, 120, 116]]) (W : Str) :
  Calls Tryz.prog 100 #[.slice (some ⟨gb, go, none⟩) 4 gc, .string ⟨W.toArray⟩] w fun e w' => e = .returned (.int .i64 (ixOf W)) ∧ w' = w := by
 have h := Tryz.slices_Index_string gb go 4 gc (sortsL.map fun s => ⟨s.toArray⟩) ⟨W.toArray⟩ w (by simp [sortsL]) (by decide) (by
  intro j hj
  have hj' : j < 4 := by simpa [sortsL] using hj
  rw [hrow j (sortsL[j]'(by simpa [sortsL] using hj')) (by rw [List.getElem?_eq_getElem]; rfl)]
  congr 2
  rw [List.getD_eq_getElem?_getD, List.getElem?_map, List.getElem?_eq_getElem (by simpa [sortsL] using hj')]
  rfl)
 rw [List.take_of_length_le (by simp [sortsL])] at h
 have e : Lib.idxOfS (sortsL.map fun s => (⟨s.toArray⟩ : ByteArray)) ⟨W.toArray⟩ = ixOf W := by
  unfold ixOf sortIx
  simp only [sortsL, List.map, Lib.idxOfS, Lib.idxFromS, mk_inj, @eq_comm _ _ W]
  repeat' split
  all_goals first | rfl | (subst_vars; simp_all) | simp_all
 rw [e] at h
 exact h
theorem own_at {w w' : World} {base : Nat} {e : TypeId} {size n : Nat} {v : Value} {xs : List Value} {b : Nat} (h : w.ownsRow base e size v n xs) (hg : w.grownBy w' (some b)) (hb : b < base) : w'.ownsRow base e size v n xs := by
 refine h.kept hg (Or.inr fun e => ?_)
 have := (h.lt b e).1
 omega
abbrev strVals (l : List Str) : List Value := l.map fun s => .string ⟨s.toArray⟩
theorem own_strsD {D : Blocks} {w : World} {base : Nat} {E : TypeId} {v : Value} {l : List Str} (h : w.ownsRow base E 1 v l.length (strVals l)) (hD : ∀ b, base ≤ b → D b) : StrsD D w v l := by
 have hcells := fun g => h.cells (g := g)
 rcases h.2 with ⟨rfl, h0⟩ | ⟨g, cap, cur, rfl, hg, _, hn, _⟩
 ·exact ⟨none, 0, by rw [h0], by omega, fun h1 => by omega⟩
 ·refine ⟨_, cap, rfl, hn, fun _ => ⟨g, 0, rfl, hD g hg, fun i s hi => ?_⟩⟩
  have := hcells g rfl i (.string ⟨s.toArray⟩) (by rw [strVals, List.getElem?_map, hi]; rfl)
  rw [Go.WideShapes.add_plain] at this
  exact this
theorem RBox.keepB {w w' : World} {b B : Nat} {l : Str} {p : Nat} (h : RBox w b l p) (hb : Below B w w') (hB : b < B) : RBox w' b l p :=
 ⟨(hb.cell (p := ⟨b, 0, none⟩) hB).trans h.c0, (hb.cell (p := ⟨b, 1, none⟩) hB).trans h.c1, fun j => (hb.frozen (p := ⟨b, j, none⟩) hB).trans (h.fr j), Nat.lt_of_lt_of_le h.lt hb.size⟩
theorem grown_belowT {a w w' : World} {row : Option Nat} {B : Nat} (h : a.grownBy w row) (hb : Below B w w') (hB : a.heap.size ≤ B) : a.grownBy w' row :=
 ⟨hb.os.trans h.os, hb.tape.trans h.tape, hb.output.trans h.output, Nat.le_trans h.size hb.size, fun q hl hne => (hb.block q (by omega)).trans (h.block q hl hne)⟩
theorem new_box (w : World) (E : TypeId) : VBox (w.alloc (.cells #[.int .i64 0, .int .i64 0, .string ⟨#[]⟩, .slice none 0 0, .slice none 0 0] E)) w.heap.size zeroTy (.slice none 0 0) (.slice none 0 0) :=
 ⟨by simp [go_sem]; rfl, by simp [go_sem]; rfl, by simp [go_sem]; rfl, by simp [go_sem], by simp [go_sem], fun j => by simp [go_sem], by simp⟩
theorem sign_seq_ok {α : Type} {l : Str} {c : UInt8} {p : Nat} (h : l[sk l p]? = some c) (f : Unit → Nat → Rd α) : (rdSign l c p).seq f = f () (sk l p + 1) := by rw [rdSign, if_pos h]; rfl
theorem sign_seq_bad {α : Type} {l : Str} {c : UInt8} {p : Nat} (h : ¬ l[sk l p]? = some c) (f : Unit → Nat → Rd α) : (rdSign l c p).seq f = .bad (sk l p) := by rw [rdSign, if_neg h]; rfl
theorem grown_drew {a w : World} {row : Option Nat} (h : a.grownBy w row) : a.grownBy w.drew row := ⟨h.os, h.tape, h.output, h.size, h.block⟩
theorem drew_grown {w w' : World} {row : Option Nat} (h : w.drew.grownBy w' row) : w.grownBy w' row := ⟨h.os, h.tape, h.output, h.size, h.block⟩
end Go.Proofs.YtpidjanngbaiiaaGreatDoor
namespace Go.Proofs.YtpidjanngbaiiaaGreatDoor
open Go.RowKit Go.Proofs

set_option maxRecDepth 100000
def Ans (w : World) (b : Nat) (l : Str) (r : Rd Ty) (e : Ending) (w' : World) : Prop := w.grownBy w' (some b) ∧ match r with
 | .ok t q => ∃ v, e = .returned v ∧ TyD (fun k => w.heap.size ≤ k) w' v t ∧ RBox w' b l q
 | .bad q => e = .panicked (thrown q)
theorem VBox.grown' {w w' : World} {b p : Nat} {t : Ty} {lv kv : Value} (h : VBox w b t lv kv) (hg : w.grownBy w' (some p)) (hb : b ≠ p) : VBox w' b t lv kv := by
 have hc : ∀ j, w'.cell? ⟨b, j, none⟩ = w.cell? ⟨b, j, none⟩ := fun j => World.cell?_of_block (a := ⟨b, j, none⟩) (hg.block b h.lt (fun e => hb (by injection e)))
 have hf : ∀ j, w'.frozen? ⟨b, j, none⟩ = w.frozen? ⟨b, j, none⟩ := fun j => World.frozen?_of_block (a := ⟨b, j, none⟩) (hg.block b h.lt (fun e => hb (by injection e)))
 exact ⟨(hc 0).trans h.c0, (hc 1).trans h.c1, (hc 2).trans h.c2, (hc 3).trans h.c3, (hc 4).trans h.c4, fun j => (hf j).trans (h.fr j), Nat.lt_of_lt_of_le h.lt hg.size⟩
theorem no_strs (D : Blocks) (w : World) : StrsD D w (.slice none 0 0) [] := ⟨none, 0, rfl, Nat.le_refl _, fun h => by simp at h⟩
theorem no_tys (D : Blocks) (w : World) : TysD D w (.slice none 0 0) [] := ⟨none, 0, rfl, Nat.le_refl _, fun h => by simp at h⟩
theorem finish {w w2 : World} {b X : Nat} {l : Str} {q : Nat} {t0 : Ty} {lv0 kv0 : Value} (hb : b < w.heap.size) (hX : w.heap.size ≤ X) (hg : w.grownBy w2 (some b)) (hR : RBox w2 b l q) (XB : VBox w2 X t0 lv0 kv0) (k s : Int) (n : Str) (ls : List Str) (ks : List Ty) (lv kv : Value)
  (h1 : StrsD (fun k => w.heap.size ≤ k ∧ k ≠ X) w2 lv ls) (h2 : TysD (fun k => w.heap.size ≤ k ∧ k ≠ X) w2 kv ks) :
  VBox (((((w2.setCell ⟨X, 0, none⟩ (.int .i64 k)).setCell ⟨X, 1, none⟩ (.int .i64 s)).setCell ⟨X, 2, none⟩ (.string ⟨n.toArray⟩)).setCell ⟨X, 3, none⟩ lv).setCell ⟨X, 4, none⟩ kv) X (.mk k s n ls ks) lv kv ∧ w.grownBy (((((w2.setCell ⟨X, 0, none⟩ (.int .i64 k)).setCell ⟨X, 1, none⟩ (.int .i64 s)).setCell ⟨X, 2, none⟩ (.string ⟨n.toArray⟩)).setCell ⟨X, 3, none⟩ lv).setCell ⟨X, 4, none⟩ kv) (some b) ∧ RBox (((((w2.setCell ⟨X, 0, none⟩ (.int .i64 k)).setCell ⟨X, 1, none⟩ (.int .i64 s)).setCell ⟨X, 2, none⟩ (.string ⟨n.toArray⟩)).setCell ⟨X, 3, none⟩ lv).setCell ⟨X, 4, none⟩ kv) b l q ∧ TyD (fun k => w.heap.size ≤ k) (((((w2.setCell ⟨X, 0, none⟩ (.int .i64 k)).setCell ⟨X, 1, none⟩ (.int .i64 s)).setCell ⟨X, 2, none⟩ (.string ⟨n.toArray⟩)).setCell ⟨X, 3, none⟩ lv).setCell ⟨X, 4, none⟩ kv) (.agg #[.int .i64 k, .int .i64 s, .string ⟨n.toArray⟩, lv, kv]) (.mk k s n ls ks) := by
 have hne : X ≠ b := by omega
 have hs : Same (fun k => w.heap.size ≤ k ∧ k ≠ X) w2 (((((w2.setCell ⟨X, 0, none⟩ (.int .i64 k)).setCell ⟨X, 1, none⟩ (.int .i64 s)).setCell ⟨X, 2, none⟩ (.string ⟨n.toArray⟩)).setCell ⟨X, 3, none⟩ lv).setCell ⟨X, 4, none⟩ kv) := Same.fill (fun h => h.2 rfl) _ _ _ _ _
 refine ⟨XB.fill (.mk k s n ls ks) lv kv, grown_in (grown_in (grown_in (grown_in (grown_in hg hX _) hX _) hX _) hX _) hX _, ((((hR.far hne _).far hne _).far hne _).far hne _).far hne _, ?_⟩
 exact ⟨lv, kv, rfl, h1.keep hs (fun _ h _ => h.1), h2.keep hs (fun _ h _ => h.1)⟩
theorem finishK {w w7 : World} {b X m : Nat} {l : Str} {q : Nat} {t0 : Ty} {lv0 kv0 : Value} (hb : b < w.heap.size) (hX : w.heap.size ≤ X) (hXm : X < m) (hm : m ≤ w7.heap.size) (hg : w.grownBy w7 (some b)) (hR : RBox w7 b l q) (XB : VBox w7 X t0 lv0 kv0) (k s : Int) (n : Str) (xs : List Value) (ts : List Ty) (hc : Cells5D (fun k => m ≤ k) w7 xs ts) (E : TypeId) :
  VBox ((((((w7.setCell ⟨X, 0, none⟩ (.int .i64 k)).setCell ⟨X, 1, none⟩ (.int .i64 s)).setCell ⟨X, 2, none⟩ (.string ⟨n.toArray⟩)).setCell ⟨X, 3, none⟩ (.slice none 0 0)).setCell ⟨X, 4, none⟩ (.slice (some ⟨w7.heap.size, 0, none⟩) ts.length ts.length)).alloc (.cells xs.toArray E)) X (.mk k s n [] ts) (.slice none 0 0) (.slice (some ⟨w7.heap.size, 0, none⟩) ts.length ts.length) ∧ w.grownBy ((((((w7.setCell ⟨X, 0, none⟩ (.int .i64 k)).setCell ⟨X, 1, none⟩ (.int .i64 s)).setCell ⟨X, 2, none⟩ (.string ⟨n.toArray⟩)).setCell ⟨X, 3, none⟩ (.slice none 0 0)).setCell ⟨X, 4, none⟩ (.slice (some ⟨w7.heap.size, 0, none⟩) ts.length ts.length)).alloc (.cells xs.toArray E)) (some b) ∧ RBox ((((((w7.setCell ⟨X, 0, none⟩ (.int .i64 k)).setCell ⟨X, 1, none⟩ (.int .i64 s)).setCell ⟨X, 2, none⟩ (.string ⟨n.toArray⟩)).setCell ⟨X, 3, none⟩ (.slice none 0 0)).setCell ⟨X, 4, none⟩ (.slice (some ⟨w7.heap.size, 0, none⟩) ts.length ts.length)).alloc (.cells xs.toArray E)) b l q ∧
   TyD (fun k => w.heap.size ≤ k) ((((((w7.setCell ⟨X, 0, none⟩ (.int .i64 k)).setCell ⟨X, 1, none⟩ (.int .i64 s)).setCell ⟨X, 2, none⟩ (.string ⟨n.toArray⟩)).setCell ⟨X, 3, none⟩ (.slice none 0 0)).setCell ⟨X, 4, none⟩ (.slice (some ⟨w7.heap.size, 0, none⟩) ts.length ts.length)).alloc (.cells xs.toArray E)) (.agg #[.int .i64 k, .int .i64 s, .string ⟨n.toArray⟩, .slice none 0 0, .slice (some ⟨w7.heap.size, 0, none⟩) ts.length ts.length]) (.mk k s n [] ts) := by
 have hne : X ≠ b := by omega
 have hs : Same (fun k => m ≤ k) w7 (((((w7.setCell ⟨X, 0, none⟩ (.int .i64 k)).setCell ⟨X, 1, none⟩ (.int .i64 s)).setCell ⟨X, 2, none⟩ (.string ⟨n.toArray⟩)).setCell ⟨X, 3, none⟩ (.slice none 0 0)).setCell ⟨X, 4, none⟩ (.slice (some ⟨w7.heap.size, 0, none⟩) ts.length ts.length)) := Same.fill (by omega) _ _ _ _ _
 have hz : ((((((w7.setCell ⟨X, 0, none⟩ (.int .i64 k)).setCell ⟨X, 1, none⟩ (.int .i64 s)).setCell ⟨X, 2, none⟩ (.string ⟨n.toArray⟩)).setCell ⟨X, 3, none⟩ (.slice none 0 0)).setCell ⟨X, 4, none⟩ (.slice (some ⟨w7.heap.size, 0, none⟩) ts.length ts.length))).heap.size = w7.heap.size := by simp only [World.size_setCell]
 have hV := XB.fill (.mk k s n [] ts) (.slice none 0 0) (.slice (some ⟨w7.heap.size, 0, none⟩) ts.length ts.length)
 have hG : w.grownBy (((((w7.setCell ⟨X, 0, none⟩ (.int .i64 k)).setCell ⟨X, 1, none⟩ (.int .i64 s)).setCell ⟨X, 2, none⟩ (.string ⟨n.toArray⟩)).setCell ⟨X, 3, none⟩ (.slice none 0 0)).setCell ⟨X, 4, none⟩ (.slice (some ⟨w7.heap.size, 0, none⟩) ts.length ts.length)) (some b) := grown_in (grown_in (grown_in (grown_in (grown_in hg hX _) hX _) hX _) hX _) hX _
 have hRR : RBox (((((w7.setCell ⟨X, 0, none⟩ (.int .i64 k)).setCell ⟨X, 1, none⟩ (.int .i64 s)).setCell ⟨X, 2, none⟩ (.string ⟨n.toArray⟩)).setCell ⟨X, 3, none⟩ (.slice none 0 0)).setCell ⟨X, 4, none⟩ (.slice (some ⟨w7.heap.size, 0, none⟩) ts.length ts.length)) b l q := ((((hR.far hne _).far hne _).far hne _).far hne _).far hne _
 simp only [Ty.kind, Ty.sort, Ty.name] at hV
 generalize (((((w7.setCell ⟨X, 0, none⟩ (.int .i64 k)).setCell ⟨X, 1, none⟩ (.int .i64 s)).setCell ⟨X, 2, none⟩ (.string ⟨n.toArray⟩)).setCell ⟨X, 3, none⟩ (.slice none 0 0)).setCell ⟨X, 4, none⟩ (.slice (some ⟨w7.heap.size, 0, none⟩) ts.length ts.length)) = w8 at hs hz hV hG hRR ⊢
 have hbel : Below w8.heap.size w8 (w8.alloc (.cells xs.toArray E)) := (Below.refl _ _).alloc (Nat.le_refl _) _
 refine ⟨hV.keep hbel hV.lt, grown_belowB hG hbel, hRR.keep hbel, _, _, rfl, no_strs _ _, _, _, rfl, Nat.le_refl _, fun _ => ⟨w7.heap.size, 0, rfl, by have := hg.size; omega, ?_⟩⟩
 have h9 : Same (fun k => m ≤ k) w7 (w8.alloc (.cells xs.toArray E)) := hs.trans (by omega) (Same.below hbel)
 refine (hc.keep h9 (fun k hk _ => by show w.heap.size ≤ k; omega)).row 0 fun j u hj => ?_
 rw [Nat.zero_add, World.cell?_alloc_at _ _ _ _ hz.symm]
 simpa using hj
theorem go_on {w w1 : World} {b X : Nat} {l : Str} {q : Nat} {t0 : Ty} {lv0 kv0 : Value} (hg : w.grownBy w1 (some b)) (hR : RBox w1 b l q) (XB : VBox w1 X t0 lv0 kv0) (hne : ¬ b = X) (n : Nat) :
  w.grownBy (w1.setCell ⟨b, 1, none⟩ (.int .i64 ((q : Int) + n))) (some b) ∧ RBox (w1.setCell ⟨b, 1, none⟩ (.int .i64 ((q : Int) + n))) b l (q + n) ∧ VBox (w1.setCell ⟨b, 1, none⟩ (.int .i64 ((q : Int) + n))) X t0 lv0 kv0 := by
 have e : ((q + n : Nat) : Int) = (q : Int) + n := by omega
 rw [← e]
 exact ⟨grown_trans hg (grown_at _ _ _ _), hR.set (q + n), XB.far hne _⟩

section
variable (l : Str) (b p : Nat) (w : World) (hl : l.length ≤ 2000) (hp : p ≤ l.length) (hR : RBox w b l p)
include hl hp hR
set_option maxHeartbeats 2000000 in
theorem one_end (h : wd l (sk l p) = endW) : Calls Tryz.prog 136 #[.pointer (some ⟨b, 0, none⟩)] w (Ans w b l (.ok (.mk 1 0 [] [] []) (sk l p + 3))) := by
 have hs := sk_le hp
 have hw := wd_le hs.2
 rw [h] at hw
 have hcall := fun w hR => word_any l b p w hl hp hR
 rw [h] at hcall
 generalize sk l p = q at hs hw hcall ⊢
 clear h
 simp only [endW, List.length_cons, List.length_nil] at hw
 have hbw := hR.lt
 go_enter Tryz.func136, Tryz.ntmps136
 go_wp2_with fail
 have XB := new_box w 30
 have hbW : Below w.heap.size w (w.alloc (.cells #[.int .i64 0, .int .i64 0, .string ⟨#[]⟩, .slice none 0 0, .slice none 0 0] 30)) := by go_grown
 have hR0 := hR.keep hbW
 have hg0 := grown_belowB (grown_refl w b) hbW
 generalize w.alloc (.cells #[.int .i64 0, .int .i64 0, .string ⟨#[]⟩, .slice none 0 0, .slice none 0 0] 30) = w0 at XB hR0 hg0 ⊢
 clear hbW hR
 have hne1 : ¬ w.heap.size = b := by omega
 have hne2 : ¬ b = w.heap.size := by omega
 refine (hcall w0 hR0).mono ?_
 rintro e w1 ⟨rfl, hg, hR1⟩
 have hg1 := grown_trans hg0 hg
 replace XB := XB.grown' hg (by omega)
 clear hg hR0 hg0
 obtain ⟨r0, r1, r2, r3⟩ := id hR1
 obtain ⟨x0, x1, x2, x3, x4, x5, x6⟩ := id XB
 go_wp2_with fail
 obtain ⟨hg2, hR2, XB2⟩ := go_on hg1 hR1 XB hne2 3
 rw [show ((3 : Nat) : Int) = 3 from rfl] at hg2 hR2 XB2
 generalize w1.setCell ⟨b, 1, none⟩ (.int .i64 ((q : Int) + 3)) = w2 at hg2 hR2 XB2 ⊢
 obtain ⟨hF, hgF, hRF, hT⟩ := finish hbw (Nat.le_refl _) hg2 hR2 XB2 (1) 0 [] [] [] (.slice none 0 0) (.slice none 0 0) (no_strs _ _) (no_tys _ _)
 generalize (((((w2.setCell ⟨w.heap.size, 0, none⟩ (.int .i64 1)).setCell ⟨w.heap.size, 1, none⟩ (.int .i64 0)).setCell ⟨w.heap.size, 2, none⟩ (.string ⟨#[]⟩)).setCell ⟨w.heap.size, 3, none⟩ (.slice none 0 0)).setCell ⟨w.heap.size, 4, none⟩ (.slice none 0 0)) = w5 at hF hgF hRF hT ⊢
 obtain ⟨d0, d1, d2, d3, d4, d5, d6⟩ := hF
 refine bodyPost_ret (v := .agg #[.int .i64 (1), .int .i64 0, .string ⟨([] : Str).toArray⟩, .slice none 0 0, .slice none 0 0]) (by simp [results, Tryz.results136, go_sem, d0, d1, d2, d3, d4, Ty.kind, Ty.sort, Ty.name]) rfl ?_
 exact ⟨hgF, _, rfl, hT, hRF⟩
set_option maxHeartbeats 2000000 in
theorem one_var (W : Str) (h : wd l (sk l p) = W) (h1 : W ≠ endW) (h2 : W ≠ recW) (h3 : isVar W = true) : Calls Tryz.prog 136 #[.pointer (some ⟨b, 0, none⟩)] w (Ans w b l (.ok (.mk 9 0 W [] []) (sk l p + W.length))) := by
 have hs := sk_le hp
 have hw := wd_le hs.2
 rw [h] at hw
 have hcall := fun w hR => word_any l b p w hl hp hR
 rw [h] at hcall
 generalize sk l p = q at hs hw hcall ⊢
 clear h
 have H3 := Lib.hid h3; clear h3
 have n1 : (W == [101, 110, 100]) = false := by simpa [endW] using h1
 have n2 : (W == [114, 101, 99]) = false := by simpa [recW] using h2
 have hbw := hR.lt
 go_enter Tryz.func136, Tryz.ntmps136
 go_wp2_with fail
 have XB := new_box w 30
 have hbW : Below w.heap.size w (w.alloc (.cells #[.int .i64 0, .int .i64 0, .string ⟨#[]⟩, .slice none 0 0, .slice none 0 0] 30)) := by go_grown
 have hR0 := hR.keep hbW
 have hg0 := grown_belowB (grown_refl w b) hbW
 generalize w.alloc (.cells #[.int .i64 0, .int .i64 0, .string ⟨#[]⟩, .slice none 0 0, .slice none 0 0] 30) = w0 at XB hR0 hg0 ⊢
 clear hbW hR
 have hne1 : ¬ w.heap.size = b := by omega
 have hne2 : ¬ b = w.heap.size := by omega
 refine (hcall w0 hR0).mono ?_
 rintro e w1 ⟨rfl, hg, hR1⟩
 have hg1 := grown_trans hg0 hg
 replace XB := XB.grown' hg (by omega)
 clear hg hR0 hg0
 obtain ⟨r0, r1, r2, r3⟩ := id hR1
 obtain ⟨x0, x1, x2, x3, x4, x5, x6⟩ := id XB
 go_wp2_with fail
 refine (isVar_any W _ (by omega)).mono ?_; rw [H3.out]; rintro e w2 ⟨rfl, hb2⟩
 replace XB := XB.keep hb2 XB.lt
 replace hR1 := hR1.keep hb2
 replace hg1 := grown_belowB hg1 hb2
 clear r0 r1 r2 r3 x0 x1 x2 x3 x4 x5 x6 hb2
 clear w1
 obtain ⟨r0, r1, r2, r3⟩ := id hR1
 obtain ⟨x0, x1, x2, x3, x4, x5, x6⟩ := id XB
 go_wp2_with fail
 obtain ⟨hg2, hR2, XB2⟩ := go_on hg1 hR1 XB hne2 W.length
 skip
 generalize w2.setCell ⟨b, 1, none⟩ (.int .i64 ((q : Int) + W.length)) = w3 at hg2 hR2 XB2 ⊢
 obtain ⟨hF, hgF, hRF, hT⟩ := finish hbw (Nat.le_refl _) hg2 hR2 XB2 (9) 0 W [] [] (.slice none 0 0) (.slice none 0 0) (no_strs _ _) (no_tys _ _)
 generalize (((((w3.setCell ⟨w.heap.size, 0, none⟩ (.int .i64 9)).setCell ⟨w.heap.size, 1, none⟩ (.int .i64 0)).setCell ⟨w.heap.size, 2, none⟩ (.string ⟨W.toArray⟩)).setCell ⟨w.heap.size, 3, none⟩ (.slice none 0 0)).setCell ⟨w.heap.size, 4, none⟩ (.slice none 0 0)) = w5 at hF hgF hRF hT ⊢
 obtain ⟨d0, d1, d2, d3, d4, d5, d6⟩ := hF
 refine bodyPost_ret (v := .agg #[.int .i64 (9), .int .i64 0, .string ⟨(W : Str).toArray⟩, .slice none 0 0, .slice none 0 0]) (by simp [results, Tryz.results136, go_sem, d0, d1, d2, d3, d4, Ty.kind, Ty.sort, Ty.name]) rfl ?_
 exact ⟨hgF, _, rfl, hT, hRF⟩
set_option maxHeartbeats 2000000 in
theorem one_rec (S : World → Prop) (hSk : ∀ w w' : World, S w → w.grownBy w' (some b) → S w') (hS : S w) (n : Nat) (ih : ∀ (p : Nat) (w : World), p ≤ l.length → l.length < n + p → S w → RBox w b l p → Calls Tryz.prog 136 #[.pointer (some ⟨b, 0, none⟩)] w (Ans w b l (rdOne l n p))) (hn : l.length < n + 1 + p) (h : wd l (sk l p) = recW) : Calls Tryz.prog 136 #[.pointer (some ⟨b, 0, none⟩)] w (Ans w b l (if isVar (wd l (sk l (sk l p + 3))) = false then .bad (sk l (sk l p + 3)) else (rdSign l 46 (sk l (sk l p + 3) + (wd l (sk l (sk l p + 3))).length)).seq fun _ p2 => (rdOne l n p2).seq fun t p3 => .ok (.mk 8 0 (wd l (sk l (sk l p + 3))) [] [t]) p3)) := by
 have hs := sk_le hp
 have hw := wd_le hs.2
 rw [h] at hw
 simp only [recW, List.length_cons, List.length_nil] at hw
 have hcall := fun w hR => word_any l b p w hl hp hR
 rw [h] at hcall
 generalize sk l p = q at hs hw hcall ⊢
 clear h
 have hs1 := sk_le (l := l) (p := q + 3) hw
 have hcall1 := fun w hR => word_any l b (q + 3) w hl hw hR
 generalize sk l (q + 3) = q1 at hs1 hcall1 ⊢
 have hw1 := wd_le hs1.2
 generalize wd l q1 = nm at hcall1 hw1 ⊢
 obtain ⟨RES, hRES⟩ : ∃ r, (if isVar nm = false then .bad q1 else (rdSign l 46 (q1 + nm.length)).seq fun _ p2 => (rdOne l n p2).seq fun t p3 => .ok (.mk 8 0 nm [] [t]) p3 : Rd Ty) = r := ⟨_, rfl⟩
 rw [hRES]
 have HRES := Lib.hid hRES; clear hRES
 have hbw := hR.lt
 go_enter Tryz.func136, Tryz.ntmps136
 go_wp2_with fail
 have XB := new_box w 30
 have hbW : Below w.heap.size w (w.alloc (.cells #[.int .i64 0, .int .i64 0, .string ⟨#[]⟩, .slice none 0 0, .slice none 0 0] 30)) := by go_grown
 have hR0 := hR.keep hbW
 have hg0 := grown_belowB (grown_refl w b) hbW
 generalize w.alloc (.cells #[.int .i64 0, .int .i64 0, .string ⟨#[]⟩, .slice none 0 0, .slice none 0 0] 30) = w0 at XB hR0 hg0 ⊢
 clear hbW hR
 have hne1 : ¬ w.heap.size = b := by omega
 have hne2 : ¬ b = w.heap.size := by omega
 refine (hcall w0 hR0).mono ?_
 rintro e w1 ⟨rfl, hg, hR1⟩
 have hg1 := grown_trans hg0 hg
 replace XB := XB.grown' hg (by omega)
 clear hg hR0 hg0
 obtain ⟨r0, r1, r2, r3⟩ := id hR1
 obtain ⟨x0, x1, x2, x3, x4, x5, x6⟩ := id XB
 go_wp2_with fail
 obtain ⟨hg2, hR2, XB2⟩ := go_on hg1 hR1 XB hne2 3
 rw [show ((3 : Nat) : Int) = 3 from rfl] at hg2 hR2 XB2
 generalize w1.setCell ⟨b, 1, none⟩ (.int .i64 ((q : Int) + 3)) = w2 at hg2 hR2 XB2 ⊢
 replace XB := XB2
 clear hcall hR1 hg1 r0 r1 r2 r3 x0 x1 x2 x3 x4 x5 x6 XB2
 clear w1
 refine (hcall1 w2 hR2).mono ?_; clear hcall1
 rintro e w3 ⟨rfl, hg, hR3⟩
 have hg3 := grown_trans hg2 hg
 replace XB := XB.grown' hg (by omega)
 clear hg hR2 hg2
 clear w2
 go_wp2_with fail
 cases hv : isVar nm with
 | false =>
  have HV := Lib.hid hv; clear hv
  refine (isVar_any nm _ (by omega)).mono ?_; rw [HV.out]; rintro e w4 ⟨rfl, hb4⟩
  replace XB := XB.keep hb4 XB.lt
  have hR4 := hR3.keep hb4
  have hg4 := grown_belowB hg3 hb4
  clear hb4 hR3 hg3
  clear w3
  obtain ⟨r0, r1, r2, r3⟩ := id hR4
  obtain ⟨x0, x1, x2, x3, x4, x5, x6⟩ := id XB
  go_wp2_with fail
  refine (fail_any l b q1 w4 hR4).mono ?_
  rintro e w5 ⟨rfl, hg5⟩
  refine ⟨rfl, ?_⟩
  rw [← HRES.out, HV.out, if_pos rfl]
  exact ⟨grown_trans hg4 hg5, rfl⟩
 | true =>
  have HV := Lib.hid hv; clear hv
  refine (isVar_any nm _ (by omega)).mono ?_; rw [HV.out]; rintro e w4 ⟨rfl, hb4⟩
  replace XB := XB.keep hb4 XB.lt
  have hR4 := hR3.keep hb4
  have hg4 := grown_belowB hg3 hb4
  clear hb4 hR3 hg3
  clear w3
  obtain ⟨r0, r1, r2, r3⟩ := id hR4
  obtain ⟨x0, x1, x2, x3, x4, x5, x6⟩ := id XB
  go_wp2_with fail
  have hadd : ((q1 + nm.length : Nat) : Int) = (q1 : Int) + (nm.length : Int) := by omega
  obtain ⟨hg5, hR5, XB5⟩ := go_on hg4 hR4 XB hne2 nm.length
  generalize w4.setCell ⟨b, 1, none⟩ (.int .i64 ((q1 : Int) + nm.length)) = w5 at hg5 hR5 XB5 ⊢
  clear hg4 hR4 XB x0 x1 x2 x3 x4 x5 x6 r0 r1 r2 r3
  clear w4
  by_cases hsg : l[sk l (q1 + nm.length)]? = some 46
  ·have hsl := sk_le (l := l) (p := q1 + nm.length) hw1
   refine (sign_ok l b (q1 + nm.length) 46 w5 hl hw1 hR5 hsg).mono ?_
   rintro e w6 ⟨rfl, hg, hR6⟩
   have hlt := at_lt hsg
   have hg6 := grown_trans hg5 hg
   have XB6 := XB5.grown' hg (by omega)
   have HSG := Lib.hid hsg
   clear hg hR5 hg5 XB5 hsg
   clear w5
   obtain ⟨r0, r1, r2, r3⟩ := id hR6
   obtain ⟨x0, x1, x2, x3, x4, x5, x6⟩ := id XB6
   go_wp2_with fail
   have hS6 := hSk w w6 hS hg6
   refine (ih (sk l (q1 + nm.length) + 1) w6 (by omega) (by omega) hS6 hR6).mono ?_
   rintro e w7 ⟨hg, hans⟩
   have hg7 := grown_trans hg6 hg
   have XB7 := XB6.grown' hg (by omega)
   have hres : (rdOne l n (sk l (q1 + nm.length) + 1)).seq (fun t p3 => .ok (.mk 8 0 nm [] [t]) p3) = RES := by
    rw [← HRES.out, HV.out, if_neg (by simp), rdSign, if_pos HSG.out]; rfl
   have hsz : w.heap.size ≤ w6.heap.size := hg6.size
   cases hr : rdOne l n (sk l (q1 + nm.length) + 1) with
   | bad q' =>
    rw [hr] at hans hres
    simp only at hans
    subst hans
    refine ⟨rfl, ?_⟩
    rw [← hres]
    exact ⟨hg7, rfl⟩
   | ok t p3 =>
    rw [hr] at hans hres
    obtain ⟨v, rfl, hT, hR7⟩ := hans
    have HR2 : Hid (Rd.ok (.mk 8 0 nm [] [t]) p3 = RES) := Lib.hid hres
    have hlt6 := XB6.lt
    have hg67 := hg
    clear hg hR6 hg6 XB6 hres hr HRES
    clear x0 x1 x2 x3 x4 x5 x6 r0 r1 r2 r3
    obtain ⟨lv, kv, rfl, h1, h2⟩ := hT
    have H1 := Lib.hid h1; have H2 := Lib.hid h2
    obtain ⟨A1, c1, rfl, -, -⟩ := h1
    obtain ⟨A2, c2, rfl, -, -⟩ := h2
    obtain ⟨r0, r1, r2, r3⟩ := id hR7
    obtain ⟨x0, x1, x2, x3, x4, x5, x6⟩ := id XB7
    go_wp2_with fail
    obtain ⟨hF, hgF, hRF, hT⟩ := finishK hbw (Nat.le_refl _) (m := w6.heap.size) hlt6 hg67.size hg7 hR7 XB7 8 0 nm _ [t] (.cons t _ _ [] [] H1.out H2.out .nil) 30
    simp only [List.length_cons, List.length_nil] at hF hgF hRF hT
    generalize ((((((w7.setCell ⟨w.heap.size, 0, none⟩ (.int .i64 8)).setCell ⟨w.heap.size, 1, none⟩ (.int .i64 0)).setCell ⟨w.heap.size, 2, none⟩ (.string ⟨nm.toArray⟩)).setCell ⟨w.heap.size, 3, none⟩ (.slice none 0 0)).setCell ⟨w.heap.size, 4, none⟩ (.slice (some ⟨w7.heap.size, 0, none⟩) 1 1)).alloc _) = w9 at hF hgF hRF hT ⊢
    obtain ⟨d0, d1, d2, d3, d4, d5, d6⟩ := hF
    refine bodyPost_ret (v := .agg #[.int .i64 8, .int .i64 0, .string ⟨nm.toArray⟩, .slice none 0 0, .slice (some ⟨w7.heap.size, 0, none⟩) 1 1]) (by simp [results, Tryz.results136, go_sem, d0, d1, d2, d3, d4, Ty.kind, Ty.sort, Ty.name]) rfl ?_
    refine ⟨hgF, ?_⟩
    rw [← HR2.out]
    exact ⟨_, rfl, hT, hRF⟩
  ·refine (sign_bad l b (q1 + nm.length) 46 w5 hl hw1 hR5 hsg).mono ?_
   rintro e w6 ⟨rfl, hg6⟩
   refine ⟨rfl, ?_⟩
   rw [← HRES.out, HV.out, if_neg (by simp), rdSign, if_neg hsg]
   exact ⟨grown_trans hg5 hg6, rfl⟩
end
end Go.Proofs.YtpidjanngbaiiaaGreatDoor
namespace Go.Proofs.YtpidjanngbaiiaaGreatDoor
open Go.RowKit Go.Proofs

set_option maxRecDepth 100000
def wthrown (q : Nat) : List PanicEntry := [{ v := .iface 74 (.int .i64 q), recovered := false }]
set_option maxHeartbeats 2000000 in
theorem wone_ok (l : Str) (b p : Nat) (c : UInt8) (w : World) (hl : l.length ≤ 1048576) (hR : RBox w b l p) (h : l[p]? = some c) :
  Calls Tryz.prog 68 #[.pointer (some ⟨b, 0, none⟩)] w fun e w' => e = .returned (.int .u8 c.toNat) ∧ w.grownBy w' (some b) ∧ RBox w' b l (p + 1) := by
 have hlt := at_lt h
 have HX := Lib.hid h; clear h
 have E : (⟨l.toArray⟩ : ByteArray)[p]'(by simpa [ByteArray.size] using hlt) = c := byte_at' HX.out _
 have hne : ((p : Int) == (l.length : Int)) = false := by rw [beq_eq_false_iff_ne]; omega
 have hlt' : (p : Int) < (l.length : Int) := by omega
 obtain ⟨c0, c1, fr, lt⟩ := id hR
 go_enter Tryz.func68, Tryz.ntmps68
 go_wp2_with fail
 go_quiet (fail)
 have hB2 := hR.drewN nq
 have hg2 := grown_drewN (grown_refl w b) nq
 generalize w.drewN nq = w2 at hB2 hg2 ⊢
 clear c0 c1 fr lt hR
 obtain ⟨c0, c1, fr, lt⟩ := id hB2
 go_wp2_with fail
 have hB3 : RBox (w2.setCell ⟨b, 1, none⟩ (.int .i64 ((p : Int) + 1))) b l (p + 1) := by simpa using hB2.set (p + 1)
 have hg3 := grown_trans hg2 (grown_at w2 b 1 (.int .i64 ((p : Int) + 1)))
 generalize w2.setCell ⟨b, 1, none⟩ (.int .i64 ((p : Int) + 1)) = w3 at hB3 hg3 ⊢
 clear c0 c1 fr lt hB2 hg2
 obtain ⟨c0, c1, fr, lt⟩ := id hB3
 have e1 : ((p + 1 : Nat) : Int) - 1 = (p : Int) := by omega
 have e2 : ((p : Int) + 1) - 1 = (p : Int) := by omega
 go_quiet (fail)
 have hB4 := hB3.drewN nq
 have hg4 := grown_drewN hg3 nq
 generalize w3.drewN nq = w4 at hB4 hg4 ⊢
 clear c0 c1 fr lt hB3 hg3
 go_wp2_with fail
 go_ret
 exact ⟨rfl, hg4, hB4⟩
set_option maxHeartbeats 2000000 in
theorem wone_bad (l : Str) (b : Nat) (w : World) (hl : l.length ≤ 1048576) (hR : RBox w b l l.length) :
  Calls Tryz.prog 68 #[.pointer (some ⟨b, 0, none⟩)] w fun e w' => e = .panicked (wthrown l.length) ∧ w.grownBy w' (some b) := by
 have hne : ((l.length : Int) == (l.length : Int)) = true := by simp
 obtain ⟨c0, c1, fr, lt⟩ := id hR
 go_enter Tryz.func68, Tryz.ntmps68
 go_wp2_with fail
 go_quiet (fail)
 have hB2 := hR.drewN nq
 have hg2 := grown_drewN (grown_refl w b) nq
 generalize w.drewN nq = w2 at hB2 hg2 ⊢
 clear c0 c1 fr lt hR
 obtain ⟨c0, c1, fr, lt⟩ := id hB2
 go_wp2_with fail
 exact ⟨rfl, rfl, hg2⟩
def NumSays (w : World) (b : Nat) (l : Str) (r : Except Nat (Nat × Nat)) (e : Ending) (w' : World) : Prop := w.grownBy w' (some b) ∧ match r with
 | .ok x => e = .returned (.int .u64 x.1) ∧ RBox w' b l x.2
 | .error q => e = .panicked (wthrown q)
theorem wn_none {s : Str} {frm f p k n : Nat} (h : s[p]? = none) : wn s frm (f + 1) p k n = .error p := by rw [wn, h]
theorem wn_nine {s : Str} {frm f p k n : Nat} {c : UInt8} (h : s[p]? = some c) (h9 : k = 9 ∧ 1 < c.toNat) : wn s frm (f + 1) p k n = .error frm := by rw [wn, h]; exact if_pos h9
theorem wn_zero {s : Str} {frm f p k n : Nat} {c : UInt8} (h : s[p]? = some c) (h9 : ¬ (k = 9 ∧ 1 < c.toNat)) (h1 : c.toNat < 128) (h0 : c.toNat = 0 ∧ 0 < k) : wn s frm (f + 1) p k n = .error frm := by rw [wn, h]; simp only; rw [if_neg h9, if_pos h1, if_pos h0]
theorem wn_end {s : Str} {frm f p k n : Nat} {c : UInt8} (h : s[p]? = some c) (h9 : ¬ (k = 9 ∧ 1 < c.toNat)) (h1 : c.toNat < 128) (h0 : ¬ (c.toNat = 0 ∧ 0 < k)) : wn s frm (f + 1) p k n = .ok (n + c.toNat % 128 * 128 ^ k, p + 1) := by rw [wn, h]; simp only; rw [if_neg h9, if_pos h1, if_neg h0]
theorem wn_more {s : Str} {frm f p k n : Nat} {c : UInt8} (h : s[p]? = some c) (h9 : ¬ (k = 9 ∧ 1 < c.toNat)) (h1 : ¬ c.toNat < 128) : wn s frm (f + 1) p k n = wn s frm f (p + 1) (k + 1) (n + c.toNat % 128 * 128 ^ k) := by rw [wn, h]; simp only; rw [if_neg h9, if_neg h1]
theorem bits_or64 (a b : Nat) (ha : a < 18446744073709551616) (hb : b < 18446744073709551616) : bits .or .u64 (a : Int) (b : Int) = ((a ||| b : Nat) : Int) := by
 have e : ∀ n : Nat, n < 18446744073709551616 → (BitVec.ofInt 64 (n : Int)).toNat = n := fun n hn => by
  rw [BitVec.ofInt_natCast, BitVec.toNat_ofNat]
  exact Nat.mod_eq_of_lt hn
 have hor : a ||| b < 18446744073709551616 := Nat.or_lt_two_pow (n := 64) ha hb
 show IntKind.u64.wrap (((BitVec.ofInt 64 (a : Int)) ||| (BitVec.ofInt 64 (b : Int))).toNat : Int) = _
 rw [BitVec.toNat_or, e a ha, e b hb, Go.IntWalk.u64_in _ (by omega)]
theorem bits_and127 (c : Nat) (hc : c < 256) : bits .and .u8 (c : Int) 127 = ((c % 128 : Nat) : Int) := by
 have : ∀ n : Fin 256, bits .and .u8 ((n.val : Nat) : Int) 127 = ((n.val % 128 : Nat) : Int) := by decide +kernel
 exact this ⟨c, hc⟩
theorem pow_words : ∀ k : Nat, 2 ^ (7 * k) = 128 ^ k := fun k => by rw [Nat.pow_mul]
theorem word_lt {n k c : Nat} (hn : n < 128 ^ k) : n + c % 128 * 128 ^ k < 128 ^ (k + 1) := by
 have h1 : c % 128 ≤ 127 := by omega
 have h2 := Nat.mul_le_mul_right (128 ^ k) h1
 rw [Nat.pow_succ]
 omega
theorem word_in {n k c : Nat} (hc : c < 256) (hk : k ≤ 9) (hn : n < 128 ^ k) (h9 : k = 9 → c ≤ 1) :
  bits .or .u64 (n : Int) (IntKind.u64.wrap (IntKind.u64.wrap (bits .and .u8 (c : Int) 127) * 2 ^ (7 * k))) = ((n + c % 128 * 128 ^ k : Nat) : Int) := by
 have hX : c % 128 * 128 ^ k < 18446744073709551616 := by
  by_cases h : k = 9
  ·subst h
   have h1 : c % 128 ≤ 1 := by have := h9 rfl; omega
   have h2 := Nat.mul_le_mul_right (128 ^ 9) h1
   exact Nat.lt_of_le_of_lt h2 (by decide)
  ·have h1 : c % 128 ≤ 127 := by omega
   have h2 : 128 ^ k ≤ 128 ^ 8 := Nat.pow_le_pow_right (by decide) (by omega)
   have h3 := Nat.mul_le_mul h1 h2
   exact Nat.lt_of_le_of_lt h3 (by decide)
 have hnl : n < 18446744073709551616 := Nat.lt_of_lt_of_le hn (Nat.le_trans (Nat.pow_le_pow_right (by decide) hk) (by decide))
 have hp : (2 : Int) ^ (7 * k) = ((128 ^ k : Nat) : Int) := by rw [← pow_words, Int.natCast_pow]; rfl
 rw [bits_and127 c hc, Go.IntWalk.u64_in ((c % 128 : Nat) : Int) (by omega), hp, ← Int.natCast_mul, Go.IntWalk.u64_in _ (by omega), bits_or64 _ _ hnl hX]
 congr 1
 have h := Nat.shiftLeft_add_eq_or_of_lt (i := 7 * k) (b := n) (by rw [pow_words]; exact hn) (c % 128)
 rw [Nat.shiftLeft_eq, pow_words] at h
 rw [Nat.or_comm, ← h, Nat.add_comm]
set_option maxHeartbeats 4000000 in
theorem wrnum_any (l : Str) (b p : Nat) (w : World) (hl : l.length ≤ 1048576) (hp : p ≤ l.length) (hR : RBox w b l p) :
  Calls Tryz.prog 69 #[.pointer (some ⟨b, 0, none⟩)] w fun e w' => NumSays w b l (wnum l p) e w' := by
 obtain ⟨ANS, hA⟩ : ∃ x, wnum l p = x := ⟨_, rfl⟩
 rw [hA]
 have HA := Lib.hid hA; clear hA
 obtain ⟨c0, c1, fr, lt⟩ := id hR
 go_enter Tryz.func69, Tryz.ntmps69
 go_wp2_with fail
 go_loopg [4, 5] 9 (fun gk nv kv wr => ∃ (q k n : Nat), nv = .int .u64 n ∧ kv = .int .i64 k ∧ k + gk = 9 ∧ n < 128 ^ k ∧ Hid (wn l p (gk + 2) q k n = ANS) ∧ q ≤ l.length ∧ Hid (RBox wr b l q) ∧ w.grownBy wr (some b))
 case atStart => exact ⟨p, 0, 0, rfl, rfl, rfl, by decide, HA.out, hp, hR, grown_refl w b⟩
 case round =>
  obtain ⟨q, k, n, rfl, rfl, hk, hn, hwn, hq, hB, hg⟩ := hrel
  clear c0 c1 fr lt hR
  cases hc : l[q]? with
  | none =>
   have hql : q = l.length := by have := List.getElem?_eq_none_iff.1 hc; omega
   have hans := hwn.out
   rw [wn_none hc] at hans
   have HANS := Lib.hid hans
   subst hql
   clear hc hans hwn
   go_wp2_with fail
   refine (wone_bad l b wr hl hB.out).mono ?_
   rintro e w1 ⟨rfl, hg1⟩
   go_wp2_with fail
   exact ⟨rfl, by rw [← HANS.out]; exact ⟨grown_trans hg hg1, rfl⟩⟩
  | some c =>
   have HC := Lib.hid hc
   have hcall := wone_ok l b q c wr hl hB.out hc
   clear hc hB
   go_wp2_with fail
   refine hcall.mono ?_
   clear hcall
   rintro e w1 ⟨rfl, hg1, hB1⟩
   have hgw := grown_trans hg hg1
   have HB := Lib.hid hB1
   clear hB1 hg1
   have hcr : c.toNat < 256 := c.toNat_lt
   by_cases h9 : k = 9 ∧ 1 < c.toNat
   ·have hans := hwn.out
    rw [wn_nine HC.out h9] at hans
    have HANS := Lib.hid hans
    clear hans hwn
    obtain ⟨rfl, h1⟩ := h9
    have hz : (1 : Int) < (c.toNat : Int) := by omega
    go_wp2_with fail
    exact ⟨rfl, by rw [← HANS.out]; exact ⟨hgw, rfl⟩⟩
   ·have hcase : ((k : Int) == 9) = false ∨ (((k : Int) == 9) = true ∧ ¬ (1 : Int) < (c.toNat : Int)) := by
     by_cases h : k = 9
     ·exact .inr ⟨by rw [beq_iff_eq]; omega, by have := fun h1 => h9 ⟨h, h1⟩; omega⟩
     ·exact .inl (by rw [beq_eq_false_iff_ne]; omega)
    obtain ⟨N, hN⟩ : ∃ N, n + c.toNat % 128 * 128 ^ k = N := ⟨_, rfl⟩
    have hw := word_in (n := n) (k := k) (c := c.toNat) hcr (by omega) hn (fun e => by omega)
    have hNlt := word_lt (n := n) (k := k) (c := c.toNat) hn
    rw [hN] at hw hNlt
    have HN := Lib.hid hN
    have H9 := Lib.hid h9
    clear h9 hN hn
    by_cases hz : c.toNat < 128
    ·have hz1 : (c.toNat : Int) < 128 := by omega
     by_cases h0 : c.toNat = 0 ∧ 0 < k
     ·have hans := hwn.out
      rw [wn_zero HC.out H9.out hz h0] at hans
      have HANS := Lib.hid hans
      have hc0 : ((c.toNat : Int) == 0) = true := by rw [beq_iff_eq]; omega
      have hk1 : (1 : Int) < (k : Int) + 1 := by omega
      clear hans hwn h0
      rcases hcase with hk9 | ⟨hk9, hc1⟩ <;> (go_wp2_with fail; exact ⟨rfl, by rw [← HANS.out]; exact ⟨hgw, rfl⟩⟩)
     ·have hans := hwn.out
      rw [wn_end HC.out H9.out hz h0, HN.out] at hans
      have HANS := Lib.hid hans
      have hcc : ((c.toNat : Int) == 0) = false ∨ (((c.toNat : Int) == 0) = true ∧ ¬ (1 : Int) < (k : Int) + 1) := by
       by_cases h : c.toNat = 0
       ·exact .inr ⟨by rw [beq_iff_eq]; omega, by have := fun h1 => h0 ⟨h, h1⟩; omega⟩
       ·exact .inl (by rw [beq_eq_false_iff_ne]; omega)
      clear hans hwn h0
      rcases hcase with hk9 | ⟨hk9, hc1⟩ <;> rcases hcc with hc0 | ⟨hc0, hk1⟩ <;> (go_wp2_with fail; go_ret; rw [← HANS.out]; exact ⟨hgw, rfl, HB.out⟩)
    ·have hz1 : ¬ (c.toNat : Int) < 128 := by omega
     have hans := hwn.out
     rw [wn_more HC.out H9.out hz, HN.out] at hans
     have h9' := H9.out
     have hkl : k < 9 := by omega
     have hk10 : ((k : Int) + 1 == 10) = false := by rw [beq_eq_false_iff_ne]; omega
     have hql := at_lt HC.out
     have HANS := Lib.hid hans
     clear hans hwn h9'
     rcases hcase with hk9 | ⟨hk9, hc1⟩
     ·go_wp2_with fail
      go_roundg (gk - 1)
      case measure => omega
      case rel => exact ⟨q + 1, k + 1, N, rfl, by go_num, by omega, hNlt, by rw [show gk - 1 + 2 = gk + 1 by omega]; exact HANS.out, by omega, HB.out, hgw⟩
     ·rw [beq_iff_eq] at hk9
      omega
theorem wn_le {s : Str} {frm : Nat} : ∀ {f p k n m q : Nat}, wn s frm f p k n = .ok (m, q) → p < q ∧ q ≤ s.length := by
 intro f
 induction f with
 | zero => intro p k n m q h; simp [wn] at h
 | succ f ih =>
  intro p k n m q h
  cases hc : s[p]? with
  | none => rw [wn_none hc] at h; simp at h
  | some c =>
   have hl : p < s.length := (List.getElem?_eq_some_iff.1 hc).1
   by_cases h9 : k = 9 ∧ 1 < c.toNat
   ·rw [wn_nine hc h9] at h; simp at h
   ·by_cases h1 : c.toNat < 128
    ·by_cases h0 : c.toNat = 0 ∧ 0 < k
     ·rw [wn_zero hc h9 h1 h0] at h; simp at h
     ·rw [wn_end hc h9 h1 h0] at h
      injection h with h
      injection h with h2 h3
      omega
    ·rw [wn_more hc h9 h1] at h
     have := ih h
     omega
theorem wnum_le {s : Str} {p m q : Nat} (h : wnum s p = .ok (m, q)) : p < q ∧ q ≤ s.length := wn_le h
def rtext (s : Str) (p : Nat) : Except Nat (Str × Nat) := match wnum s p with
 | .error q => .error q
 | .ok x => if s.length - x.2 < x.1 then .error p else .ok ((s.drop x.2).take x.1, x.2 + x.1)
def TextAns (w : World) (b : Nat) (l : Str) (r : Except Nat (Str × Nat)) (e : Ending) (w' : World) : Prop := w.grownBy w' (some b) ∧ match r with
 | .ok x => e = .returned (.string ⟨x.1.toArray⟩) ∧ RBox w' b l x.2
 | .error q => e = .panicked (wthrown q)
set_option maxHeartbeats 4000000 in
theorem wrtext_any (l : Str) (b p : Nat) (w : World) (hl : l.length ≤ 1048576) (hp : p ≤ l.length) (hR : RBox w b l p) :
  Calls Tryz.prog 70 #[.pointer (some ⟨b, 0, none⟩)] w fun e w' => TextAns w b l (rtext l p) e w' := by
 have hnum := wrnum_any l b p w hl hp hR
 obtain ⟨ANS, hA⟩ : ∃ x, rtext l p = x := ⟨_, rfl⟩
 rw [hA]
 have hA' := hA
 unfold rtext at hA'
 obtain ⟨c0, c1, fr, lt⟩ := id hR
 cases hq : wnum l p with
 | error q =>
  rw [hq] at hnum hA'
  have HA : Hid (Except.error q = ANS) := Lib.hid hA'
  clear hA hA' hq
  go_enter Tryz.func70, Tryz.ntmps70
  go_wp2_with fail
  refine hnum.mono ?_
  clear hnum
  rintro e w1 ⟨hg1, he⟩
  simp only at he
  subst he
  go_wp2_with fail
  exact ⟨rfl, by rw [← HA.out]; exact ⟨hg1, rfl⟩⟩
 | ok x =>
  obtain ⟨n, q⟩ := x
  have hle := (wnum_le hq).2
  rw [hq] at hnum hA'
  simp only at hA'
  have HA := Lib.hid hA'
  clear hA hA' hq
  go_enter Tryz.func70, Tryz.ntmps70
  go_wp2_with fail
  refine hnum.mono ?_
  clear hnum
  rintro e w1 ⟨hg1, he, hB1⟩
  simp only at he hB1
  subst he
  clear c0 c1 fr lt hR
  obtain ⟨c0, c1, fr, lt⟩ := id hB1
  have hu : IntKind.u64.wrap ((l.length : Int) - (q : Int)) = (l.length : Int) - (q : Int) := Go.IntWalk.u64_in _ (by omega)
  have hu2 : ((l.length : Int) - (q : Int)) % 18446744073709551616 = (l.length : Int) - (q : Int) := by omega
  by_cases hbig : l.length - q < n
  ·have hb1 : (l.length : Int) - (q : Int) < (n : Int) := by omega
   have hans := HA.out
   rw [if_pos hbig] at hans
   have HANS := Lib.hid hans
   clear hans HA hbig
   go_wp2_with fail
   go_quiet (fail)
   have hg2 := grown_drewN hg1 nq
   go_wp2_with fail
   exact ⟨rfl, by rw [← HANS.out]; exact ⟨hg2, rfl⟩⟩
  ·have hb1 : ¬ (l.length : Int) - (q : Int) < (n : Int) := by omega
   have hans := HA.out
   rw [if_neg hbig] at hans
   have HANS := Lib.hid hans
   have hw : IntKind.i64.wrap (n : Int) = (n : Int) := Go.IntWalk.i64_in _ (by omega)
   clear hans HA hbig
   go_wp2_with fail
   go_quiet (fail)
   have hg2 := grown_drewN hg1 nq
   have hB2 := hB1.drewN nq
   generalize w1.drewN nq = w2 at hB2 hg2 ⊢
   clear c0 c1 fr lt hB1 hg1
   obtain ⟨c0, c1, fr, lt⟩ := id hB2
   go_wp2_with fail
   have hB3 : RBox (w2.setCell ⟨b, 1, none⟩ (.int .i64 ((q : Int) + (n : Int)))) b l (q + n) := by simpa using hB2.set (q + n)
   have hg3 := grown_trans hg2 (grown_at w2 b 1 (.int .i64 ((q : Int) + (n : Int))))
   generalize w2.setCell ⟨b, 1, none⟩ (.int .i64 ((q : Int) + (n : Int))) = w3 at hB3 hg3 ⊢
   clear c0 c1 fr lt hB2 hg2
   obtain ⟨c0, c1, fr, lt⟩ := id hB3
   have e1 : ((q + n : Nat) : Int) - (n : Int) = (q : Int) := by omega
   have e2 : (q : Int) + (n : Int) - (n : Int) = (q : Int) := by omega
   have g1 : ¬ (q : Int) < 0 := by omega
   have g2 : ¬ (l.length : Int) < ((q + n : Nat) : Int) := by omega
   have g3 : ¬ ((q + n : Nat) : Int) < (q : Int) := by omega
   have g4 : 0 ≤ (q : Int) ∧ (q : Int) ≤ ((q + n : Nat) : Int) := by omega
   have g5 : ((q + n : Nat) : Int) ≤ (l.length : Int) := by omega
   have g6 : q + n ≤ l.length := by omega
   have g7 : ((q + n : Nat) : Int) - (q : Int) = (n : Int) := by omega
   go_quiet (fail)
   have hB4 := hB3.drewN nq
   have hg4 := grown_drewN hg3 nq
   generalize w3.drewN nq = w4 at hB4 hg4 ⊢
   clear c0 c1 fr lt hB3 hg3
   go_wp2_with fail
   have hex : (⟨l.toArray⟩ : ByteArray).extract q (q + n) = ⟨((l.drop q).take n).toArray⟩ := by
    have := ext_mid l q (q + n)
    rw [Nat.add_sub_cancel_left] at this
    exact this
   rw [hex]
   go_ret
   rw [← HANS.out]
   exact ⟨hg4, rfl, hB4⟩
set_option maxRecDepth 100000
def unzig (n : Nat) : Int := if n % 2 = 1 then -((n / 2 : Nat) : Int) - 1 else ((n / 2 : Nat) : Int)
def rdVal (s : Str) (K : Int) (p : Nat) : Except Nat (Ev × Nat) := match s[p]? with
 | none => .error p
 | some v =>
  if v.toNat = 1 then (match wnum s (p + 1) with
   | .error q => .error q
   | .ok x => .ok (⟨K, 1, unzig x.1, [], zeroTy, []⟩, x.2))
  else if v.toNat = 2 then (match s[p + 1]? with
   | none => .error (p + 1)
   | some c => if 1 < c.toNat then .error (p + 1) else .ok (⟨K, 2, c.toNat, [], zeroTy, []⟩, p + 2))
  else if v.toNat = 3 then (match rtext s (p + 1) with
   | .error q => .error q
   | .ok x => if vchk 3 0 x.1 = 0 then .ok (⟨K, 3, 0, x.1, zeroTy, []⟩, x.2) else .error (p + 1))
  else .error p
def rdTyEv (s : Str) (K : Int) (p : Nat) : Except Nat (Ev × Nat) := match rtext s p with
 | .error q => .error q
 | .ok x => if (rdParse x.1).2.1 = 0 ∧ txt (rdParse x.1).1 = x.1 then .ok (⟨K, 0, 0, [], (rdParse x.1).1, []⟩, x.2) else .error p
def rdLab (s : Str) (K : Int) (p : Nat) : Except Nat (Ev × Nat) := match rtext s p with
 | .error q => .error q
 | .ok x => if isName x.1 then .ok (⟨K, 0, 0, [], zeroTy, x.1⟩, x.2) else .error p
def rdEv (s : Str) (p : Nat) : Except Nat (Ev × Nat) := match s[p]? with
 | none => .error p
 | some k =>
  if k.toNat = 2 ∨ k.toNat = 3 then rdVal s k.toNat (p + 1)
  else if k.toNat = 4 ∨ k.toNat = 5 then rdTyEv s k.toNat (p + 1)
  else if k.toNat = 6 ∨ k.toNat = 7 then rdLab s k.toNat (p + 1)
  else .error p
def rdEvs (s : Str) : Nat → Nat → List Ev → List Ev × Int × Nat
 | 0, p, _ => ([], 2, p)
 | f + 1, p, l =>
  if s.length ≤ p then (l, 0, 0)
  else if l.length = 200 then ([], 2, p)
  else match rdEv s p with
   | .error q => ([], 3, q)
   | .ok x => rdEvs s f x.2 (l ++ [x.1])
def rdWire (s : Str) : List Ev × Int × Nat := rdEvs s 201 0 []
theorem rtext_le {s : Str} {p : Nat} {x : Str × Nat} (h : rtext s p = .ok x) : p < x.2 ∧ x.2 ≤ s.length := by
 unfold rtext at h
 cases hq : wnum s p with
 | error q => rw [hq] at h; simp at h
 | ok y =>
  rw [hq] at h
  have := wnum_le (m := y.1) (q := y.2) hq
  simp only at h
  split at h
  ·simp at h
  ·injection h with h
   subst h
   simp only
   omega
theorem rdEv_le {s : Str} {p : Nat} {x : Ev × Nat} (h : rdEv s p = .ok x) : p < x.2 ∧ x.2 ≤ s.length := by
 unfold rdEv at h
 split at h
 ·simp at h
 ·split at h
  ·unfold rdVal at h
   split at h
   ·simp at h
   ·split at h
    ·split at h
     ·simp at h
     ·rename_i y hy
      have := wnum_le (m := y.1) (q := y.2) hy
      injection h with h
      subst h
      simp only
      omega
    ·split at h
     ·split at h
      ·simp at h
      ·rename_i c hc
       have := (List.getElem?_eq_some_iff.1 hc).1
       split at h
       ·simp at h
       ·injection h with h
        subst h
        simp only
        omega
     ·split at h
      ·split at h
       ·simp at h
       ·rename_i y hy
        have := rtext_le hy
        split at h
        ·injection h with h
         subst h
         simp only
         omega
        ·simp at h
      ·simp at h
  ·split at h
   ·unfold rdTyEv at h
    split at h
    ·simp at h
    ·rename_i y hy
     have := rtext_le hy
     split at h
     ·injection h with h
      subst h
      simp only
      omega
     ·simp at h
   ·split at h
    ·unfold rdLab at h
     split at h
     ·simp at h
     ·rename_i y hy
      have := rtext_le hy
      split at h
      ·injection h with h
       subst h
       simp only
       omega
      ·simp at h
    ·simp at h
set_option maxRecDepth 100000
theorem rdBegin_good {l : Str} {p : Nat} (h : (rdBegin l p).2.2.1 = 0) : tyErr (rdBegin l p).1 = 0 := by
 rw [← begin_agree] at h ⊢
 unfold scBegin at h ⊢
 split at h
 ·simp at h
 ·rename_i h2
  rw [if_neg h2]
  split at h
  ·simp at h
  ·rename_i hb
   split at h
   ·rename_i ht
    rw [if_pos ht]
    exact ht
   ·rename_i ht
    exact absurd h ht
theorem rdParse_good {l : Str} (h : (rdParse l).2.1 = 0) : tyErr (rdParse l).1 = 0 := by
 unfold rdParse at h ⊢
 split at h
 ·simp at h
 ·rename_i h2
  rw [if_neg h2]
  exact rdBegin_good h
set_option maxRecDepth 100000
def wcaught (q : Nat) : FrameMode := .panicking [{ v := .iface 74 (.int .i64 q), recovered := true }]
theorem wcatch_thrown (tb fb q : Nat) {x y z : Value} (w : World) (hl0 : w.cell? ⟨tb, 0, none⟩ = some x) (hlz : w.frozen? ⟨tb, 0, none⟩ = false) (hf0 : w.cell? ⟨fb, 0, none⟩ = some y) (hf1 : w.cell? ⟨fb, 1, none⟩ = some z) (hfz0 : w.frozen? ⟨fb, 0, none⟩ = false) (hfz1 : w.frozen? ⟨fb, 1, none⟩ = false)
  (h13 : ¬ tb = fb) (h31 : ¬ fb = tb) :
  CallsD Tryz.prog 33 #[.pointer (some ⟨tb, 0, none⟩), .pointer (some ⟨fb, 0, none⟩)] (.panicking (wthrown q)) w fun e u' w' =>
   e = .returned (.tuple #[]) ∧ u' = wcaught q ∧ w' = (((w.setCell ⟨tb, 0, none⟩ (.slice none 0 0)).setCell ⟨fb, 0, none⟩ (.int .i64 3)).setCell ⟨fb, 1, none⟩ (.int .i64 q)).drew := by
 refine callsD_of_wpS Tryz.func33 rfl fun c₀ cs hu => ?_
 apply wpS_seq
 apply wpS_region
 simp [wpOpsS, go_sem, recoverD, hu, wthrown, Tryz.ntmps33, Exit.thenS]
 apply wpS_seq
 apply wpS_region
 simp [wpOpsS, go_sem, Exit.thenS]
 refine wpS_cond (t := true) (by simp [Act.eval]) ?_
 simp only [if_true]
 refine wpS_of_wp ?_
 simp only [List.size_toArray, List.length_cons, List.length_nil, Nat.reduceAdd, Nat.reduceSub, Array.replicate_succ, Array.replicate_zero, List.push_toArray, List.append_toArray, List.nil_append, List.cons_append, List.setIfInBounds_toArray, List.set_cons_zero, List.set_cons_succ]
 have hta : ∀ (v : Value) (w : World), (Instr.typeAssert (.iface 74 v) 20 74 false).run Tryz.prog w = .ok v w := fun _ _ => by kernel_rfl
 go_region
 cases c₀
 simp [bodyPostS, results, Tryz.results33, wcaught]
theorem wcatch_idle (tb fb : Nat) (w : World) :
  CallsD Tryz.prog 33 #[.pointer (some ⟨tb, 0, none⟩), .pointer (some ⟨fb, 0, none⟩)] .returning w fun e u' w' => e = .returned (.tuple #[]) ∧ u' = .returning ∧ w' = w := by
 refine callsD_of_wpS Tryz.func33 rfl fun c₀ cs hu => ?_
 apply wpS_seq
 apply wpS_region
 simp [wpOpsS, go_sem, recoverD, hu, Tryz.ntmps33, Exit.thenS]
 apply wpS_seq
 apply wpS_region
 simp [wpOpsS, go_sem, Exit.thenS]
 refine wpS_cond (t := false) (by simp [Act.eval]) ?_
 simp only [Bool.false_eq_true, if_false]
 refine wpS_of_wp (wp_skip ?_)
 cases c₀
 simp_all [bodyPostS, results, Tryz.results33]
set_option maxRecDepth 100000
set_option maxHeartbeats 1000000 in
theorem clone_any (s : Str) (w : World) (hl : s.length ≤ 1048576) :
  Calls Tryz.prog 72 #[.string ⟨s.toArray⟩] w fun e w' => e = .returned (.string ⟨s.toArray⟩) ∧ Below w.heap.size w w' := by
 have hz : (⟨s.toArray⟩ : ByteArray).size = s.length := by simp [ByteArray.size]
 have h := Tryz.stringslite_Clone ⟨s.toArray⟩ w (by omega)
 clear hz
 go_enter Tryz.func72, Tryz.ntmps72
 go_wp2_with fail
 refine h.mono ?_
 rintro e w1 ⟨rfl, hb⟩
 go_wp2_with fail
 go_ret
 exact ⟨rfl, hb⟩
end Go.Proofs.YtpidjanngbaiiaaGreatDoor
