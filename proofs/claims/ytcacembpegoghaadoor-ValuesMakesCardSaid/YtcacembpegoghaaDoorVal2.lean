/-
  The reference's 'letters' (utf-8 letter by letter), 'Length'.
-/
import Derived.Test.YtcacembpegoghaaDoorRow
namespace Go.Proofs.YtcacembpegoghaaDoor
open Go.RowKit Go.Proofs

/-- The letters of a text, none where it is no UTF-8 (fuel: its length). -/
def lettersGo : Nat → List UInt8 → Option (List Int)
  | 0, _ => some []
  | n + 1, l => if l = [] then some [] else if (Lib.decodeL l).1 = 65533 ∧ (Lib.decodeL l).2 < 2 then none
      else (lettersGo n (l.drop (Lib.decodeL l).2)).map (((Lib.decodeL l).1 : Int) :: ·)
def letters (l : List UInt8) : Option (List Int) := lettersGo l.length l

theorem lettersGo_more : ∀ (n m : Nat) (l : List UInt8), l.length ≤ n → n ≤ m → lettersGo m l = lettersGo n l := by
  intro n
  induction n with
  | zero =>
    intro m l h _
    have : l = [] := List.eq_nil_of_length_eq_zero (by omega)
    subst this
    cases m <;> simp [lettersGo]
  | succ n ih =>
    intro m l h hm
    obtain ⟨k, rfl⟩ : ∃ k, m = k + 1 := ⟨m - 1, by omega⟩
    simp only [lettersGo]
    by_cases he : l = []
    · simp [he]
    · have := Lib.decodeL_width l
      have hl : 0 < l.length := List.length_pos_iff.2 he
      rw [ih k (l.drop (Lib.decodeL l).2) (by rw [List.length_drop]; omega) (by omega)]
theorem letters_nil : letters [] = some [] := rfl
theorem letters_bad {l : List UInt8} (h0 : l ≠ []) (h : (Lib.decodeL l).1 = 65533 ∧ (Lib.decodeL l).2 < 2) : letters l = none := by
  unfold letters
  obtain ⟨k, hk⟩ : ∃ k, l.length = k + 1 := ⟨l.length - 1, by have := List.length_pos_iff.2 h0; omega⟩
  rw [hk, lettersGo, if_neg h0, if_pos h]
theorem letters_cons {l : List UInt8} (h0 : l ≠ []) (h : ¬ ((Lib.decodeL l).1 = 65533 ∧ (Lib.decodeL l).2 < 2)) :
    letters l = (letters (l.drop (Lib.decodeL l).2)).map (((Lib.decodeL l).1 : Int) :: ·) := by
  unfold letters
  have := Lib.decodeL_width l
  obtain ⟨k, hk⟩ : ∃ k, l.length = k + 1 := ⟨l.length - 1, by have := List.length_pos_iff.2 h0; omega⟩
  rw [hk, lettersGo, if_neg h0, if_neg h, lettersGo_more (l.drop (Lib.decodeL l).2).length k _ (Nat.le_refl _) (by rw [List.length_drop]; omega)]

theorem decode_any (s : List UInt8) (h0 : s ≠ []) (w : World) (hT : Tabs w) :
    Calls Tryd.prog 168 #[.string ⟨s.toArray⟩] w fun e w' => e = .returned (.tuple #[.int .i32 (Lib.decodeL s).1, .int .i64 (Lib.decodeL s).2]) ∧ Below w.heap.size w w' := by
  refine (Tryd.utf8_DecodeRuneInString ⟨s.toArray⟩ w hT).mono ?_
  rintro e w' ⟨rfl, hb⟩
  refine ⟨?_, hb⟩
  have : Lib.decodeGo ⟨s.toArray⟩ = Lib.decodeL s := by
    unfold Lib.decodeGo Lib.decodeL
    rw [if_neg (by rw [Lib.size_eq]; simpa using h0)]
  rw [this]

/-- The row of numbers that a list of letters lies in. -/
abbrev runeCells (rs : List Int) : List Value := rs.map (Value.int .i32)

/-- What 'letters' hands back: a row of its own, or nil and false. -/
def LettersEnd (w : World) (a : Option (List Int)) (e : Ending) (w' : World) : Prop :=
  Below w.heap.size w w' ∧ match a with
    | some rs => ∃ v, e = .returned (.tuple #[v, .bool true]) ∧ w'.ownsRow w.heap.size 21 1 v rs.length (runeCells rs)
    | none => e = .returned (.tuple #[.slice none 0 0, .bool false])

set_option maxHeartbeats 1000000 in
theorem letters_any (s : List UInt8) (w : World) (hs : s.length ≤ 1099511627776) (hT : Tabs w) :
    Calls Tryd.prog 84 #[.string ⟨s.toArray⟩] w (LettersEnd w (letters s)) := by
  obtain ⟨ANS, hA⟩ : ∃ x, letters s = x := ⟨_, rfl⟩
  have HA := Lib.hid hA; rw [hA]; clear hA
  go_enter Tryd.func84, Tryd.ntmps84
  go_wp2
  go_loopw [0, 4, 5, 6] (fun s0 v _ _ wr => ∃ (t : List UInt8) (done : List Int), s0 = .string ⟨t.toArray⟩ ∧ Hid (letters s = (letters t).map (done ++ ·)) ∧ done.length + t.length ≤ s.length ∧ wr.ownsRow w.heap.size 21 1 v done.length (runeCells done) ∧ Below w.heap.size w wr)
    (fun s0 _ _ _ _ => match s0 with | .string b => b.size | _ => 0)
  case atStart => exact ⟨s, [], rfl, by simp [Hid], by simp, World.ownsRow_nil _ _ _ _, Below.refl _ _⟩
  case round =>
    obtain ⟨t, done, rfl, hl, hlen, hown, hb⟩ := hrel
    by_cases h0 : t = []
    · subst h0
      go_wp2
      go_ret2
      refine ⟨hb, ?_⟩
      have h1 := hl.out
      rw [letters_nil, HA.out] at h1
      subst h1
      exact ⟨_, rfl, by simpa using hown⟩
    · have hp : 0 < t.length := List.length_pos_iff.2 h0
      have hp' : (0 : Int) < (t.length : Int) := by omega
      have hw1 := Lib.decodeL_width t
      have hw2 := Lib.decodeL_le t h0
      obtain ⟨r, hr⟩ : ∃ r, (Lib.decodeL t).1 = r := ⟨_, rfl⟩
      obtain ⟨k, hk⟩ : ∃ k, (Lib.decodeL t).2 = k := ⟨_, rfl⟩
      have hd := decode_any t h0 wr (hT.below hb)
      rw [hr, hk] at hd
      rw [hk] at hw1 hw2
      have Hr := Lib.hid hr
      have Hk := Lib.hid hk
      have Hd := Lib.hid hd
      clear hr hk hd
      by_cases hbad : r = 65533 ∧ k < 2
      · obtain ⟨b1, b2⟩ := hbad
        have t1 : ((r : Int) == 65533) = true := by rw [beq_iff_eq]; omega
        have t2 : decide ((k : Int) < 2) = true := by rw [decide_eq_true_iff]; omega
        have HB : Hid (letters t = none) := letters_bad h0 ⟨by rw [Hr.out]; exact b1, by rw [Hk.out]; exact b2⟩
        clear b1 b2
        go_wp2_with (go_at_call 168; go_must (refine (Hd.out).mono ?_; rintro e w1 ⟨rfl, hb1⟩))
        go_ret2
        have h1 := hl.out
        rw [HB.out, HA.out] at h1
        subst h1
        exact ⟨step hb hb1 hb.size, rfl⟩
      · have HN : Hid (letters t = (letters (t.drop k)).map ((r : Int) :: ·)) := by
          have := letters_cons h0 (by rw [Hr.out, Hk.out]; exact hbad)
          rw [Hr.out, Hk.out] at this; exact this
        have hbz : (done.length + 1) * 4 ≤ 140737488355328 := by omega
        have hbn : done.length + 1 ≤ 4611686018427387904 := by omega
        have hq : ((r : Int) == 65533) = false ∨ (((r : Int) == 65533) = true ∧ decide ((k : Int) < 2) = false) := by
          by_cases h5 : r = 65533
          · refine .inr ⟨by rw [beq_iff_eq]; omega, ?_⟩
            rw [decide_eq_false_iff_not]; intro h; exact hbad ⟨h5, by omega⟩
          · refine .inl ?_
            rw [beq_eq_false_iff_ne]; omega
        have hwr : w.heap.size ≤ wr.heap.size := hb.size
        clear hbad
        rcases hq with t1 | ⟨t1, t2⟩
        all_goals
          go_wp2_with (first
            | (go_at_call 168; go_must (refine (Hd.out).mono ?_; rintro e w1 ⟨rfl, hb1⟩))
            | (at_builtin; go_must (refine wpList_app1 rt_runes w1 (.int .i32 r) rfl (.tmp 21) (.tmp 23) rfl w.heap.size u4 done.length (runeCells done) rfl (own_keep hown hb1 (Nat.le_refl _)) rfl rfl hbz hbn (Nat.le_trans hwr hb1.size) ?_; intro v2 w2 hown2 _ _ hb2)))
          go_roundw
          case rel =>
            refine ⟨t.drop k, done ++ [(r : Int)], rfl, ?_, by rw [List.length_append, List.length_drop, List.length_singleton]; omega, by simpa using hown2, (step hb hb1 hb.size).trans hb2⟩
            show letters s = _
            rw [hl.out, HN.out]
            cases letters (t.drop k) <;> simp
          case measure => simp [Lib.size_eq]; omega
end Go.Proofs.YtcacembpegoghaaDoor
