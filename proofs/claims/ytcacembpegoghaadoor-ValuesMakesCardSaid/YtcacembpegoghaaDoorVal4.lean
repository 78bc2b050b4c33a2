/-
  The order of two values: the reference's and the program's.
-/
import Derived.Test.YtcacembpegoghaaDoorVal3
namespace Go.Proofs.YtcacembpegoghaaDoor
open Go.RowKit Go.Proofs
attribute [local go_sem ↓] Go.wp_at_zero Go.wp_at_succ

/-- The order of two values: by sort, by number, by text. -/
def ordV (s n : Int) (t : List UInt8) (s' n' : Int) (t' : List UInt8) : Int :=
  if Lib.compareInt s s' ≠ 0 then Lib.compareInt s s' else if Lib.compareInt n n' ≠ 0 then Lib.compareInt n n' else cmpS t t'

set_option maxHeartbeats 1000000 in
theorem order_ok (s n s' n' : Int) (t t' : List UInt8) (w : World) (hs : t.length ≤ 9223372036854775807) (hs' : t'.length ≤ 9223372036854775807) (hT : Tabs w) (h1 : chk s n t = 0) (h2 : chk s' n' t' = 0) :
    Calls Tryd.prog 18 #[mkV s n t, mkV s' n' t'] w fun e w' => e = .returned (.tuple #[.int .i64 (ordV s n t s' n' t'), .int .i64 0]) ∧ Below w.heap.size w w' := by
  have HO : Hid (ordV s n t s' n' t' = if Lib.compareInt s s' ≠ 0 then Lib.compareInt s s' else if Lib.compareInt n n' ≠ 0 then Lib.compareInt n n' else cmpS t t') := rfl
  obtain ⟨c1, e1⟩ : ∃ c, Lib.compareInt s s' = c := ⟨_, rfl⟩
  obtain ⟨c2, e2⟩ : ∃ c, Lib.compareInt n n' = c := ⟨_, rfl⟩
  obtain ⟨c3, e3⟩ : ∃ c, cmpS t t' = c := ⟨_, rfl⟩
  rw [e1, e2, e3] at HO
  obtain ⟨c4, e4⟩ : ∃ c, (if c1 ≠ 0 then c1 else if c2 ≠ 0 then c2 else c3) = c := ⟨_, rfl⟩
  rw [e4] at HO
  have E4 := Lib.hid e4; clear e4
  go_enter Tryd.func18, Tryd.ntmps18
  go_wp2_with fail
  refine (check_any s n _ t hs (hT.below (by go_grown))).mono ?_; rw [h1]; rintro e w1 ⟨rfl, hb1⟩; obtain ⟨hc1, hf1, hz1⟩ := bcell hb1
  go_wp2_with fail
  refine (check_any s' n' _ t' hs' (hT.below (chain (by go_grown) hb1))).mono ?_; rw [h2]; rintro e w2 ⟨rfl, hb2⟩; obtain ⟨hc2, hf2, hz2⟩ := bcell hb2
  go_wp2_with fail
  have hb : Below w.heap.size w w2 := chain (chain (by go_grown) hb1) hb2
  have q1 : w.heap.size + 2 ≤ w1.heap.size := by simp at hz1; omega
  simp only [World.size_alloc] at hc1
  have k0 : w2.cell? ⟨w.heap.size, 0, none⟩ = some (.int .i64 s) := by rw [hc2 _ _ (by omega), hc1 _ _ (by omega)]; simp [go_sem]
  have k1 : w2.cell? ⟨w.heap.size, 1, none⟩ = some (.int .i64 n) := by rw [hc2 _ _ (by omega), hc1 _ _ (by omega)]; simp [go_sem]
  have k2 : w2.cell? ⟨w.heap.size, 2, none⟩ = some (.string ⟨t.toArray⟩) := by rw [hc2 _ _ (by omega), hc1 _ _ (by omega)]; simp [go_sem]
  have k3 : w2.cell? ⟨w.heap.size + 1, 0, none⟩ = some (.int .i64 s') := by rw [hc2 _ _ (by omega), hc1 _ _ (by omega)]; simp [go_sem]
  have k4 : w2.cell? ⟨w.heap.size + 1, 1, none⟩ = some (.int .i64 n') := by rw [hc2 _ _ (by omega), hc1 _ _ (by omega)]; simp [go_sem]
  have k5 : w2.cell? ⟨w.heap.size + 1, 2, none⟩ = some (.string ⟨t'.toArray⟩) := by rw [hc2 _ _ (by omega), hc1 _ _ (by omega)]; simp [go_sem]
  clear hc1 hf1 hc2 hf2
  go_region_held3 (fun w' => w'.cell? ⟨w.heap.size, 0, none⟩ = some (.int .i64 s) ∧ w'.cell? ⟨w.heap.size, 1, none⟩ = some (.int .i64 n) ∧ w'.cell? ⟨w.heap.size, 2, none⟩ = some (.string ⟨t.toArray⟩) ∧ w'.cell? ⟨w.heap.size + 1, 0, none⟩ = some (.int .i64 s') ∧ w'.cell? ⟨w.heap.size + 1, 1, none⟩ = some (.int .i64 n') ∧ w'.cell? ⟨w.heap.size + 1, 2, none⟩ = some (.string ⟨t'.toArray⟩))
    (first | exact ⟨k0, k1, k2, k3, k4, k5⟩ | go_keep)
    (first
      | (go_at_call 87; refine (Tryd.cmp_Compare_int s s' _).mono ?_; rw [e1]; rintro e w' ⟨rfl, rfl⟩)
      | (go_at_call 88; refine (cmp_int64 n n' _).mono ?_; rw [e2]; rintro e w' ⟨rfl, rfl⟩)
      | (go_at_call 89; refine (cmp_string t t' _).mono ?_; rw [e3]; rintro e w' ⟨rfl, rfl⟩)
      | (go_at_call 86; refine (or_any c1 c2 c3 _ _ (by simp [go_sem]) (by simp [go_sem]) (by simp [go_sem])).mono ?_; rw [E4.out]; rintro e w' ⟨rfl, rfl⟩))
  go_wp2
  go_ret2
  exact ⟨by rw [HO.out]; rfl, by go_grown⟩

theorem order_bad1 (s n s' n' : Int) (t t' : List UInt8) (w : World) (hs : t.length ≤ 9223372036854775807) (hT : Tabs w) (h1 : chk s n t ≠ 0) :
    Calls Tryd.prog 18 #[mkV s n t, mkV s' n' t'] w fun e w' => e = .returned (.tuple #[.int .i64 0, .int .i64 (chk s n t)]) ∧ Below w.heap.size w w' := by
  obtain ⟨c, hc⟩ : ∃ c, chk s n t = c := ⟨_, rfl⟩
  rw [hc] at h1 ⊢
  have hcb : (c != 0) = true := by rw [bne_iff_ne]; exact h1
  have HC := Lib.hid hc; clear hc h1
  go_enter Tryd.func18, Tryd.ntmps18
  go_wp2_with fail
  refine (check_any s n _ t hs (hT.below (by go_grown))).mono ?_; rw [HC.out]; rintro e w1 ⟨rfl, hb1⟩
  go_wp2_with fail
  go_ret2
  exact ⟨rfl, chain (by go_grown) hb1⟩
theorem order_bad2 (s n s' n' : Int) (t t' : List UInt8) (w : World) (hs : t.length ≤ 9223372036854775807) (hs' : t'.length ≤ 9223372036854775807) (hT : Tabs w) (h1 : chk s n t = 0) (h2 : chk s' n' t' ≠ 0) :
    Calls Tryd.prog 18 #[mkV s n t, mkV s' n' t'] w fun e w' => e = .returned (.tuple #[.int .i64 0, .int .i64 (chk s' n' t')]) ∧ Below w.heap.size w w' := by
  obtain ⟨c, hc⟩ : ∃ c, chk s' n' t' = c := ⟨_, rfl⟩
  rw [hc] at h2 ⊢
  have hcb : (c != 0) = true := by rw [bne_iff_ne]; exact h2
  have HC := Lib.hid hc; have H1 := Lib.hid h1; clear hc h1 h2
  go_enter Tryd.func18, Tryd.ntmps18
  go_wp2_with fail
  refine (check_any s n _ t hs (hT.below (by go_grown))).mono ?_; rw [H1.out]; rintro e w1 ⟨rfl, hb1⟩; obtain ⟨hc1, hf1, hz1⟩ := bcell hb1
  go_wp2_with fail
  refine (check_any s' n' _ t' hs' (hT.below (chain (by go_grown) hb1))).mono ?_; rw [HC.out]; rintro e w2 ⟨rfl, hb2⟩
  go_wp2_with fail
  go_ret2
  exact ⟨rfl, chain (chain (by go_grown) hb1) hb2⟩

/-- The program's own 'text': what is wrong with a value that must be one. -/
def chkT (s n : Int) (t : List UInt8) : Int := if chk s n t ≠ 0 then chk s n t else if s ≠ 3 then 5 else 0

/-- The first of some values that is no text tells what is wrong. -/
def firstT : List (Int × Int × List UInt8) → Int
  | [] => 0
  | x :: r => if chkT x.1 x.2.1 x.2.2 ≠ 0 then chkT x.1 x.2.1 x.2.2 else firstT r

set_option maxHeartbeats 2000000 in
theorem text_any (vs : List (Int × Int × List UInt8)) (b : Nat) (w : World) (hlen : vs.length ≤ 1000) (hs : ∀ x ∈ vs, x.2.2.length ≤ 9223372036854775807) (hT : Tabs w) (hb : b < w.heap.size)
    (kk : ∀ i x, vs[i]? = some x → w.cell? ⟨b, i * 3, none⟩ = some (.int .i64 x.1) ∧ w.cell? ⟨b, i * 3 + 1, none⟩ = some (.int .i64 x.2.1) ∧ w.cell? ⟨b, i * 3 + 2, none⟩ = some (.string ⟨x.2.2.toArray⟩)) :
    Calls Tryd.prog 90 #[.slice (some ⟨b, 0, none⟩) vs.length vs.length] w fun e w' => e = .returned (.int .i64 (firstT vs)) ∧ Below w.heap.size w w' := by
  obtain ⟨ANS, hA⟩ : ∃ x, firstT vs = x := ⟨_, rfl⟩
  have HA := Lib.hid hA; rw [hA]; clear hA
  have KK := Lib.hid kk; have HS := Lib.hid hs; clear kk hs
  obtain ⟨L, hL⟩ : ∃ L, vs.length = L := ⟨_, rfl⟩
  have HL := Lib.hid hL
  rw [hL] at hlen ⊢; clear hL
  go_enter Tryd.func90, Tryd.ntmps90
  go_wp2
  go_loopw [4, 5, 8] (fun _ _ i wr => ∃ k : Nat, k ≤ L ∧ i = .int .i64 k ∧ Hid (firstT vs = firstT (vs.drop k)) ∧ Below w.heap.size w wr) (fun _ _ i _ => L - (intOf i).toNat)
  case atStart => exact ⟨0, by omega, rfl, rfl, Below.refl _ _⟩
  case round =>
    obtain ⟨k, hk, rfl, hf, hbw⟩ := hrel
    by_cases hlt : k < L
    · obtain ⟨x, hx⟩ : ∃ x, vs[k]? = some x := ⟨_, List.getElem?_eq_getElem (by rw [HL.out]; exact hlt)⟩
      obtain ⟨c0, c1, c2⟩ := KK.out k x hx
      have g0 : wr.cell? ⟨b, k * 3, none⟩ = some (.int .i64 x.1) := (hbw.cell (p := ⟨b, k * 3, none⟩) hb).trans c0
      have g1 : wr.cell? ⟨b, k * 3 + 1, none⟩ = some (.int .i64 x.2.1) := (hbw.cell (p := ⟨b, k * 3 + 1, none⟩) hb).trans c1
      have g2 : wr.cell? ⟨b, k * 3 + 2, none⟩ = some (.string ⟨x.2.2.toArray⟩) := (hbw.cell (p := ⟨b, k * 3 + 2, none⟩) hb).trans c2
      have hdrop : Hid (vs.drop k = x :: vs.drop (k + 1)) := by
        obtain ⟨h1, h2⟩ := List.getElem?_eq_some_iff.1 hx
        show vs.drop k = _
        rw [List.drop_eq_getElem_cons h1, h2]
      have hsx := HS.out x (List.mem_of_getElem? hx)
      obtain ⟨s, n, t⟩ := x
      dsimp only at g0 g1 g2 hsx
      clear c0 c1 c2 hx
      by_cases h1 : chk s n t ≠ 0
      · obtain ⟨c, hc⟩ : ∃ c, chk s n t = c := ⟨_, rfl⟩
        rw [hc] at h1
        have hcb : (c != 0) = true := by rw [bne_iff_ne]; exact h1
        have HC := Lib.hid hc; have H1 := Lib.hid h1; clear hc h1
        go_wp2_with fail
        refine (check_any s n _ t hsx (hT.below (chain hbw (by go_grown)))).mono ?_; rw [HC.out]; rintro e w1 ⟨rfl, hb1⟩
        go_wp2_with fail
        go_ret
        refine ⟨?_, chain (chain hbw (by go_grown)) hb1⟩
        rw [← HA.out, hf.out, hdrop.out]
        simp [firstT, chkT, HC.out, H1.out]
      · have h1' : chk s n t = 0 := by omega
        have HC := Lib.hid h1'; clear h1 h1'
        by_cases h3 : s = 3
        · subst h3
          go_wp2_with fail
          refine (check_any 3 n _ t hsx (hT.below (chain hbw (by go_grown)))).mono ?_; rw [HC.out]; rintro e w1 ⟨rfl, hb1⟩; obtain ⟨hc1, hf1, hz1⟩ := bcell hb1
          go_wp2_with fail
          go_roundw
          case rel =>
            refine ⟨k + 1, by omega, by go_num, ?_, chain (chain hbw (by go_grown)) hb1⟩
            show firstT vs = _
            rw [hf.out, hdrop.out]
            simp [firstT, chkT, HC.out]
          case measure => simp [intOf]; omega
        · have h3' : (s != 3) = true := by rw [bne_iff_ne]; exact h3
          have H3 := Lib.hid h3; clear h3
          go_wp2_with fail
          refine (check_any s n _ t hsx (hT.below (chain hbw (by go_grown)))).mono ?_; rw [HC.out]; rintro e w1 ⟨rfl, hb1⟩; obtain ⟨hc1, hf1, hz1⟩ := bcell hb1
          go_wp2_with fail
          go_ret
          refine ⟨?_, chain (chain hbw (by go_grown)) hb1⟩
          rw [← HA.out, hf.out, hdrop.out]
          simp [firstT, chkT, HC.out, H3.out]
    · go_wp2_with fail
      go_ret
      refine ⟨?_, hbw⟩
      rw [← HA.out, hf.out, List.drop_of_length_le (by rw [HL.out]; omega)]
      rfl

theorem firstT_one (s n : Int) (t : List UInt8) : firstT [(s, n, t)] = chkT s n t := by simp only [firstT]; split <;> omega
/-- values.Length. -/
theorem length_bad (s n : Int) (t : List UInt8) (w : World) (hs : t.length ≤ 9223372036854775807) (hT : Tabs w) (h1 : chkT s n t ≠ 0) :
    Calls Tryd.prog 19 #[mkV s n t] w fun e w' => e = .returned (.tuple #[.int .i64 0, .int .i64 (chkT s n t)]) ∧ Below w.heap.size w w' := by
  have hf := firstT_one s n t
  obtain ⟨c, hc⟩ : ∃ c, chkT s n t = c := ⟨_, rfl⟩
  rw [hc] at h1 hf ⊢
  have hcb : (c != 0) = true := by rw [bne_iff_ne]; exact h1
  have HF := Lib.hid hf; clear hc h1 hf
  go_enter Tryd.func19, Tryd.ntmps19
  go_wp2_with fail
  refine (text_any [(s, n, t)] _ _ (by simp) (by simpa using hs) (hT.below (by go_grown)) (by simp) ?_).mono ?_
  · intro i x hx
    match i, hx with
    | 0, hx => simp at hx; subst hx; simp [go_sem]
  rw [HF.out]; rintro e w1 ⟨rfl, hb1⟩
  go_wp2_with fail
  go_ret2
  exact ⟨rfl, chain (by go_grown) hb1⟩
end Go.Proofs.YtcacembpegoghaaDoor
