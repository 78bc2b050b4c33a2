/-
  The program's Joined.
-/
import Derived.Test.YtcacembpegoghaaDoorVal9
namespace Go.Proofs.YtcacembpegoghaaDoor
open Go.RowKit Go.Proofs Go.Sort

theorem byte_at {l : List UInt8} {k : Nat} {b : UInt8} (h : l[k]? = some b) (hk : k < (⟨l.toArray⟩ : ByteArray).size) : (⟨l.toArray⟩ : ByteArray)[k]'hk = b := by
  obtain ⟨h1, h2⟩ := List.getElem?_eq_some_iff.1 h
  exact h2
theorem start_any (b : UInt8) (w : World) : Calls Tryd.prog 92 #[.int .u8 b.toNat] w fun e w' => e = .returned (.bool (Lib.runeStart b.toNat)) ∧ w' = w :=
  Tryd.utf8_RuneStart _ w (by omega) (by have := b.toNat_lt; omega)

/-- The two boxes and the result's variable, as they lie behind the call of 'text'. -/
structure JoinHeap (w w1 : World) (t t' : List UInt8) : Prop where
  hb : Below w.heap.size w w1
  q : w.heap.size + 4 ≤ w1.heap.size
  a2 : w1.cell? ⟨w.heap.size, 2, none⟩ = some (.string ⟨t.toArray⟩)
  b2 : w1.cell? ⟨w.heap.size + 1, 2, none⟩ = some (.string ⟨t'.toArray⟩)
  k0 : w1.cell? ⟨w.heap.size + 2, 0, none⟩ = some (.int .i64 0)
  k1 : w1.cell? ⟨w.heap.size + 2, 1, none⟩ = some (.int .i64 0)
  k2 : w1.cell? ⟨w.heap.size + 2, 2, none⟩ = some (.string ⟨#[]⟩)
  k3 : ∀ j, w1.frozen? ⟨w.heap.size + 2, j, none⟩ = false

theorem join_heap {s n s' n' : Int} {t t' : List UInt8} {w w1 : World}
    (hb1 : Below ((((w.alloc (.cells #[.int .i64 s, .int .i64 n, .string ⟨t.toArray⟩] 23)).alloc (.cells #[.int .i64 s', .int .i64 n', .string ⟨t'.toArray⟩] 23)).alloc (.cells #[.int .i64 0, .int .i64 0, .string ⟨#[]⟩] 23)).alloc
      (.cells #[.int .i64 s, .int .i64 n, .string ⟨t.toArray⟩, .int .i64 s', .int .i64 n', .string ⟨t'.toArray⟩] 23)).heap.size
      ((((w.alloc (.cells #[.int .i64 s, .int .i64 n, .string ⟨t.toArray⟩] 23)).alloc (.cells #[.int .i64 s', .int .i64 n', .string ⟨t'.toArray⟩] 23)).alloc (.cells #[.int .i64 0, .int .i64 0, .string ⟨#[]⟩] 23)).alloc
      (.cells #[.int .i64 s, .int .i64 n, .string ⟨t.toArray⟩, .int .i64 s', .int .i64 n', .string ⟨t'.toArray⟩] 23)) w1) : JoinHeap w w1 t t' := by
  obtain ⟨hc1, hf1, hz1⟩ := bcell hb1
  have hb := chain (w := w) (by go_grown) hb1
  have q1 : w.heap.size + 4 ≤ w1.heap.size := by simp at hz1; omega
  simp only [World.size_alloc] at hc1 hf1
  exact ⟨hb, q1, by rw [hc1 _ _ (by omega)]; simp [go_sem], by rw [hc1 _ _ (by omega)]; simp [go_sem], by rw [hc1 _ _ (by omega)]; simp [go_sem], by rw [hc1 _ _ (by omega)]; simp [go_sem], by rw [hc1 _ _ (by omega)]; simp [go_sem],
    fun j => by rw [hf1 _ _ (by omega)]; simp [go_sem]⟩

theorem joined_bad (s n s' n' : Int) (t t' : List UInt8) (w : World) (hs : t.length ≤ 9223372036854775807) (hs' : t'.length ≤ 9223372036854775807) (hT : Tabs w) (h1 : firstT [(s, n, t), (s', n', t')] ≠ 0) :
    Calls Tryd.prog 20 #[mkV s n t, mkV s' n' t'] w fun e w' => e = .returned (.tuple #[mkV 0 0 [], .int .i64 (firstT [(s, n, t), (s', n', t')])]) ∧ Below w.heap.size w w' := by
  obtain ⟨c, hc⟩ : ∃ c, firstT [(s, n, t), (s', n', t')] = c := ⟨_, rfl⟩
  rw [hc] at h1 ⊢
  have hcb : (c != 0) = true := by rw [bne_iff_ne]; exact h1
  have HF := Lib.hid hc; clear hc h1
  go_enter Tryd.func20, Tryd.ntmps20
  go_wp2_with fail
  refine (text_any [(s, n, t), (s', n', t')] _ _ (by simp) (by simp; exact ⟨hs, hs'⟩) (hT.below (by go_grown)) (by simp) ?_).mono ?_
  · intro i x hx
    match i, hx with
    | 0, hx => simp at hx; subst hx; simp [go_sem]
    | 1, hx => simp at hx; subst hx; simp [go_sem]
  rw [HF.out]; rintro e w1 ⟨rfl, hb1⟩
  obtain ⟨hb, q1, a2, b2, k0, k1, k2, k3⟩ := join_heap hb1
  clear hb1
  go_wp2_with fail
  exact bodyPost_ret (v := .tuple #[mkV 0 0 [], .int .i64 c]) (by simp [results, Tryd.results20, go_sem, k0, k1, k2]) rfl ⟨rfl, by go_grown⟩

set_option maxRecDepth 100000 in
set_option maxHeartbeats 1000000 in
theorem joined_ok (t t' : List UInt8) (rs rs' : List Int) (w : World) (hT : Tabs w) (h1 : chkT 3 0 t = 0) (h2 : chkT 3 0 t' = 0) (hr : letters t = some rs) (hr' : letters t' = some rs') :
    Calls Tryd.prog 20 #[mkV 3 0 t, mkV 3 0 t'] w fun e w' => e = .returned (.tuple #[mkV 3 0 (joinGo [] (rs ++ rs')), .int .i64 0]) ∧ Below w.heap.size w w' := by
  obtain ⟨-, -, hl, -⟩ := chkT_zero h1
  obtain ⟨-, -, hl', -⟩ := chkT_zero h2
  have hf : firstT [(3, 0, t), (3, 0, t')] = 0 := by simp [firstT, h1, h2]
  obtain ⟨e1, hv1⟩ := letters_spec _ t rs (Nat.le_refl _) hr
  obtain ⟨e2, hv2⟩ := letters_spec _ t' rs' (Nat.le_refl _) hr'
  have hfull : t ++ t' = (rs ++ rs').flatMap enc := by rw [List.flatMap_append, ← e1, ← e2]
  have hval : ∀ r ∈ rs ++ rs', Utf8.valid r = true := by
    intro r hm
    rcases List.mem_append.1 hm with h | h
    · exact hv1 r h
    · exact hv2 r h
  obtain ⟨L, hL⟩ : ∃ L, rs ++ rs' = L := ⟨_, rfl⟩
  rw [hL] at hfull hval ⊢
  have HF := Lib.hid hf
  by_cases hbig : 100 < t.length + t'.length
  · obtain ⟨m, m1, m2, m3, ⟨bm, m4, m5⟩, m6⟩ := join_cut L [] hval (by simp) (by simpa [← hfull] using hbig)
    rw [List.nil_append, ← hfull] at m3 m4 m6
    obtain ⟨J, hJ⟩ : ∃ J, joinGo [] L = J := ⟨_, rfl⟩
    rw [hJ] at m3 ⊢
    have HM3 := Lib.hid m3; have HM4 := Lib.hid m4; have HM5 := Lib.hid m5; have HM6 := Lib.hid m6
    have hbz : (100 : Int) < (t.length : Int) + (t'.length : Int) := by omega
    clear h1 h2 hr hr' hf e1 e2 hv1 hv2 hfull hval hJ hL m3 m4 m5 m6 m2
    go_enter Tryd.func20, Tryd.ntmps20
    go_wp2_with fail
    refine (text_any [(3, 0, t), (3, 0, t')] _ _ (by simp) (by simp; omega) (hT.below (by go_grown)) (by simp) ?_).mono ?_
    · intro i x hx
      match i, hx with
      | 0, hx => simp at hx; subst hx; simp [go_sem]
      | 1, hx => simp at hx; subst hx; simp [go_sem]
    rw [HF.out]; rintro e w1 ⟨rfl, hb1⟩
    obtain ⟨hb, q1, a2, b2, k0, k1, k2, k3⟩ := join_heap hb1
    clear hb1
    go_wp2_with fail
    go_loop [8] (fun i => ∃ k : Nat, m ≤ k ∧ k ≤ 100 ∧ i = .int .i64 k) (fun i => (intOf i).toNat)
    case atStart => exact ⟨100, m1, by omega, rfl⟩
    case round =>
      obtain ⟨k, hk1, hk2, rfl⟩ := hrel
      by_cases hkm : k = m
      · subst hkm
        go_wp2_with fail
        rw [byte_at HM4.out]
        refine (start_any bm _).mono ?_; rw [HM5.out]; rintro e w' ⟨rfl, rfl⟩
        go_wp2_with fail
        exact bodyPost_ret (v := .tuple #[mkV 3 0 ((t ++ t').take k), .int .i64 0]) (by simp [results, Tryd.results20, go_sem, k0, k1, k2]) rfl ⟨by rw [HM3.out], by go_grown⟩
      · obtain ⟨b, g1, g2⟩ := HM6.out k (by omega) hk2
        have G1 := Lib.hid g1; have G2 := Lib.hid g2; clear g1 g2
        have hk3 : m < k := by omega
        clear hkm
        go_wp2_with fail
        rw [byte_at G1.out]
        refine (start_any b _).mono ?_; rw [G2.out]; rintro e w' ⟨rfl, rfl⟩
        go_wp2_with fail
        go_round
        case rel => exact ⟨k - 1, by omega, by omega, by rw [show ((k - 1 : Nat) : Int) = (k : Int) - 1 by omega]⟩
        case measure => simp [intOf]; omega
  · have hj : joinGo [] L = t ++ t' := by rw [join_all L [] (by simpa [← hfull] using hbig), List.nil_append, hfull]
    have hbz : ¬ (100 : Int) < (t.length : Int) + (t'.length : Int) := by omega
    have HJ := Lib.hid hj
    clear h1 h2 hr hr' hf e1 e2 hv1 hv2 hfull hval hj hL
    go_enter Tryd.func20, Tryd.ntmps20
    go_wp2_with fail
    refine (text_any [(3, 0, t), (3, 0, t')] _ _ (by simp) (by simp; omega) (hT.below (by go_grown)) (by simp) ?_).mono ?_
    · intro i x hx
      match i, hx with
      | 0, hx => simp at hx; subst hx; simp [go_sem]
      | 1, hx => simp at hx; subst hx; simp [go_sem]
    rw [HF.out]; rintro e w1 ⟨rfl, hb1⟩
    obtain ⟨hb, q1, a2, b2, k0, k1, k2, k3⟩ := join_heap hb1
    clear hb1
    go_wp2_with fail
    exact bodyPost_ret (v := .tuple #[mkV 3 0 (t ++ t'), .int .i64 0]) (by simp [results, Tryd.results20, go_sem, k0, k1, k2]) rfl ⟨by rw [HJ.out], by go_grown⟩
end Go.Proofs.YtcacembpegoghaaDoor
