/-
  Length and Turned: the program's and the reference's.
-/
import Derived.Test.YtcacembpegoghaaDoorVal5
namespace Go.Proofs.YtcacembpegoghaaDoor
open Go.RowKit Go.Proofs Go.Sort

theorem chkT_zero {s n : Int} {t : List UInt8} (h : chkT s n t = 0) : s = 3 ∧ n = 0 ∧ t.length ≤ 100 ∧ ∃ rs, letters t = some rs := by
  unfold chkT at h
  split at h
  · rename_i h1; exact absurd h h1
  · rename_i h1
    split at h
    · omega
    · rename_i h3
      have h3 : s = 3 := by omega
      subst h3
      have h1 : chk 3 n t = 0 := by omega
      unfold chk at h1
      split at h1
      · rename_i h2
        split at h1
        · omega
        · rename_i h4
          split at h1
          · rename_i h5
            rw [valid_letters] at h5
            exact ⟨rfl, h2.2, by omega, Option.isSome_iff_exists.1 h5⟩
          · omega
      · split at h1
        · rename_i h2; omega
        · omega

theorem runesBytes_list (ns : List Int) : runesBytes ns = ⟨(ns.flatMap enc).toArray⟩ := by
  have h : ∀ (ns : List Int) (s : List UInt8), ns.foldl (fun r n => r ++ Utf8.encode n) (⟨s.toArray⟩ : ByteArray) = ⟨(s ++ ns.flatMap enc).toArray⟩ := by
    intro ns
    induction ns with
    | nil => intro s; simp
    | cons n r ih =>
      intro s
      have e : (⟨s.toArray⟩ : ByteArray) ++ Utf8.encode n = ⟨(s ++ enc n).toArray⟩ := by
        rw [str_data ((⟨s.toArray⟩ : ByteArray) ++ Utf8.encode n)]
        simp [enc, ByteArray.data_append]
      rw [List.foldl_cons, e, ih]
      simp
  have := h ns []
  rw [List.nil_append] at this
  exact this

theorem below_putRow {B : Nat} {w : World} {blk off : Nat} {d : Array Int} (h : B ≤ blk) : Below B w (putRow encR w blk off d) := by
  refine ⟨rfl, rfl, rfl, by simp, fun k hk => ?_⟩
  unfold putRow mapBlock
  simp only [Array.getElem?_modify]
  rw [if_neg (by omega)]
theorem below_ahead {B : Nat} {w : World} (n : Nat) : Below B w (Sort.ahead w n) := ⟨rfl, rfl, rfl, Nat.le_refl _, fun _ _ => rfl⟩

theorem count_any (t : List UInt8) (rs : List Int) (w : World) (hl : t.length ≤ 100) (h : letters t = some rs) :
    Calls Tryd.prog 91 #[.string ⟨t.toArray⟩] w fun e w' => e = .returned (.int .i64 rs.length) ∧ Below w.heap.size w w' := by
  refine (Tryd.utf8_RuneCountInString ⟨t.toArray⟩ w (by rw [Lib.size_eq]; show t.length < _; omega)).mono ?_
  rintro e w' ⟨rfl, pos, rfl⟩
  exact ⟨by rw [runeCount_letters t rs h], (Below.refl _ _).alloc (Nat.le_refl _) _⟩

theorem length_ok (t : List UInt8) (rs : List Int) (w : World) (hT : Tabs w) (h1 : chkT 3 0 t = 0) (hr : letters t = some rs) :
    Calls Tryd.prog 19 #[mkV 3 0 t] w fun e w' => e = .returned (.tuple #[.int .i64 rs.length, .int .i64 0]) ∧ Below w.heap.size w w' := by
  obtain ⟨-, -, hl, -⟩ := chkT_zero h1
  have hf := firstT_one 3 0 t
  rw [h1] at hf
  have HF := Lib.hid hf; have HR := Lib.hid hr; clear h1 hf hr
  go_enter Tryd.func19, Tryd.ntmps19
  go_wp2_with fail
  refine (text_any [(3, 0, t)] _ _ (by simp) (by simp; omega) (hT.below (by go_grown)) (by simp) ?_).mono ?_
  · intro i x hx
    match i, hx with
    | 0, hx => simp at hx; subst hx; simp [go_sem]
  rw [HF.out]; rintro e w1 ⟨rfl, hb1⟩; obtain ⟨hc1, hf1, hz1⟩ := bcell hb1
  go_wp2_with fail
  refine (count_any t rs _ hl HR.out).mono ?_; rintro e w2 ⟨rfl, hb2⟩
  go_wp2_with fail
  go_ret2
  exact ⟨rfl, chain (chain (by go_grown) hb1) hb2⟩

theorem refLength_any (t : List UInt8) (rs : List Int) (w : World) (hT : Tabs w) (hl : t.length ≤ 100) (hr : letters t = some rs) :
    Calls Tryd.prog 15 #[.string ⟨t.toArray⟩] w fun e w' => e = .returned (.int .i64 rs.length) ∧ Below w.heap.size w w' := by
  have HR := Lib.hid hr; clear hr
  go_enter Tryd.func15, Tryd.ntmps15
  go_wp2_with fail
  refine (letters_any t _ (by omega) hT).mono ?_; rw [HR.out]; rintro e w1 ⟨hb1, v, rfl, hown⟩
  rcases hown.2 with ⟨rfl, h0⟩ | ⟨g, cap, cur, rfl, hg, _, hn, _⟩
  · go_wp2_with fail
    go_ret
    exact ⟨by simp [h0], hb1⟩
  · go_wp2_with fail
    go_ret
    exact ⟨rfl, hb1⟩

theorem turned_bad (s n : Int) (t : List UInt8) (w : World) (hs : t.length ≤ 9223372036854775807) (hT : Tabs w) (h1 : chkT s n t ≠ 0) :
    Calls Tryd.prog 21 #[mkV s n t] w fun e w' => e = .returned (.tuple #[mkV 0 0 [], .int .i64 (chkT s n t)]) ∧ Below w.heap.size w w' := by
  have hf := firstT_one s n t
  obtain ⟨c, hc⟩ : ∃ c, chkT s n t = c := ⟨_, rfl⟩
  rw [hc] at h1 hf ⊢
  have hcb : (c != 0) = true := by rw [bne_iff_ne]; exact h1
  have HF := Lib.hid hf; clear hc h1 hf
  go_enter Tryd.func21, Tryd.ntmps21
  go_wp2_with fail
  refine (text_any [(s, n, t)] _ _ (by simp) (by simpa using hs) (hT.below (by go_grown)) (by simp) ?_).mono ?_
  · intro i x hx
    match i, hx with
    | 0, hx => simp at hx; subst hx; simp [go_sem]
  rw [HF.out]; rintro e w1 ⟨rfl, hb1⟩; obtain ⟨hc1, hf1, hz1⟩ := bcell hb1
  have hb := chain (w := w) (by go_grown) hb1
  have q1 : w.heap.size + 3 ≤ w1.heap.size := by simp at hz1; omega
  simp only [World.size_alloc] at hc1 hf1
  have k0 : w1.cell? ⟨w.heap.size + 1, 0, none⟩ = some (.int .i64 0) := by rw [hc1 _ _ (by omega)]; simp [go_sem]
  have k1 : w1.cell? ⟨w.heap.size + 1, 1, none⟩ = some (.int .i64 0) := by rw [hc1 _ _ (by omega)]; simp [go_sem]
  have k2 : w1.cell? ⟨w.heap.size + 1, 2, none⟩ = some (.string ⟨#[]⟩) := by rw [hc1 _ _ (by omega)]; simp [go_sem]
  have k3 : ∀ j, w1.frozen? ⟨w.heap.size + 1, j, none⟩ = false := fun j => by rw [hf1 _ _ (by omega)]; simp [go_sem]
  clear hb1 hc1 hf1
  go_wp2_with fail
  exact bodyPost_ret (v := .tuple #[mkV 0 0 [], .int .i64 c]) (by simp [results, Tryd.results21, go_sem, k0, k1, k2]) rfl ⟨rfl, by go_grown⟩
end Go.Proofs.YtcacembpegoghaaDoor
