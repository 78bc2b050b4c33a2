/-
  The size of a type: types.size and the reference's SizeOf answer 'sizeW'.
-/
import Derived.Test.YtcacembpegoghaaDoorTyR
import Derived.Test.YtcacembpegoghaaDoorTyOpen
namespace Go.Proofs.YtcacembpegoghaaDoor
open Go.RowKit Go.Proofs

set_option maxRecDepth 100000
theorem sizeWs_drop {acc : Int} {ks : List Ty} {k : Nat} {t : Ty} (h : ks[k]? = some t) : sizeWs acc (ks.drop k) = sizeWs (wrap64 (acc + sizeW t)) (ks.drop (k + 1)) := by
  obtain ⟨h1, h2⟩ := List.getElem?_eq_some_iff.1 h
  rw [List.drop_eq_getElem_cons h1, h2]
  rfl
theorem sizeW_eq (t : Ty) : sizeW t = sizeWs 1 t.kids := by cases t; rfl

set_option maxHeartbeats 1000000 in
theorem size_any : ∀ (m : Nat) (t : Ty) (v : Value) (w : World), parts t ≤ m → IsTy w v t → Fit t →
    Calls Tryd.prog 116 #[v] w fun e w' => e = .returned (.int .i64 (sizeW t)) ∧ Below w.heap.size w w' := by
  intro m
  induction m with
  | zero => intro t v w h; cases t; simp only [parts] at h; omega
  | succ m ih =>
  intro t v w hm hv hf
  obtain ⟨lv, kv, rfl, h1, h2⟩ := hv
  have HK := Lib.hid h2
  obtain ⟨A, cap, rfl, -, -⟩ := h2
  obtain ⟨ANS, hA⟩ : ∃ x, sizeW t = x := ⟨_, rfl⟩
  have HA := Lib.hid hA; rw [hA]; clear hA
  have hkl := hf.parts.2.2.2.1
  unfold maxLen at hkl
  obtain ⟨ks, hks⟩ : ∃ x, t.kids = x := ⟨_, rfl⟩
  rw [hks] at HK hkl ⊢
  obtain ⟨L, hL⟩ : ∃ x, ks.length = x := ⟨_, rfl⟩
  have HL := Lib.hid hL
  rw [hL] at HK hkl ⊢
  clear hL
  have HF : Hid (∀ c ∈ ks, Fit c) := by have := hf.parts.2.2.2.2; rw [hks] at this; exact this
  have HP : Hid (1 + partss ks ≤ m + 1) := by cases t; subst hks; exact hm
  go_enter Tryd.func116, Tryd.ntmps116
  go_wp2_with fail
  go_loopw [3, 9] (fun n i wr => ∃ (k : Nat) (acc : Int), k ≤ L ∧ i = .int .i64 k ∧ n = .int .i64 acc ∧ Hid (ANS = sizeWs acc (ks.drop k)) ∧ Below w.heap.size w wr) (fun _ i _ => L - (intOf i).toNat)
  case atStart => exact ⟨0, 1, by omega, rfl, rfl, by rw [← HA.out, sizeW_eq, hks]; rfl, by go_grown⟩
  case round =>
    obtain ⟨k, acc, hk, rfl, rfl, hs, hb⟩ := hrel
    by_cases hlt : k < L
    · obtain ⟨c, hc⟩ : ∃ x, ks[k]? = some x := ⟨_, List.getElem?_eq_getElem (by rw [HL.out]; exact hlt)⟩
      have HC := Lib.hid hc
      obtain ⟨-, -, b, off, A1, n1, p1, A2, n2, p2, rfl, c0, c1, c2, c3, c4, hl', hk'⟩ := kid_at (HK.out.keep hb) hc
      have HL' := Lib.hid hl'; have HK' := Lib.hid hk'; clear hl' hk'
      clear hc
      have hcp : parts c ≤ m := by have h1 := parts_at (mem_of_at HC.out); have h2 := HP.out; omega
      have hcf : Fit c := HF.out c (mem_of_at HC.out)
      have hstep : Hid (ANS = sizeWs (wrap64 (acc + sizeW c)) (ks.drop (k + 1))) := by
        show _ = _
        rw [hs.out, sizeWs_drop HC.out]
      obtain ⟨S, hS⟩ : ∃ x, sizeW c = x := ⟨_, rfl⟩
      rw [hS] at hstep
      have HS := Lib.hid hS; clear hS hs
      go_wp2_with fail
      refine (ih c _ _ hcp (isTy_of (HL'.out.keep (by go_grown)) (HK'.out.keep (by go_grown))) hcf).mono ?_; rw [HS.out]; rintro e w1 ⟨rfl, hb1⟩
      go_wp2_with fail
      go_roundw
      case rel => exact ⟨k + 1, _, by omega, by go_num, rfl, hstep, chain (hb.alloc hb.size _) hb1⟩
      case measure => simp [intOf]; omega
    · go_wp2_with fail
      go_ret
      refine ⟨?_, hb⟩
      have := hs.out
      rw [List.drop_of_length_le (by rw [HL.out]; omega)] at this
      rw [this]
      rfl

set_option maxHeartbeats 1000000 in
theorem refSize_any : ∀ (m : Nat) (t : Ty) (v : Value) (w : World), parts t ≤ m → IsTy w v t → Fit t →
    Calls Tryd.prog 38 #[v] w fun e w' => e = .returned (.int .i64 (sizeW t)) ∧ Below w.heap.size w w' := by
  intro m
  induction m with
  | zero => intro t v w h; cases t; simp only [parts] at h; omega
  | succ m ih =>
  intro t v w hm hv hf
  obtain ⟨lv, kv, rfl, h1, h2⟩ := hv
  have HK := Lib.hid h2
  obtain ⟨A, cap, rfl, -, -⟩ := h2
  obtain ⟨ANS, hA⟩ : ∃ x, sizeW t = x := ⟨_, rfl⟩
  have HA := Lib.hid hA; rw [hA]; clear hA
  have hkl := hf.parts.2.2.2.1
  unfold maxLen at hkl
  obtain ⟨ks, hks⟩ : ∃ x, t.kids = x := ⟨_, rfl⟩
  rw [hks] at HK hkl ⊢
  obtain ⟨L, hL⟩ : ∃ x, ks.length = x := ⟨_, rfl⟩
  have HL := Lib.hid hL
  rw [hL] at HK hkl ⊢
  clear hL
  have HF : Hid (∀ c ∈ ks, Fit c) := by have := hf.parts.2.2.2.2; rw [hks] at this; exact this
  have HP : Hid (1 + partss ks ≤ m + 1) := by cases t; subst hks; exact hm
  go_enter Tryd.func38, Tryd.ntmps38
  go_wp2_with fail
  go_loopw [3, 4] (fun n i wr => ∃ (k : Nat) (acc : Int), k ≤ L ∧ i = .int .i64 k ∧ n = .int .i64 acc ∧ Hid (ANS = sizeWs acc (ks.drop k)) ∧ Below w.heap.size w wr ∧ w.heap.size < wr.heap.size ∧ wr.cell? ⟨w.heap.size, 4, none⟩ = some (.slice A L cap)) (fun _ i _ => L - (intOf i).toNat)
  case atStart => exact ⟨0, 1, by omega, rfl, rfl, by rw [← HA.out, sizeW_eq, hks]; rfl, by go_grown, by simp, by simp [go_sem]⟩
  case round =>
    obtain ⟨k, acc, hk, rfl, rfl, hs, hb, hlt0, hbox⟩ := hrel
    by_cases hlt : k < L
    · obtain ⟨c, hc⟩ : ∃ x, ks[k]? = some x := ⟨_, List.getElem?_eq_getElem (by rw [HL.out]; exact hlt)⟩
      have HC := Lib.hid hc
      obtain ⟨-, -, b, off, A1, n1, p1, A2, n2, p2, rfl, c0, c1, c2, c3, c4, hl', hk'⟩ := kid_at (HK.out.keep hb) hc
      have HL' := Lib.hid hl'; have HK' := Lib.hid hk'; clear hl' hk'
      clear hc
      have hcp : parts c ≤ m := by have h1 := parts_at (mem_of_at HC.out); have h2 := HP.out; omega
      have hcf : Fit c := HF.out c (mem_of_at HC.out)
      have hstep : Hid (ANS = sizeWs (wrap64 (acc + sizeW c)) (ks.drop (k + 1))) := by
        show _ = _
        rw [hs.out, sizeWs_drop HC.out]
      obtain ⟨S, hS⟩ : ∃ x, sizeW c = x := ⟨_, rfl⟩
      rw [hS] at hstep
      have HS := Lib.hid hS; clear hS hs
      go_wp2_with fail
      refine (ih c _ _ hcp (isTy_of (HL'.out.keep (by go_grown)) (HK'.out.keep (by go_grown))) hcf).mono ?_; rw [HS.out]; rintro e w1 ⟨rfl, hb1⟩
      go_wp2_with fail
      go_roundw
      case rel => exact ⟨k + 1, _, by omega, by go_num, rfl, hstep, chain hb hb1, Nat.lt_of_lt_of_le hlt0 hb1.size, cell_keep hbox hb1⟩
      case measure => simp [intOf]; omega
    · go_wp2_with fail
      go_ret
      refine ⟨?_, hb⟩
      have := hs.out
      rw [List.drop_of_length_le (by rw [HL.out]; omega)] at this
      rw [this]
      rfl
end Go.Proofs.YtcacembpegoghaaDoor
