/-
  The reference's SameGlobal.
-/
import Derived.Test.YtcacembpegoghaaDoorGlU
import Derived.Test.YtcacembpegoghaaDoorGlC
import Derived.Test.YtcacembpegoghaaDoorBits
namespace Go.Proofs.YtcacembpegoghaaDoor
open Go.RowKit Go.Proofs
set_option maxRecDepth 100000

/-- Two rows of the same words are equal. -/
theorem equalStrs_any {w : World} {v v' : Value} {l : List Str} (h : IsStrs w v l) (h' : IsStrs w v' l) (hl : l.length ≤ 9223372036854775807) :
    Calls Tryd.prog 104 #[v, v'] w fun e w' => e = .returned (.bool true) ∧ Below w.heap.size w w' := by
  obtain ⟨A, c, rfl, _, h1⟩ := h
  obtain ⟨A', c', rfl, _, h1'⟩ := h'
  rcases Nat.eq_zero_or_pos l.length with h0 | h0
  · rw [h0]
    refine (Tryd.slices_Equal_string_empty A A' c 0 c' w (by omega)).mono ?_
    rintro e w' ⟨rfl, rfl⟩
    exact ⟨rfl, Below.refl _ _⟩
  · obtain ⟨b, o, rfl, r⟩ := h1 h0
    obtain ⟨b', o', rfl, r'⟩ := h1' h0
    have hg : ∀ {w : World} {b o : Nat}, StrRow w b o l → ∀ j, j < (l.map fun s => (⟨s.toArray⟩ : ByteArray)).length → w.cell? ⟨b, o + j, none⟩ = some (.string ((l.map fun s => (⟨s.toArray⟩ : ByteArray)).getD j ByteArray.empty)) := by
      intro w b o r j hj
      have hj' : j < l.length := by simpa using hj
      rw [r j l[j] (List.getElem?_eq_getElem hj')]
      congr 2
      rw [List.getD_eq_getElem?_getD, List.getElem?_map, List.getElem?_eq_getElem hj']
      rfl
    refine (Tryd.slices_Equal_string b o l.length c b' o' l.length c' (l.map fun s => ⟨s.toArray⟩) (l.map fun s => ⟨s.toArray⟩) w (by simp) (by simp) hl hl (hg r) (hg r')).mono ?_
    rintro e w' ⟨rfl, q, rfl⟩
    exact ⟨by simp, below_drewN (Below.refl _ _) q⟩

set_option maxHeartbeats 4000000 in
/-- Two that lie in memory are the same conversation. -/
theorem sameGlobal_any : ∀ (m : Nat) (t : Gl) (v v' : Value) (w : World), gparts t ≤ m → GFit t → IsGl w v t → IsGl w v' t →
    Calls Tryd.prog 28 #[v, v'] w fun e w' => e = .returned (.bool true) ∧ Below w.heap.size w w' := by
  intro m
  induction m with
  | zero => intro t v v' w h; cases t; simp only [gparts] at h; omega
  | succ m ih =>
  intro t v v' w hm hf hv hv'
  obtain ⟨lv, kv, rfl, h1, h2⟩ := hv
  obtain ⟨lv', kv', rfl, h1', h2'⟩ := hv'
  have H1 := Lib.hid h1.is; have H2 := Lib.hid h2; have H1' := Lib.hid h1'.is; have H2' := Lib.hid h2'
  obtain ⟨A0, p0, rfl, -, -⟩ := h1
  obtain ⟨A, cap, rfl, -, -⟩ := h2
  obtain ⟨A0', p0', rfl, -, -⟩ := h1'
  obtain ⟨A', cap', rfl, -, -⟩ := h2'
  obtain ⟨f1, f2, f3, f4, f5, f6, f7⟩ := hf.parts
  unfold maxLen at f1 f2 f3 f4
  have HF := Lib.hid f7; clear f7 f5
  have HP : Hid (1 + gpartss t.kids ≤ m + 1) := by cases t; exact hm
  obtain ⟨ks, hks⟩ : ∃ x, t.kids = x := ⟨_, rfl⟩
  obtain ⟨ls, hls⟩ : ∃ x, t.labels = x := ⟨_, rfl⟩
  rw [hks] at H2 H2' HF HP f6 ⊢
  rw [hls] at H1 H1' f4 ⊢
  obtain ⟨L, hL⟩ : ∃ x, ks.length = x := ⟨_, rfl⟩
  obtain ⟨M, hM⟩ : ∃ x, ls.length = x := ⟨_, rfl⟩
  have HL := Lib.hid hL; have HM := Lib.hid hM
  rw [hL] at H2 H2' f6 ⊢
  rw [hM] at H1 H1' f4 ⊢
  clear hL hM hks hls
  go_enter Tryd.func28, Tryd.ntmps28
  go_wp2_with fail
  have hb0 : Below w.heap.size w ((w.alloc (.cells #[.int .i64 t.kind, .string ⟨t.frm.toArray⟩, .string ⟨t.rcv.toArray⟩, .int .i64 t.sort, .string ⟨t.name.toArray⟩, .slice A0 M p0, .slice A L cap] 42)).alloc (.cells #[.int .i64 t.kind, .string ⟨t.frm.toArray⟩, .string ⟨t.rcv.toArray⟩, .int .i64 t.sort, .string ⟨t.name.toArray⟩, .slice A0' M p0', .slice A' L cap'] 42)) := by go_grown
  refine (equalStrs_any (l := ls) (H1.out.keep hb0) (H1'.out.keep hb0) (by rw [HM.out]; exact f4)).mono ?_
  rintro e w1 ⟨rfl, hb1⟩
  have hb := chain hb0 hb1
  have x6 := (hb1.cell (p := ⟨w.heap.size, 6, none⟩) (show w.heap.size < _ by simp; omega)).trans (show _ = some (.slice A L cap) by simp [go_sem])
  have y6 := (hb1.cell (p := ⟨w.heap.size + 1, 6, none⟩) (show w.heap.size + 1 < _ by simp)).trans (show _ = some (.slice A' L cap') by simp [go_sem])
  clear hb0 hb1
  go_wp2_with fail
  go_loopw [5] (fun i wr => ∃ k : Nat, k ≤ L ∧ i = .int .i64 k ∧ wr.cell? ⟨w.heap.size, 6, none⟩ = some (.slice A L cap) ∧ wr.cell? ⟨w.heap.size + 1, 6, none⟩ = some (.slice A' L cap') ∧ Below w.heap.size w wr) (fun i _ => L - (intOf i).toNat)
  case atStart => exact ⟨0, by omega, rfl, x6, y6, hb⟩
  case round =>
    clear x6 y6 hb
    obtain ⟨k, hk, rfl, x6, y6, hb⟩ := hrel
    by_cases hlt : k < L
    · obtain ⟨c, hc⟩ : ∃ x, ks[k]? = some x := ⟨_, List.getElem?_eq_getElem (by rw [HL.out]; exact hlt)⟩
      have HC := Lib.hid hc
      obtain ⟨-, -, b, off, A1, n1, q1, A2, n2, q2, rfl, c0, c1, c2, c3, c4, c5, c6, hl', hk'⟩ := gkid_all (IsGls.keep H2.out hb) hc
      obtain ⟨-, -, b', off', A3, n3, q3, A4, n4, q4, rfl, d0, d1, d2, d3, d4, d5, d6, hl2, hk2⟩ := gkid_all (IsGls.keep H2'.out hb) hc
      have hcp : gparts c ≤ m := by have h1 := gparts_at (mem_of_at HC.out); have h2 := HP.out; omega
      have hcall := fun wq (h : Below wr.heap.size wr wq) => ih c (.agg #[.int .i64 c.kind, .string ⟨c.frm.toArray⟩, .string ⟨c.rcv.toArray⟩, .int .i64 c.sort, .string ⟨c.name.toArray⟩, .slice A1 n1 q1, .slice A2 n2 q2]) (.agg #[.int .i64 c.kind, .string ⟨c.frm.toArray⟩, .string ⟨c.rcv.toArray⟩, .int .i64 c.sort, .string ⟨c.name.toArray⟩, .slice A3 n3 q3, .slice A4 n4 q4]) wq hcp (HF.out c (mem_of_at HC.out)) ((isGl_of hl' hk').keep h) ((isGl_of hl2 hk2).keep h)
      have HCL := Lib.hid hcall
      clear hl' hk' hl2 hk2 hc hcall
      go_wp2_with fail
      have hS : ∀ w' : World, Below wr.heap.size wr w' → (fun w' : World => w'.cell? ⟨w.heap.size, 6, none⟩ = some (.slice (some ⟨b, off, none⟩) L cap) ∧ w'.cell? ⟨w.heap.size + 1, 6, none⟩ = some (.slice (some ⟨b', off', none⟩) L cap') ∧ w'.cell? ⟨b, off + k * 7, none⟩ = some (.int .i64 c.kind) ∧ w'.cell? ⟨b, off + k * 7 + 1, none⟩ = some (.string ⟨c.frm.toArray⟩) ∧ w'.cell? ⟨b, off + k * 7 + 2, none⟩ = some (.string ⟨c.rcv.toArray⟩) ∧ w'.cell? ⟨b, off + k * 7 + 3, none⟩ = some (.int .i64 c.sort) ∧ w'.cell? ⟨b, off + k * 7 + 4, none⟩ = some (.string ⟨c.name.toArray⟩) ∧ w'.cell? ⟨b, off + k * 7 + 5, none⟩ = some (.slice A1 n1 q1) ∧ w'.cell? ⟨b, off + k * 7 + 6, none⟩ = some (.slice A2 n2 q2) ∧ w'.cell? ⟨b', off' + k * 7, none⟩ = some (.int .i64 c.kind) ∧ w'.cell? ⟨b', off' + k * 7 + 1, none⟩ = some (.string ⟨c.frm.toArray⟩) ∧ w'.cell? ⟨b', off' + k * 7 + 2, none⟩ = some (.string ⟨c.rcv.toArray⟩) ∧ w'.cell? ⟨b', off' + k * 7 + 3, none⟩ = some (.int .i64 c.sort) ∧ w'.cell? ⟨b', off' + k * 7 + 4, none⟩ = some (.string ⟨c.name.toArray⟩) ∧ w'.cell? ⟨b', off' + k * 7 + 5, none⟩ = some (.slice A3 n3 q3) ∧ w'.cell? ⟨b', off' + k * 7 + 6, none⟩ = some (.slice A4 n4 q4)) w' := fun w' h => ⟨cell_keep x6 h, cell_keep y6 h, cell_keep c0 h, cell_keep c1 h, cell_keep c2 h, cell_keep c3 h, cell_keep c4 h, cell_keep c5 h, cell_keep c6 h, cell_keep d0 h, cell_keep d1 h, cell_keep d2 h, cell_keep d3 h, cell_keep d4 h, cell_keep d5 h, cell_keep d6 h⟩
      have HSd := Lib.hid (hS wr.drew (Below.refl _ _).drew)
      have HSB := Lib.hid hS; clear hS
      refine wp_region_T 12 (fun w' : World => w'.cell? ⟨w.heap.size, 6, none⟩ = some (.slice (some ⟨b, off, none⟩) L cap) ∧ w'.cell? ⟨w.heap.size + 1, 6, none⟩ = some (.slice (some ⟨b', off', none⟩) L cap') ∧ w'.cell? ⟨b, off + k * 7, none⟩ = some (.int .i64 c.kind) ∧ w'.cell? ⟨b, off + k * 7 + 1, none⟩ = some (.string ⟨c.frm.toArray⟩) ∧ w'.cell? ⟨b, off + k * 7 + 2, none⟩ = some (.string ⟨c.rcv.toArray⟩) ∧ w'.cell? ⟨b, off + k * 7 + 3, none⟩ = some (.int .i64 c.sort) ∧ w'.cell? ⟨b, off + k * 7 + 4, none⟩ = some (.string ⟨c.name.toArray⟩) ∧ w'.cell? ⟨b, off + k * 7 + 5, none⟩ = some (.slice A1 n1 q1) ∧ w'.cell? ⟨b, off + k * 7 + 6, none⟩ = some (.slice A2 n2 q2) ∧ w'.cell? ⟨b', off' + k * 7, none⟩ = some (.int .i64 c.kind) ∧ w'.cell? ⟨b', off' + k * 7 + 1, none⟩ = some (.string ⟨c.frm.toArray⟩) ∧ w'.cell? ⟨b', off' + k * 7 + 2, none⟩ = some (.string ⟨c.rcv.toArray⟩) ∧ w'.cell? ⟨b', off' + k * 7 + 3, none⟩ = some (.int .i64 c.sort) ∧ w'.cell? ⟨b', off' + k * 7 + 4, none⟩ = some (.string ⟨c.name.toArray⟩) ∧ w'.cell? ⟨b', off' + k * 7 + 5, none⟩ = some (.slice A3 n3 q3) ∧ w'.cell? ⟨b', off' + k * 7 + 6, none⟩ = some (.slice A4 n4 q4)) (by kernel_rfl) ?_
      refine wpT_take (i := 0) (v := ?_) rfl (by kernel_rfl) (by kernel_rfl) (by kernel_rfl) (by kernel_rfl) (fun _ _ _ h => h) (Or.inl ⟨by rfl, ?_⟩) HSd.out ?_
      rotate_left
      · (intro wq hSw; obtain ⟨g0, g1, g2, g3, g4, g5, g6, g7, g8, g9, g10, g11, g12, g13, g14, g15⟩ := hSw; go_simp; all_goals (first | (with_reducible rfl) | (rw [if_neg (by first | omega | (simp; omega) | (simp only [List.length_append, List.length_cons, List.length_nil]; omega))])))
      simp only [List.getElem_toArray, List.getElem_cons_succ, List.getElem_cons_zero, Act.put, List.setIfInBounds_toArray, List.set_cons_zero, List.set_cons_succ]
      refine wpT_take (i := 1) (v := ?_) rfl (by kernel_rfl) (by kernel_rfl) (by kernel_rfl) (by kernel_rfl) (fun _ _ _ h => h) (Or.inl ⟨by rfl, ?_⟩) HSd.out ?_
      rotate_left
      · (intro wq hSw; obtain ⟨g0, g1, g2, g3, g4, g5, g6, g7, g8, g9, g10, g11, g12, g13, g14, g15⟩ := hSw; go_simp; all_goals (first | (with_reducible rfl) | (rw [if_neg (by first | omega | (simp; omega) | (simp only [List.length_append, List.length_cons, List.length_nil]; omega))])))
      simp only [List.getElem_toArray, List.getElem_cons_succ, List.getElem_cons_zero, Act.put, List.setIfInBounds_toArray, List.set_cons_zero, List.set_cons_succ]
      refine wpT_take (i := 2) (v := ?_) rfl (by kernel_rfl) (by kernel_rfl) (by kernel_rfl) (by kernel_rfl) (fun _ _ _ h => h) (Or.inl ⟨by rfl, ?_⟩) HSd.out ?_
      rotate_left
      · (intro wq hSw; obtain ⟨g0, g1, g2, g3, g4, g5, g6, g7, g8, g9, g10, g11, g12, g13, g14, g15⟩ := hSw; go_simp; all_goals (first | (with_reducible rfl) | (rw [if_neg (by first | omega | (simp; omega) | (simp only [List.length_append, List.length_cons, List.length_nil]; omega))])))
      simp only [List.getElem_toArray, List.getElem_cons_succ, List.getElem_cons_zero, Act.put, List.setIfInBounds_toArray, List.set_cons_zero, List.set_cons_succ]
      refine wpT_take (i := 3) (v := ?_) rfl (by kernel_rfl) (by kernel_rfl) (by kernel_rfl) (by kernel_rfl) (fun _ _ _ h => h) (Or.inl ⟨by rfl, ?_⟩) HSd.out ?_
      rotate_left
      · (intro wq hSw; obtain ⟨g0, g1, g2, g3, g4, g5, g6, g7, g8, g9, g10, g11, g12, g13, g14, g15⟩ := hSw; go_simp; all_goals (first | (with_reducible rfl) | (rw [if_neg (by first | omega | (simp; omega) | (simp only [List.length_append, List.length_cons, List.length_nil]; omega))])))
      simp only [List.getElem_toArray, List.getElem_cons_succ, List.getElem_cons_zero, Act.put, List.setIfInBounds_toArray, List.set_cons_zero, List.set_cons_succ]
      refine wpT_take (i := 4) (v := ?_) rfl (by kernel_rfl) (by kernel_rfl) (by kernel_rfl) (by kernel_rfl) (fun _ _ _ h => h) (Or.inl ⟨by rfl, ?_⟩) HSd.out ?_
      rotate_left
      · (intro wq hSw; obtain ⟨g0, g1, g2, g3, g4, g5, g6, g7, g8, g9, g10, g11, g12, g13, g14, g15⟩ := hSw; go_simp; all_goals (first | (with_reducible rfl) | (rw [if_neg (by first | omega | (simp; omega) | (simp only [List.length_append, List.length_cons, List.length_nil]; omega))])))
      simp only [List.getElem_toArray, List.getElem_cons_succ, List.getElem_cons_zero, Act.put, List.setIfInBounds_toArray, List.set_cons_zero, List.set_cons_succ]
      refine wpT_take (i := 5) (v := ?_) rfl (by kernel_rfl) (by kernel_rfl) (by kernel_rfl) (by kernel_rfl) (fun _ _ _ h => h) (Or.inl ⟨by rfl, ?_⟩) HSd.out ?_
      rotate_left
      · (intro wq hSw; obtain ⟨g0, g1, g2, g3, g4, g5, g6, g7, g8, g9, g10, g11, g12, g13, g14, g15⟩ := hSw; go_simp; all_goals (first | (with_reducible rfl) | (rw [if_neg (by first | omega | (simp; omega) | (simp only [List.length_append, List.length_cons, List.length_nil]; omega))])))
      simp only [List.getElem_toArray, List.getElem_cons_succ, List.getElem_cons_zero, Act.put, List.setIfInBounds_toArray, List.set_cons_zero, List.set_cons_succ]
      refine wpT_take (i := 6) (v := ?_) rfl (by kernel_rfl) (by kernel_rfl) (by kernel_rfl) (by kernel_rfl) (fun _ _ _ h => h) (Or.inl ⟨by rfl, ?_⟩) HSd.out ?_
      rotate_left
      · (intro wq hSw; obtain ⟨g0, g1, g2, g3, g4, g5, g6, g7, g8, g9, g10, g11, g12, g13, g14, g15⟩ := hSw; go_simp; all_goals (first | (with_reducible rfl) | (rw [if_neg (by first | omega | (simp; omega) | (simp only [List.length_append, List.length_cons, List.length_nil]; omega))])))
      simp only [List.getElem_toArray, List.getElem_cons_succ, List.getElem_cons_zero, Act.put, List.setIfInBounds_toArray, List.set_cons_zero, List.set_cons_succ]
      refine wpT_take (i := 7) (v := ?_) rfl (by kernel_rfl) (by kernel_rfl) (by kernel_rfl) (by kernel_rfl) (fun _ _ _ h => h) (Or.inl ⟨by rfl, ?_⟩) HSd.out ?_
      rotate_left
      · (intro wq hSw; obtain ⟨g0, g1, g2, g3, g4, g5, g6, g7, g8, g9, g10, g11, g12, g13, g14, g15⟩ := hSw; go_simp; all_goals (first | (with_reducible rfl) | (rw [if_neg (by first | omega | (simp; omega) | (simp only [List.length_append, List.length_cons, List.length_nil]; omega))])))
      simp only [List.getElem_toArray, List.getElem_cons_succ, List.getElem_cons_zero, Act.put, List.setIfInBounds_toArray, List.set_cons_zero, List.set_cons_succ]
      refine wpT_take (i := 8) (v := ?_) rfl (by kernel_rfl) (by kernel_rfl) (by kernel_rfl) (by kernel_rfl) (fun _ _ _ h => h) (Or.inl ⟨by rfl, ?_⟩) HSd.out ?_
      rotate_left
      · (intro wq hSw; obtain ⟨g0, g1, g2, g3, g4, g5, g6, g7, g8, g9, g10, g11, g12, g13, g14, g15⟩ := hSw; go_simp; all_goals (first | (with_reducible rfl) | (rw [if_neg (by first | omega | (simp; omega) | (simp only [List.length_append, List.length_cons, List.length_nil]; omega))])))
      simp only [List.getElem_toArray, List.getElem_cons_succ, List.getElem_cons_zero, Act.put, List.setIfInBounds_toArray, List.set_cons_zero, List.set_cons_succ]
      refine wpT_take (i := 9) (v := ?_) rfl (by kernel_rfl) (by kernel_rfl) (by kernel_rfl) (by kernel_rfl) (fun _ _ _ h => h) (Or.inl ⟨by rfl, ?_⟩) HSd.out ?_
      rotate_left
      · (intro wq hSw; obtain ⟨g0, g1, g2, g3, g4, g5, g6, g7, g8, g9, g10, g11, g12, g13, g14, g15⟩ := hSw; go_simp; all_goals (first | (with_reducible rfl) | (rw [if_neg (by first | omega | (simp; omega) | (simp only [List.length_append, List.length_cons, List.length_nil]; omega))])))
      simp only [List.getElem_toArray, List.getElem_cons_succ, List.getElem_cons_zero, Act.put, List.setIfInBounds_toArray, List.set_cons_zero, List.set_cons_succ]
      refine wpT_one (i := 10) rfl (by kernel_rfl) fun K hK => ?_
      go_simp
      refine (HCL.out wr.drew (Below.refl _ _).drew).mono ?_; rintro e w1 ⟨rfl, hq⟩
      have hb1 : Below wr.heap.size wr w1 := chain (Below.refl wr.heap.size wr).drew hq
      clear hq
      refine hK.out _ _ (fun _ => HSB.out _ hb1) ?_
      clear hK K
      try simp only [List.getElem_toArray, List.getElem_cons_succ, List.getElem_cons_zero, Act.put, List.setIfInBounds_toArray, List.set_cons_zero, List.set_cons_succ]
      refine wpT_one (i := 11) rfl (by kernel_rfl) fun K hK => ?_
      go_simp
      refine hK.out _ _ (fun _ => HSB.out _ hb1) ?_
      clear hK K
      try simp only [List.getElem_toArray, List.getElem_cons_succ, List.getElem_cons_zero, Act.put, List.setIfInBounds_toArray, List.set_cons_zero, List.set_cons_succ]
      refine wpT_done (by kernel_rfl) ?_
      go_wp2_with fail
      go_roundw
      case rel => exact ⟨k + 1, by omega, by go_num, cell_keep x6 hb1, cell_keep y6 hb1, chain hb hb1⟩
      case measure => simp [intOf]; omega
    · go_wp2_with fail
      go_ret
      exact ⟨rfl, hb⟩
end Go.Proofs.YtcacembpegoghaaDoor
