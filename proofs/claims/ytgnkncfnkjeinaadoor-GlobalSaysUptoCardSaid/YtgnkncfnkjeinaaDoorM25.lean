/-
  The reference's SameGlobal.
  The reference's talk: the shape of a conversation's part.
-/
import Derived.Test.YtgnkncfnkjeinaaDoorM8
import Derived.Test.YtgnkncfnkjeinaaDoorM14
import Derived.Laws.MakeOwn
namespace Go.Proofs.YtgnkncfnkjeinaaDoor
open Go.RowKit Go.Proofs
set_option maxRecDepth 100000

/-- Two rows of the same words are equal. -/
theorem equalStrs_any {w : World} {v v' : Value} {l : List Str} (h : IsStrs w v l) (h' : IsStrs w v' l) (hl : l.length ≤ 9223372036854775807) :
    Calls Tryd.prog 62 #[v, v'] w fun e w' => e = .returned (.bool true) ∧ Below w.heap.size w w' := by
  obtain ⟨A, c, rfl, _, h1⟩ := h
  obtain ⟨A', c', rfl, _, h1'⟩ := h'
  rcases Nat.eq_zero_or_pos l.length with h0 | h0
  · rw [h0]
    refine (Tryd.slices_Equal_string_empty A A' c 0 c' w (by omega)).mono ?_
    rintro e w' ⟨rfl, rfl⟩
    exact ⟨rfl, Below.refl _ _⟩
  · obtain ⟨b, o, rfl, r⟩ := h1 h0
    obtain ⟨b', o', rfl, r'⟩ := h1' h0
    have hg : ∀ {w : World} {b o : Nat}, StrRow w b o l → ∀ j, j < (l.map fun s => (⟨s.toArray⟩ : ByteArray)).length → w.cell? ⟨b, o + j, none⟩ = some (.string ((l.map fun s => (⟨s.toArray⟩ : ByteArray)).getD j ByteArray.empty)) := by
      intro w b o r j hj
      have hj' : j < l.length := by simpa using hj
      rw [r j l[j] (List.getElem?_eq_getElem hj')]
      congr 2
      rw [List.getD_eq_getElem?_getD, List.getElem?_map, List.getElem?_eq_getElem hj']
      rfl
    refine (Tryd.slices_Equal_string b o l.length c b' o' l.length c' (l.map fun s => ⟨s.toArray⟩) (l.map fun s => ⟨s.toArray⟩) w (by simp) (by simp) hl hl (hg r) (hg r')).mono ?_
    rintro e w' ⟨rfl, q, rfl⟩
    exact ⟨by simp, below_drewN (Below.refl _ _) q⟩

set_option maxHeartbeats 4000000 in
/-- Two that lie in memory are the same conversation. -/
theorem sameGlobal_any : ∀ (m : Nat) (t : Gl) (v v' : Value) (w : World), gparts t ≤ m → GFit t → IsGl w v t → IsGl w v' t →
    Calls Tryd.prog 29 #[v, v'] w fun e w' => e = .returned (.bool true) ∧ Below w.heap.size w w' := by
  intro m
  induction m with
  | zero => intro t v v' w h; cases t; simp only [gparts] at h; omega
  | succ m ih =>
  intro t v v' w hm hf hv hv'
  obtain ⟨lv, kv, rfl, h1, h2⟩ := hv
  obtain ⟨lv', kv', rfl, h1', h2'⟩ := hv'
  have H1 := Lib.hid h1.is; have H2 := Lib.hid h2; have H1' := Lib.hid h1'.is; have H2' := Lib.hid h2'
  obtain ⟨A0, p0, rfl, -, -⟩ := h1
  obtain ⟨A, cap, rfl, -, -⟩ := h2
  obtain ⟨A0', p0', rfl, -, -⟩ := h1'
  obtain ⟨A', cap', rfl, -, -⟩ := h2'
  obtain ⟨f1, f2, f3, f4, f5, f6, f7⟩ := hf.parts
  unfold maxLen at f1 f2 f3 f4
  have HF := Lib.hid f7; clear f7 f5
  have HP : Hid (1 + gpartss t.kids ≤ m + 1) := by cases t; exact hm
  obtain ⟨ks, hks⟩ : ∃ x, t.kids = x := ⟨_, rfl⟩
  obtain ⟨ls, hls⟩ : ∃ x, t.labels = x := ⟨_, rfl⟩
  rw [hks] at H2 H2' HF HP f6 ⊢
  rw [hls] at H1 H1' f4 ⊢
  obtain ⟨L, hL⟩ : ∃ x, ks.length = x := ⟨_, rfl⟩
  obtain ⟨M, hM⟩ : ∃ x, ls.length = x := ⟨_, rfl⟩
  have HL := Lib.hid hL; have HM := Lib.hid hM
  rw [hL] at H2 H2' f6 ⊢
  rw [hM] at H1 H1' f4 ⊢
  clear hL hM hks hls
  go_enter Tryd.func29, Tryd.ntmps29
  go_wp2_with fail
  have hb0 : Below w.heap.size w ((w.alloc (.cells #[.int .i64 t.kind, .string ⟨t.frm.toArray⟩, .string ⟨t.rcv.toArray⟩, .int .i64 t.sort, .string ⟨t.name.toArray⟩, .slice A0 M p0, .slice A L cap] 52)).alloc (.cells #[.int .i64 t.kind, .string ⟨t.frm.toArray⟩, .string ⟨t.rcv.toArray⟩, .int .i64 t.sort, .string ⟨t.name.toArray⟩, .slice A0' M p0', .slice A' L cap'] 52)) := by go_grown
  refine (equalStrs_any (l := ls) (H1.out.keep hb0) (H1'.out.keep hb0) (by rw [HM.out]; exact f4)).mono ?_
  rintro e w1 ⟨rfl, hb1⟩
  have hb := chain hb0 hb1
  have x6 := (hb1.cell (p := ⟨w.heap.size, 6, none⟩) (show w.heap.size < _ by simp; omega)).trans (show _ = some (.slice A L cap) by simp [go_sem])
  have y6 := (hb1.cell (p := ⟨w.heap.size + 1, 6, none⟩) (show w.heap.size + 1 < _ by simp)).trans (show _ = some (.slice A' L cap') by simp [go_sem])
  clear hb0 hb1
  go_wp2_with fail
  go_loopw [5] (fun i wr => ∃ k : Nat, k ≤ L ∧ i = .int .i64 k ∧ wr.cell? ⟨w.heap.size, 6, none⟩ = some (.slice A L cap) ∧ wr.cell? ⟨w.heap.size + 1, 6, none⟩ = some (.slice A' L cap') ∧ Below w.heap.size w wr) (fun i _ => L - (intOf i).toNat)
  case atStart => exact ⟨0, by omega, rfl, x6, y6, hb⟩
  case round =>
    clear x6 y6 hb
    obtain ⟨k, hk, rfl, x6, y6, hb⟩ := hrel
    by_cases hlt : k < L
    · obtain ⟨c, hc⟩ : ∃ x, ks[k]? = some x := ⟨_, List.getElem?_eq_getElem (by rw [HL.out]; exact hlt)⟩
      have HC := Lib.hid hc
      obtain ⟨-, -, b, off, A1, n1, q1, A2, n2, q2, rfl, c0, c1, c2, c3, c4, c5, c6, hl', hk'⟩ := gkid_all (IsGls.keep H2.out hb) hc
      obtain ⟨-, -, b', off', A3, n3, q3, A4, n4, q4, rfl, d0, d1, d2, d3, d4, d5, d6, hl2, hk2⟩ := gkid_all (IsGls.keep H2'.out hb) hc
      have hcp : gparts c ≤ m := by have h1 := gparts_at (mem_of_at HC.out); have h2 := HP.out; omega
      have hcall := fun wq (h : Below wr.heap.size wr wq) => ih c (.agg #[.int .i64 c.kind, .string ⟨c.frm.toArray⟩, .string ⟨c.rcv.toArray⟩, .int .i64 c.sort, .string ⟨c.name.toArray⟩, .slice A1 n1 q1, .slice A2 n2 q2]) (.agg #[.int .i64 c.kind, .string ⟨c.frm.toArray⟩, .string ⟨c.rcv.toArray⟩, .int .i64 c.sort, .string ⟨c.name.toArray⟩, .slice A3 n3 q3, .slice A4 n4 q4]) wq hcp (HF.out c (mem_of_at HC.out)) ((isGl_of hl' hk').keep h) ((isGl_of hl2 hk2).keep h)
      have HCL := Lib.hid hcall
      clear hl' hk' hl2 hk2 hc hcall
      go_wp2_with fail
      have hS : ∀ w' : World, Below wr.heap.size wr w' → (fun w' : World => w'.cell? ⟨w.heap.size, 6, none⟩ = some (.slice (some ⟨b, off, none⟩) L cap) ∧ w'.cell? ⟨w.heap.size + 1, 6, none⟩ = some (.slice (some ⟨b', off', none⟩) L cap') ∧ w'.cell? ⟨b, off + k * 7, none⟩ = some (.int .i64 c.kind) ∧ w'.cell? ⟨b, off + k * 7 + 1, none⟩ = some (.string ⟨c.frm.toArray⟩) ∧ w'.cell? ⟨b, off + k * 7 + 2, none⟩ = some (.string ⟨c.rcv.toArray⟩) ∧ w'.cell? ⟨b, off + k * 7 + 3, none⟩ = some (.int .i64 c.sort) ∧ w'.cell? ⟨b, off + k * 7 + 4, none⟩ = some (.string ⟨c.name.toArray⟩) ∧ w'.cell? ⟨b, off + k * 7 + 5, none⟩ = some (.slice A1 n1 q1) ∧ w'.cell? ⟨b, off + k * 7 + 6, none⟩ = some (.slice A2 n2 q2) ∧ w'.cell? ⟨b', off' + k * 7, none⟩ = some (.int .i64 c.kind) ∧ w'.cell? ⟨b', off' + k * 7 + 1, none⟩ = some (.string ⟨c.frm.toArray⟩) ∧ w'.cell? ⟨b', off' + k * 7 + 2, none⟩ = some (.string ⟨c.rcv.toArray⟩) ∧ w'.cell? ⟨b', off' + k * 7 + 3, none⟩ = some (.int .i64 c.sort) ∧ w'.cell? ⟨b', off' + k * 7 + 4, none⟩ = some (.string ⟨c.name.toArray⟩) ∧ w'.cell? ⟨b', off' + k * 7 + 5, none⟩ = some (.slice A3 n3 q3) ∧ w'.cell? ⟨b', off' + k * 7 + 6, none⟩ = some (.slice A4 n4 q4)) w' := fun w' h => ⟨cell_keep x6 h, cell_keep y6 h, cell_keep c0 h, cell_keep c1 h, cell_keep c2 h, cell_keep c3 h, cell_keep c4 h, cell_keep c5 h, cell_keep c6 h, cell_keep d0 h, cell_keep d1 h, cell_keep d2 h, cell_keep d3 h, cell_keep d4 h, cell_keep d5 h, cell_keep d6 h⟩
      have HSd := Lib.hid (hS wr.drew (Below.refl _ _).drew)
      have HSB := Lib.hid hS; clear hS
      refine wp_region_T 12 (fun w' : World => w'.cell? ⟨w.heap.size, 6, none⟩ = some (.slice (some ⟨b, off, none⟩) L cap) ∧ w'.cell? ⟨w.heap.size + 1, 6, none⟩ = some (.slice (some ⟨b', off', none⟩) L cap') ∧ w'.cell? ⟨b, off + k * 7, none⟩ = some (.int .i64 c.kind) ∧ w'.cell? ⟨b, off + k * 7 + 1, none⟩ = some (.string ⟨c.frm.toArray⟩) ∧ w'.cell? ⟨b, off + k * 7 + 2, none⟩ = some (.string ⟨c.rcv.toArray⟩) ∧ w'.cell? ⟨b, off + k * 7 + 3, none⟩ = some (.int .i64 c.sort) ∧ w'.cell? ⟨b, off + k * 7 + 4, none⟩ = some (.string ⟨c.name.toArray⟩) ∧ w'.cell? ⟨b, off + k * 7 + 5, none⟩ = some (.slice A1 n1 q1) ∧ w'.cell? ⟨b, off + k * 7 + 6, none⟩ = some (.slice A2 n2 q2) ∧ w'.cell? ⟨b', off' + k * 7, none⟩ = some (.int .i64 c.kind) ∧ w'.cell? ⟨b', off' + k * 7 + 1, none⟩ = some (.string ⟨c.frm.toArray⟩) ∧ w'.cell? ⟨b', off' + k * 7 + 2, none⟩ = some (.string ⟨c.rcv.toArray⟩) ∧ w'.cell? ⟨b', off' + k * 7 + 3, none⟩ = some (.int .i64 c.sort) ∧ w'.cell? ⟨b', off' + k * 7 + 4, none⟩ = some (.string ⟨c.name.toArray⟩) ∧ w'.cell? ⟨b', off' + k * 7 + 5, none⟩ = some (.slice A3 n3 q3) ∧ w'.cell? ⟨b', off' + k * 7 + 6, none⟩ = some (.slice A4 n4 q4)) (by kernel_rfl) ?_
      refine wpT_take (i := 0) (v := ?_) rfl (by kernel_rfl) (by kernel_rfl) (by kernel_rfl) (by kernel_rfl) (fun _ _ _ h => h) (Or.inl ⟨by rfl, ?_⟩) HSd.out ?_
      rotate_left
      · (intro wq hSw; obtain ⟨g0, g1, g2, g3, g4, g5, g6, g7, g8, g9, g10, g11, g12, g13, g14, g15⟩ := hSw; go_simp; all_goals (first | (with_reducible rfl) | (rw [if_neg (by first | omega | (simp; omega) | (simp only [List.length_append, List.length_cons, List.length_nil]; omega))])))
      simp only [List.getElem_toArray, List.getElem_cons_succ, List.getElem_cons_zero, Act.put, List.setIfInBounds_toArray, List.set_cons_zero, List.set_cons_succ]
      refine wpT_take (i := 1) (v := ?_) rfl (by kernel_rfl) (by kernel_rfl) (by kernel_rfl) (by kernel_rfl) (fun _ _ _ h => h) (Or.inl ⟨by rfl, ?_⟩) HSd.out ?_
      rotate_left
      · (intro wq hSw; obtain ⟨g0, g1, g2, g3, g4, g5, g6, g7, g8, g9, g10, g11, g12, g13, g14, g15⟩ := hSw; go_simp; all_goals (first | (with_reducible rfl) | (rw [if_neg (by first | omega | (simp; omega) | (simp only [List.length_append, List.length_cons, List.length_nil]; omega))])))
      simp only [List.getElem_toArray, List.getElem_cons_succ, List.getElem_cons_zero, Act.put, List.setIfInBounds_toArray, List.set_cons_zero, List.set_cons_succ]
      refine wpT_take (i := 2) (v := ?_) rfl (by kernel_rfl) (by kernel_rfl) (by kernel_rfl) (by kernel_rfl) (fun _ _ _ h => h) (Or.inl ⟨by rfl, ?_⟩) HSd.out ?_
      rotate_left
      · (intro wq hSw; obtain ⟨g0, g1, g2, g3, g4, g5, g6, g7, g8, g9, g10, g11, g12, g13, g14, g15⟩ := hSw; go_simp; all_goals (first | (with_reducible rfl) | (rw [if_neg (by first | omega | (simp; omega) | (simp only [List.length_append, List.length_cons, List.length_nil]; omega))])))
      simp only [List.getElem_toArray, List.getElem_cons_succ, List.getElem_cons_zero, Act.put, List.setIfInBounds_toArray, List.set_cons_zero, List.set_cons_succ]
      refine wpT_take (i := 3) (v := ?_) rfl (by kernel_rfl) (by kernel_rfl) (by kernel_rfl) (by kernel_rfl) (fun _ _ _ h => h) (Or.inl ⟨by rfl, ?_⟩) HSd.out ?_
      rotate_left
      · (intro wq hSw; obtain ⟨g0, g1, g2, g3, g4, g5, g6, g7, g8, g9, g10, g11, g12, g13, g14, g15⟩ := hSw; go_simp; all_goals (first | (with_reducible rfl) | (rw [if_neg (by first | omega | (simp; omega) | (simp only [List.length_append, List.length_cons, List.length_nil]; omega))])))
      simp only [List.getElem_toArray, List.getElem_cons_succ, List.getElem_cons_zero, Act.put, List.setIfInBounds_toArray, List.set_cons_zero, List.set_cons_succ]
      refine wpT_take (i := 4) (v := ?_) rfl (by kernel_rfl) (by kernel_rfl) (by kernel_rfl) (by kernel_rfl) (fun _ _ _ h => h) (Or.inl ⟨by rfl, ?_⟩) HSd.out ?_
      rotate_left
      · (intro wq hSw; obtain ⟨g0, g1, g2, g3, g4, g5, g6, g7, g8, g9, g10, g11, g12, g13, g14, g15⟩ := hSw; go_simp; all_goals (first | (with_reducible rfl) | (rw [if_neg (by first | omega | (simp; omega) | (simp only [List.length_append, List.length_cons, List.length_nil]; omega))])))
      simp only [List.getElem_toArray, List.getElem_cons_succ, List.getElem_cons_zero, Act.put, List.setIfInBounds_toArray, List.set_cons_zero, List.set_cons_succ]
      refine wpT_take (i := 5) (v := ?_) rfl (by kernel_rfl) (by kernel_rfl) (by kernel_rfl) (by kernel_rfl) (fun _ _ _ h => h) (Or.inl ⟨by rfl, ?_⟩) HSd.out ?_
      rotate_left
      · (intro wq hSw; obtain ⟨g0, g1, g2, g3, g4, g5, g6, g7, g8, g9, g10, g11, g12, g13, g14, g15⟩ := hSw; go_simp; all_goals (first | (with_reducible rfl) | (rw [if_neg (by first | omega | (simp; omega) | (simp only [List.length_append, List.length_cons, List.length_nil]; omega))])))
      simp only [List.getElem_toArray, List.getElem_cons_succ, List.getElem_cons_zero, Act.put, List.setIfInBounds_toArray, List.set_cons_zero, List.set_cons_succ]
      refine wpT_take (i := 6) (v := ?_) rfl (by kernel_rfl) (by kernel_rfl) (by kernel_rfl) (by kernel_rfl) (fun _ _ _ h => h) (Or.inl ⟨by rfl, ?_⟩) HSd.out ?_
      rotate_left
      · (intro wq hSw; obtain ⟨g0, g1, g2, g3, g4, g5, g6, g7, g8, g9, g10, g11, g12, g13, g14, g15⟩ := hSw; go_simp; all_goals (first | (with_reducible rfl) | (rw [if_neg (by first | omega | (simp; omega) | (simp only [List.length_append, List.length_cons, List.length_nil]; omega))])))
      simp only [List.getElem_toArray, List.getElem_cons_succ, List.getElem_cons_zero, Act.put, List.setIfInBounds_toArray, List.set_cons_zero, List.set_cons_succ]
      refine wpT_take (i := 7) (v := ?_) rfl (by kernel_rfl) (by kernel_rfl) (by kernel_rfl) (by kernel_rfl) (fun _ _ _ h => h) (Or.inl ⟨by rfl, ?_⟩) HSd.out ?_
      rotate_left
      · (intro wq hSw; obtain ⟨g0, g1, g2, g3, g4, g5, g6, g7, g8, g9, g10, g11, g12, g13, g14, g15⟩ := hSw; go_simp; all_goals (first | (with_reducible rfl) | (rw [if_neg (by first | omega | (simp; omega) | (simp only [List.length_append, List.length_cons, List.length_nil]; omega))])))
      simp only [List.getElem_toArray, List.getElem_cons_succ, List.getElem_cons_zero, Act.put, List.setIfInBounds_toArray, List.set_cons_zero, List.set_cons_succ]
      refine wpT_take (i := 8) (v := ?_) rfl (by kernel_rfl) (by kernel_rfl) (by kernel_rfl) (by kernel_rfl) (fun _ _ _ h => h) (Or.inl ⟨by rfl, ?_⟩) HSd.out ?_
      rotate_left
      · (intro wq hSw; obtain ⟨g0, g1, g2, g3, g4, g5, g6, g7, g8, g9, g10, g11, g12, g13, g14, g15⟩ := hSw; go_simp; all_goals (first | (with_reducible rfl) | (rw [if_neg (by first | omega | (simp; omega) | (simp only [List.length_append, List.length_cons, List.length_nil]; omega))])))
      simp only [List.getElem_toArray, List.getElem_cons_succ, List.getElem_cons_zero, Act.put, List.setIfInBounds_toArray, List.set_cons_zero, List.set_cons_succ]
      refine wpT_take (i := 9) (v := ?_) rfl (by kernel_rfl) (by kernel_rfl) (by kernel_rfl) (by kernel_rfl) (fun _ _ _ h => h) (Or.inl ⟨by rfl, ?_⟩) HSd.out ?_
      rotate_left
      · (intro wq hSw; obtain ⟨g0, g1, g2, g3, g4, g5, g6, g7, g8, g9, g10, g11, g12, g13, g14, g15⟩ := hSw; go_simp; all_goals (first | (with_reducible rfl) | (rw [if_neg (by first | omega | (simp; omega) | (simp only [List.length_append, List.length_cons, List.length_nil]; omega))])))
      simp only [List.getElem_toArray, List.getElem_cons_succ, List.getElem_cons_zero, Act.put, List.setIfInBounds_toArray, List.set_cons_zero, List.set_cons_succ]
      refine wpT_one (i := 10) rfl (by kernel_rfl) fun K hK => ?_
      go_simp
      refine (HCL.out wr.drew (Below.refl _ _).drew).mono ?_; rintro e w1 ⟨rfl, hq⟩
      have hb1 : Below wr.heap.size wr w1 := chain (Below.refl wr.heap.size wr).drew hq
      clear hq
      refine hK.out _ _ (fun _ => HSB.out _ hb1) ?_
      clear hK K
      try simp only [List.getElem_toArray, List.getElem_cons_succ, List.getElem_cons_zero, Act.put, List.setIfInBounds_toArray, List.set_cons_zero, List.set_cons_succ]
      refine wpT_one (i := 11) rfl (by kernel_rfl) fun K hK => ?_
      go_simp
      refine hK.out _ _ (fun _ => HSB.out _ hb1) ?_
      clear hK K
      try simp only [List.getElem_toArray, List.getElem_cons_succ, List.getElem_cons_zero, Act.put, List.setIfInBounds_toArray, List.set_cons_zero, List.set_cons_succ]
      refine wpT_done (by kernel_rfl) ?_
      go_wp2_with fail
      go_roundw
      case rel => exact ⟨k + 1, by omega, by go_num, cell_keep x6 hb1, cell_keep y6 hb1, chain hb hb1⟩
      case measure => simp [intOf]; omega
    · go_wp2_with fail
      go_ret
      exact ⟨rfl, hb⟩
end Go.Proofs.YtgnkncfnkjeinaaDoor
namespace Go.Proofs.YtgnkncfnkjeinaaDoor
open Go.RowKit Go.Proofs

set_option maxRecDepth 100000
theorem part_val (k s : Int) (n : Str) (ls : List Str) (kids : Nat) (lv : Value) (A' : Option Addr) (cap' : Nat) (w : World) (hn : n.length ≤ 9223372036854775807) (hl : ls.length ≤ 9223372036854775807) (hs : ∀ s ∈ ls, s.length ≤ 9223372036854775807) (hk : kids ≤ 9223372036854775807) (hv : IsStrs w lv ls) :
    Calls Tryd.prog 39 #[.agg #[.int .i64 k, .int .i64 s, .string ⟨n.toArray⟩, lv, .slice A' kids cap']] w fun e w' => e = .returned (.bool (shapeOk k s n ls kids)) ∧ Below w.heap.size w w' := by
  by_cases h : k = 1
  · subst h; exact part_1 s n ls kids lv A' cap' w hn hl hs hk hv
  by_cases h2 : k = 2
  · subst h2; exact part_2 s n ls kids lv A' cap' w hn hl hs hk hv
  by_cases h3 : k = 3
  · subst h3; exact part_3 s n ls kids lv A' cap' w hn hl hs hk hv
  by_cases h4 : k = 4
  · subst h4; exact part_4 s n ls kids lv A' cap' w hn hl hs hk hv
  by_cases h5 : k = 5
  · subst h5; exact part_5 s n ls kids lv A' cap' w hn hl hs hk hv
  by_cases h6 : k = 6
  · subst h6; exact part_6 s n ls kids lv A' cap' w hn hl hs hk hv
  by_cases h7 : k = 7
  · subst h7; exact part_7 s n ls kids lv A' cap' w hn hl hs hk hv
  by_cases h8 : k = 8
  · subst h8; exact part_8 s n ls kids lv A' cap' w hn hl hs hk hv
  by_cases h9 : k = 9
  · subst h9; exact part_9 s n ls kids lv A' cap' w hn hl hs hk hv
  exact part_o k h h2 h3 h4 h5 h6 h7 h8 h9 s n ls kids lv A' cap' w hn hl hs hk hv

set_option maxHeartbeats 8000000 in
theorem talk_val (k : Int) (f o : Str) (s : Int) (n : Str) (ls : List Str) (kids : Nat) (A : Option Addr) (cap : Nat) (A' : Option Addr) (cap' : Nat) (w : World) (hn : n.length ≤ 9223372036854775807) (hl : ls.length ≤ 9223372036854775807) (hs : ∀ s ∈ ls, s.length ≤ 9223372036854775807) (hk : kids ≤ 1000000000000) (hv : IsStrs w (.slice A ls.length cap) ls) :
    Calls Tryd.prog 63 #[.agg #[.int .i64 k, .string ⟨f.toArray⟩, .string ⟨o.toArray⟩, .int .i64 s, .string ⟨n.toArray⟩, .slice A ls.length cap, .slice A' kids cap']] w fun e w' => e = .returned (.bool (gShape k f o s n ls kids)) ∧ Below w.heap.size w w' := by
  have HV := Lib.hid hv; clear hv
  obtain ⟨i0, z0, hi, hz0, hz1, hz2, -⟩ := rt_types.ex
  obtain ⟨M, hM⟩ : ∃ M, M = madeCells z0.cells ((kids : Int).toNat * i0.size) := ⟨_, rfl⟩
  have hmk : ∀ W : World, (Instr.makeSlice 23 (.int .i64 (kids : Int)) (.int .i64 (kids : Int))).run Tryd.prog W = .ok (.slice (some ⟨W.heap.size, 0, none⟩) kids kids) (W.alloc (.cells M 25)) := fun W => by
    have h := run_make (P := Tryd.prog) W 23 25 i0 _ Tryd.underlying23 hi hz0 .i64 .i64 (kids : Int) (kids : Int) (by omega) (by omega) (by rw [hz2]; omega) (by omega)
    rw [← hM] at h
    simpa using h
  clear hM hi hz0 hz1 hz2
  obtain ⟨ANS, hA⟩ : ∃ y, gShape k f o s n ls kids = y := ⟨_, rfl⟩
  have HA := Lib.hid hA; rw [hA]; clear hA
  obtain ⟨R1, hR1⟩ : ∃ x, isRole f = x := ⟨_, rfl⟩
  have HR1 := Lib.hid hR1
  obtain ⟨R2, hR2⟩ : ∃ x, isRole o = x := ⟨_, rfl⟩
  have HR2 := Lib.hid hR2
  have hF1 : R1 = true → (f == []) = false := fun h => by
    have := (isRole_low (hR1.trans h)).1
    simpa using this
  clear hR1 hR2
  obtain ⟨bF, hF⟩ : ∃ x, (f == []) = x := ⟨_, rfl⟩
  obtain ⟨bO, hO⟩ : ∃ x, (o == []) = x := ⟨_, rfl⟩
  obtain ⟨bQ, hQ⟩ : ∃ x, (f == o) = x := ⟨_, rfl⟩
  have six : (R1 = false ∧ bF = true ∧ bO = true) ∨ (R1 = false ∧ bF = true ∧ bO = false) ∨ (R1 = false ∧ bF = false) ∨ (R1 = true ∧ bF = false ∧ R2 = false) ∨ (R1 = true ∧ bF = false ∧ R2 = true ∧ bQ = true) ∨ (R1 = true ∧ bF = false ∧ R2 = true ∧ bQ = false) := by
    rw [hF] at hF1
    cases R1 <;> cases R2 <;> cases bF <;> cases bO <;> cases bQ <;> simp_all
  clear hF1
  have hb0 : Below w.heap.size w (w.alloc (.cells #[.int .i64 k, .string ⟨f.toArray⟩, .string ⟨o.toArray⟩, .int .i64 s, .string ⟨n.toArray⟩, .slice A ls.length cap, .slice A' kids cap'] 52)) := by go_grown
  have XB := new_gval w (.mk k f o s n ls []) (.slice A ls.length cap) (.slice A' kids cap') 52
  simp only [Gl.kind, Gl.frm, Gl.rcv, Gl.sort, Gl.name] at XB
  rcases six with ⟨rfl, rfl, rfl⟩ | ⟨rfl, rfl, rfl⟩ | ⟨rfl, rfl⟩ | ⟨rfl, rfl, rfl⟩ | ⟨rfl, rfl, rfl, rfl⟩ | ⟨rfl, rfl, rfl, rfl⟩
  all_goals
    go_enter Tryd.func63, Tryd.ntmps63
    go_wp2_with (go_at_call 28; go_must ((first | (refine (refIsRole_any f _).mono ?_; rw [HR1.out]; rintro e wn ⟨rfl, hbn⟩) | (refine (refIsRole_any o _).mono ?_; rw [HR2.out]; rintro e wn ⟨rfl, hbn⟩)); replace XB := XB.keep hbn XB.lt; replace hb0 := chain hb0 hbn; clear hbn; have x1 := XB.c1; have x2 := XB.c2; simp only [Gl.kind, Gl.frm, Gl.rcv, Gl.sort, Gl.name] at x1 x2))
    have hS : ∀ w' : World, Below wn.heap.size wn w' → (fun w' : World => w'.cell? ⟨w.heap.size, 0, none⟩ = some (.int .i64 k) ∧ w'.cell? ⟨w.heap.size, 3, none⟩ = some (.int .i64 s) ∧ w'.cell? ⟨w.heap.size, 4, none⟩ = some (.string ⟨n.toArray⟩) ∧ w'.cell? ⟨w.heap.size, 5, none⟩ = some (.slice A ls.length cap) ∧ w'.cell? ⟨w.heap.size, 6, none⟩ = some (.slice A' kids cap')) w' := fun w' h => ⟨cell_keep XB.c0 h, cell_keep XB.c3 h, cell_keep XB.c4 h, cell_keep XB.c5 h, cell_keep XB.c6 h⟩
    have HSd := Lib.hid (hS wn.drew (Below.refl _ _).drew)
    have HSB := Lib.hid hS; clear hS
    have hbox : w.heap.size < wn.heap.size := XB.lt
    clear XB x1 x2
    refine wp_region_T 14 (fun w' : World => w'.cell? ⟨w.heap.size, 0, none⟩ = some (.int .i64 k) ∧ w'.cell? ⟨w.heap.size, 3, none⟩ = some (.int .i64 s) ∧ w'.cell? ⟨w.heap.size, 4, none⟩ = some (.string ⟨n.toArray⟩) ∧ w'.cell? ⟨w.heap.size, 5, none⟩ = some (.slice A ls.length cap) ∧ w'.cell? ⟨w.heap.size, 6, none⟩ = some (.slice A' kids cap')) (by kernel_rfl) ?_
    refine wpT_take (i := 0) (v := ?_) rfl (by kernel_rfl) (by kernel_rfl) (by kernel_rfl) (by kernel_rfl) (fun _ _ _ h => h) (Or.inl ⟨by rfl, ?_⟩) HSd.out ?_
    rotate_left
    · (intro wq hSw; obtain ⟨g0, g3, g4, g5, g6⟩ := hSw; go_simp; all_goals (with_reducible rfl))
    try simp only [List.getElem_toArray, List.getElem_cons_succ, List.getElem_cons_zero, Act.put, List.setIfInBounds_toArray, List.set_cons_zero, List.set_cons_succ]
    refine wpT_take (i := 1) (v := ?_) rfl (by kernel_rfl) (by kernel_rfl) (by kernel_rfl) (by kernel_rfl) (fun _ _ _ h => h) (Or.inl ⟨by rfl, ?_⟩) HSd.out ?_
    rotate_left
    · (intro wq hSw; obtain ⟨g0, g3, g4, g5, g6⟩ := hSw; go_simp; all_goals (with_reducible rfl))
    try simp only [List.getElem_toArray, List.getElem_cons_succ, List.getElem_cons_zero, Act.put, List.setIfInBounds_toArray, List.set_cons_zero, List.set_cons_succ]
    refine wpT_take (i := 2) (v := ?_) rfl (by kernel_rfl) (by kernel_rfl) (by kernel_rfl) (by kernel_rfl) (fun _ _ _ h => h) (Or.inl ⟨by rfl, ?_⟩) HSd.out ?_
    rotate_left
    · (intro wq hSw; obtain ⟨g0, g3, g4, g5, g6⟩ := hSw; go_simp; all_goals (with_reducible rfl))
    try simp only [List.getElem_toArray, List.getElem_cons_succ, List.getElem_cons_zero, Act.put, List.setIfInBounds_toArray, List.set_cons_zero, List.set_cons_succ]
    refine wpT_take (i := 3) (v := ?_) rfl (by kernel_rfl) (by kernel_rfl) (by kernel_rfl) (by kernel_rfl) (fun _ _ _ h => h) (Or.inl ⟨by rfl, ?_⟩) HSd.out ?_
    rotate_left
    · (intro wq hSw; obtain ⟨g0, g3, g4, g5, g6⟩ := hSw; go_simp; all_goals (with_reducible rfl))
    try simp only [List.getElem_toArray, List.getElem_cons_succ, List.getElem_cons_zero, Act.put, List.setIfInBounds_toArray, List.set_cons_zero, List.set_cons_succ]
    refine wpT_take (i := 4) (v := ?_) rfl (by kernel_rfl) (by kernel_rfl) (by kernel_rfl) (by kernel_rfl) (fun _ _ _ h => h) (Or.inl ⟨by rfl, ?_⟩) HSd.out ?_
    rotate_left
    · (intro wq hSw; obtain ⟨g0, g3, g4, g5, g6⟩ := hSw; go_simp; all_goals (with_reducible rfl))
    try simp only [List.getElem_toArray, List.getElem_cons_succ, List.getElem_cons_zero, Act.put, List.setIfInBounds_toArray, List.set_cons_zero, List.set_cons_succ]
    refine wpT_take (i := 5) (v := ?_) rfl (by kernel_rfl) (by kernel_rfl) (by kernel_rfl) (by kernel_rfl) (fun _ _ _ h => h) (Or.inl ⟨by rfl, ?_⟩) HSd.out ?_
    rotate_left
    · (intro wq hSw; obtain ⟨g0, g3, g4, g5, g6⟩ := hSw; go_simp; all_goals (with_reducible rfl))
    try simp only [List.getElem_toArray, List.getElem_cons_succ, List.getElem_cons_zero, Act.put, List.setIfInBounds_toArray, List.set_cons_zero, List.set_cons_succ]
    refine wpT_take (i := 6) (v := ?_) rfl (by kernel_rfl) (by kernel_rfl) (by kernel_rfl) (by kernel_rfl) (fun _ _ _ h => h) (Or.inl ⟨by rfl, ?_⟩) HSd.out ?_
    rotate_left
    · (intro wq hSw; obtain ⟨g0, g3, g4, g5, g6⟩ := hSw; go_simp; all_goals (with_reducible rfl))
    try simp only [List.getElem_toArray, List.getElem_cons_succ, List.getElem_cons_zero, Act.put, List.setIfInBounds_toArray, List.set_cons_zero, List.set_cons_succ]
    refine wpT_take (i := 7) (v := ?_) rfl (by kernel_rfl) (by kernel_rfl) (by kernel_rfl) (by kernel_rfl) (fun _ _ _ h => h) (Or.inl ⟨by rfl, ?_⟩) HSd.out ?_
    rotate_left
    · (intro wq hSw; obtain ⟨g0, g3, g4, g5, g6⟩ := hSw; go_simp; all_goals (with_reducible rfl))
    try simp only [List.getElem_toArray, List.getElem_cons_succ, List.getElem_cons_zero, Act.put, List.setIfInBounds_toArray, List.set_cons_zero, List.set_cons_succ]
    refine wpT_take (i := 8) (v := ?_) rfl (by kernel_rfl) (by kernel_rfl) (by kernel_rfl) (by kernel_rfl) (fun _ _ _ h => h) (Or.inl ⟨by rfl, ?_⟩) HSd.out ?_
    rotate_left
    · (intro wq hSw; obtain ⟨g0, g3, g4, g5, g6⟩ := hSw; go_simp; all_goals (with_reducible rfl))
    try simp only [List.getElem_toArray, List.getElem_cons_succ, List.getElem_cons_zero, Act.put, List.setIfInBounds_toArray, List.set_cons_zero, List.set_cons_succ]
    refine wpT_take (i := 9) (v := ?_) rfl (by kernel_rfl) (by kernel_rfl) (by kernel_rfl) (by kernel_rfl) (fun _ _ _ h => h) (Or.inl ⟨by rfl, ?_⟩) HSd.out ?_
    rotate_left
    · (intro wq hSw; obtain ⟨g0, g3, g4, g5, g6⟩ := hSw; go_simp; all_goals (with_reducible rfl))
    try simp only [List.getElem_toArray, List.getElem_cons_succ, List.getElem_cons_zero, Act.put, List.setIfInBounds_toArray, List.set_cons_zero, List.set_cons_succ]
    refine wpT_take (i := 10) (v := ?_) rfl (by kernel_rfl) (by kernel_rfl) (by kernel_rfl) (by kernel_rfl) (fun _ _ _ h => h) (Or.inl ⟨by rfl, ?_⟩) HSd.out ?_
    rotate_left
    · (intro wq hSw; obtain ⟨g0, g3, g4, g5, g6⟩ := hSw; go_simp; all_goals (with_reducible rfl))
    try simp only [List.getElem_toArray, List.getElem_cons_succ, List.getElem_cons_zero, Act.put, List.setIfInBounds_toArray, List.set_cons_zero, List.set_cons_succ]
    refine wpT_two (i := 11) (j := 13) rfl rfl (by kernel_rfl) (fun K hK => ?_) (fun K hK => ?_)
    · go_simp
      have hbm : Below wn.heap.size wn (wn.alloc (.cells M 25)).drew := ((Below.refl wn.heap.size wn).alloc (Nat.le_refl _) _).drew
      refine hK.out _ _ (fun _ => HSB.out _ hbm) ?_
      clear hK K
      try simp only [List.getElem_toArray, List.getElem_cons_succ, List.getElem_cons_zero, Act.put, List.setIfInBounds_toArray, List.set_cons_zero, List.set_cons_succ]
      refine wpT_take (i := 12) (v := ?_) rfl (by kernel_rfl) (by kernel_rfl) (by kernel_rfl) (by kernel_rfl) (fun _ _ _ h => h) (Or.inl ⟨by rfl, ?_⟩) (HSB.out _ hbm) ?_
      rotate_left
      · (intro wq hSw; go_simp; all_goals (with_reducible rfl))
      try simp only [List.getElem_toArray, List.getElem_cons_succ, List.getElem_cons_zero, Act.put, List.setIfInBounds_toArray, List.set_cons_zero, List.set_cons_succ]
      refine wpT_one (i := 13) rfl (by kernel_rfl) fun K hK => ?_
      go_simp
      have hbA : Below wn.heap.size wn ((wn.alloc (.cells M 25)).alloc (.cells #[.int .i64 0, .int .i64 0, .string ⟨#[]⟩, .slice none 0 0, .slice none 0 0] 25)).drew := (((Below.refl wn.heap.size wn).alloc (Nat.le_refl _) _).alloc (by simp) _).drew
      have TB := new_box (wn.alloc (.cells M 25)) 25
      rw [World.size_alloc] at TB
      replace TB := TB.keep (Below.refl _ _).drew TB.lt
      refine hK.out _ _ (fun _ => HSB.out _ hbA) ?_
      clear hK K
      try simp only [List.getElem_toArray, List.getElem_cons_succ, List.getElem_cons_zero, Act.put, List.setIfInBounds_toArray, List.set_cons_zero, List.set_cons_succ]
      generalize ((wn.alloc (.cells M 25)).alloc (.cells #[.int .i64 0, .int .i64 0, .string ⟨#[]⟩, .slice none 0 0, .slice none 0 0] 25)).drew = wt at hbA TB ⊢
      clear hbm
      obtain ⟨t0, t1, t2, t3, t4, t5, t6⟩ := id TB
      refine wpT_one (i := 14) rfl (by kernel_rfl) fun K hK => ?_
      go_simp
      refine hK.out _ _ (fun h => absurd h (by decide)) ?_
      clear hK K
      try simp only [List.getElem_toArray, List.getElem_cons_succ, List.getElem_cons_zero, Act.put, List.setIfInBounds_toArray, List.set_cons_zero, List.set_cons_succ]
      refine wpT_done (by kernel_rfl) ?_
      have TB2 := TB.fill (.mk k s n ls []) (.slice A ls.length cap) (.slice (some ⟨wn.heap.size, 0, none⟩) kids kids)
      have hbt := below_fill hbA (b := (wn.heap.size + 1)) (by omega) (.int .i64 k) (.int .i64 s) (.string ⟨n.toArray⟩) (.slice A ls.length cap) (.slice (some ⟨wn.heap.size, 0, none⟩) kids kids)
      simp only [Ty.kind, Ty.sort, Ty.name] at TB2
      generalize (((((wt.setCell ⟨(wn.heap.size + 1), 0, none⟩ (.int .i64 k)).setCell ⟨(wn.heap.size + 1), 1, none⟩ (.int .i64 s)).setCell ⟨(wn.heap.size + 1), 2, none⟩ (.string ⟨n.toArray⟩)).setCell ⟨(wn.heap.size + 1), 3, none⟩ (.slice A ls.length cap)).setCell ⟨(wn.heap.size + 1), 4, none⟩ (.slice (some ⟨wn.heap.size, 0, none⟩) kids kids)) = wf at TB2 hbt ⊢
      obtain ⟨y0, y3, y4, y5, y6⟩ := HSB.out _ hbt
      clear TB hbA t0 t1 t2 t3 t4 t5 t6 HSB HSd
      clear wt
      obtain ⟨t0, t1, t2, t3, t4, t5, t6⟩ := id TB2
      simp only [Ty.kind, Ty.sort, Ty.name] at t0 t1 t2
      go_wp2_with (go_at_call 39; go_must (refine (part_val k s n ls kids _ _ _ _ hn hl hs (by omega) ((HV.out.keep hb0).keep hbt)).mono ?_; rintro e wp ⟨rfl, hbp⟩))
      all_goals
        go_ret
        refine ⟨ret_bool' ?_, by first | exact chain (chain hb0 hbt) hbp | exact chain hb0 hbt⟩
        rw [← HA.out]
        have e1 := HR1.out
        have e2 := HR2.out
        simp only [beq_iff_eq, beq_eq_false_iff_ne, ne_eq] at *
        have e3 : isRole [] = false := rfl
        first
          | (simp [gShape, talkOk, pairOk, noneOk, *]; done)
          | (simp [gShape, talkOk, pairOk, noneOk, *]; intro h; first | exact absurd h (by assumption) | simp_all)
    · go_simp
      have hbm : Below wn.heap.size wn (wn.alloc (.cells #[.int .i64 0, .int .i64 0, .string ⟨#[]⟩, .slice none 0 0, .slice none 0 0] 25)).drew := ((Below.refl wn.heap.size wn).alloc (Nat.le_refl _) _).drew
      refine hK.out _ _ (fun _ => HSB.out _ hbm) ?_
      clear hK K
      try simp only [List.getElem_toArray, List.getElem_cons_succ, List.getElem_cons_zero, Act.put, List.setIfInBounds_toArray, List.set_cons_zero, List.set_cons_succ]
      refine wpT_one (i := 11) rfl (by kernel_rfl) fun K hK => ?_
      go_simp
      have hbA : Below wn.heap.size wn ((wn.alloc (.cells #[.int .i64 0, .int .i64 0, .string ⟨#[]⟩, .slice none 0 0, .slice none 0 0] 25)).alloc (.cells M 25)).drew := (((Below.refl wn.heap.size wn).alloc (Nat.le_refl _) _).alloc (by simp) _).drew
      have TB := new_box wn 25
      replace TB := TB.keep ((Below.refl _ _).alloc (Nat.le_refl _) (.cells M 25)) TB.lt
      replace TB := TB.keep (Below.refl _ _).drew TB.lt
      refine hK.out _ _ (fun _ => HSB.out _ hbA) ?_
      clear hK K
      try simp only [List.getElem_toArray, List.getElem_cons_succ, List.getElem_cons_zero, Act.put, List.setIfInBounds_toArray, List.set_cons_zero, List.set_cons_succ]
      generalize ((wn.alloc (.cells #[.int .i64 0, .int .i64 0, .string ⟨#[]⟩, .slice none 0 0, .slice none 0 0] 25)).alloc (.cells M 25)).drew = wt at hbA TB ⊢
      refine wpT_take (i := 12) (v := ?_) rfl (by kernel_rfl) (by kernel_rfl) (by kernel_rfl) (by kernel_rfl) (fun _ _ _ h => h) (Or.inl ⟨by rfl, ?_⟩) (HSB.out _ hbA) ?_
      rotate_left
      · (intro wq hSw; go_simp; all_goals (with_reducible rfl))
      try simp only [List.getElem_toArray, List.getElem_cons_succ, List.getElem_cons_zero, Act.put, List.setIfInBounds_toArray, List.set_cons_zero, List.set_cons_succ]
      clear hbm
      obtain ⟨t0, t1, t2, t3, t4, t5, t6⟩ := id TB
      refine wpT_one (i := 14) rfl (by kernel_rfl) fun K hK => ?_
      go_simp
      refine hK.out _ _ (fun h => absurd h (by decide)) ?_
      clear hK K
      try simp only [List.getElem_toArray, List.getElem_cons_succ, List.getElem_cons_zero, Act.put, List.setIfInBounds_toArray, List.set_cons_zero, List.set_cons_succ]
      refine wpT_done (by kernel_rfl) ?_
      have TB2 := TB.fill (.mk k s n ls []) (.slice A ls.length cap) (.slice (some ⟨(wn.heap.size + 1), 0, none⟩) kids kids)
      have hbt := below_fill hbA (b := wn.heap.size) (by omega) (.int .i64 k) (.int .i64 s) (.string ⟨n.toArray⟩) (.slice A ls.length cap) (.slice (some ⟨(wn.heap.size + 1), 0, none⟩) kids kids)
      simp only [Ty.kind, Ty.sort, Ty.name] at TB2
      generalize (((((wt.setCell ⟨wn.heap.size, 0, none⟩ (.int .i64 k)).setCell ⟨wn.heap.size, 1, none⟩ (.int .i64 s)).setCell ⟨wn.heap.size, 2, none⟩ (.string ⟨n.toArray⟩)).setCell ⟨wn.heap.size, 3, none⟩ (.slice A ls.length cap)).setCell ⟨wn.heap.size, 4, none⟩ (.slice (some ⟨(wn.heap.size + 1), 0, none⟩) kids kids)) = wf at TB2 hbt ⊢
      obtain ⟨y0, y3, y4, y5, y6⟩ := HSB.out _ hbt
      clear TB hbA t0 t1 t2 t3 t4 t5 t6 HSB HSd
      clear wt
      obtain ⟨t0, t1, t2, t3, t4, t5, t6⟩ := id TB2
      simp only [Ty.kind, Ty.sort, Ty.name] at t0 t1 t2
      go_wp2_with (go_at_call 39; go_must (refine (part_val k s n ls kids _ _ _ _ hn hl hs (by omega) ((HV.out.keep hb0).keep hbt)).mono ?_; rintro e wp ⟨rfl, hbp⟩))
      all_goals
        go_ret
        refine ⟨ret_bool' ?_, by first | exact chain (chain hb0 hbt) hbp | exact chain hb0 hbt⟩
        rw [← HA.out]
        have e1 := HR1.out
        have e2 := HR2.out
        simp only [beq_iff_eq, beq_eq_false_iff_ne, ne_eq] at *
        have e3 : isRole [] = false := rfl
        first
          | (simp [gShape, talkOk, pairOk, noneOk, *]; done)
          | (simp [gShape, talkOk, pairOk, noneOk, *]; intro h; first | exact absurd h (by assumption) | simp_all)
theorem talk_any (t : Gl) (v : Value) (w : World) {D : Blocks} (hv : GlV D w v t) (hf : GFit t) :
    Calls Tryd.prog 63 #[v] w fun e w' => e = .returned (.bool (gShape t.kind t.frm t.rcv t.sort t.name t.labels t.kids.length)) ∧ Below w.heap.size w w' := by
  obtain ⟨lv, kv, rfl, h1, A, cap, rfl, -, -⟩ := hv
  obtain ⟨-, -, f3, f4, f5, f6, -⟩ := hf.parts
  replace h1 := h1.is
  have h1' := h1
  obtain ⟨A', cap', rfl, -, -⟩ := h1'
  exact talk_val t.kind t.frm t.rcv t.sort t.name t.labels t.kids.length A' cap' A cap w f3 f4 f5 f6 h1
end Go.Proofs.YtgnkncfnkjeinaaDoor
