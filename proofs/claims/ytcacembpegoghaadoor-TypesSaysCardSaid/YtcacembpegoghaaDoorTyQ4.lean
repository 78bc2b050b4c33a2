/-
  types.put and types.twin, whole.
-/
import Derived.Test.YtcacembpegoghaaDoorTyQ2
import Derived.Test.YtcacembpegoghaaDoorTyQ3
namespace Go.Proofs.YtcacembpegoghaaDoor
open Go.RowKit Go.Proofs
set_option maxRecDepth 100000
theorem put_none (B0 : Blocks) (s : Ty) (vs : Value) : ∀ (m : Nat) (t : Ty) (v : Value) (w : World), parts t ≤ m → (∀ b, B0 b → b < w.heap.size) → TyD B0 w v t → Good t → TyD B0 w vs s → PutSays 118 B0 t s v vs [] w := by
  intro m
  induction m with
  | zero => intro t v w h; cases t; simp only [parts] at h; omega
  | succ m ih =>
  intro t v w hm hB hv hg hvs
  by_cases h9 : t.kind = 9
  · have hn := hg.named (Or.inr h9)
    exact put_v m B0 s vs [] ih t v w hm hB hv hg hvs (sub_else fun _ => hn) (by simp [h9]) (by simpa using hn) (by simp [h9])
  · by_cases h8 : t.kind = 8
    · have hn := hg.named (Or.inl h8)
      exact put_r m B0 s vs [] ih t v w hm hB hv hg hvs (sub_else fun _ => hn) (by simp [h9]) (by simp [h8]) (by simpa using hn)
    · exact put_c m B0 s vs [] ih t v w hm hB hv hg hvs (sub_else fun h => absurd h (by rintro (h | h) <;> contradiction)) (by simp [h9]) (by simp [h8])

set_option maxHeartbeats 1000000 in
theorem twin_any (B0 : Blocks) (t : Ty) (v : Value) (w : World) (hB : ∀ b, B0 b → b < w.heap.size) (hv : TyD B0 w v t) (hg : Good t) :
    Calls Tryd.prog 117 #[v] w fun e w' => ∃ r, e = .returned r ∧ TyD (Out B0 w.heap.size) w' r t ∧ Below w.heap.size w w' := by
  have HZ := Lib.hid hv
  obtain ⟨lv, kv, rfl, h1, h2⟩ := hv
  obtain ⟨A0, p0, rfl, -, -⟩ := h1
  obtain ⟨A, cap, rfl, -, -⟩ := h2
  go_enter Tryd.func117, Tryd.ntmps117
  go_wp2_with fail
  obtain ⟨W, hW⟩ : ∃ W, (w.alloc (.cells #[.int .i64 t.kind, .int .i64 t.sort, .string ⟨t.name.toArray⟩, .slice A0 t.labels.length p0, .slice A t.kids.length cap] 51)).alloc (.cells #[.int .i64 0, .int .i64 0, .string ⟨#[]⟩, .slice none 0 0, .slice none 0 0] 51) = W := ⟨_, rfl⟩
  have hRB : VBox W (w.heap.size + 1) (.mk 0 0 [] [] []) (.slice none 0 0) (.slice none 0 0) := by subst hW; exact ⟨by simp [go_sem]; rfl, by simp [go_sem]; rfl, by simp [go_sem]; rfl, by simp [go_sem], by simp [go_sem], fun j => by simp [go_sem], by simp⟩
  have hbW : Below w.heap.size w W := by subst hW; go_grown
  have hWs : W.heap.size = w.heap.size + 1 + 1 := by subst hW; simp
  try rw [hW]
  clear hW
  have hput := put_none B0 (.mk 0 0 [] [] []) (.agg #[.int .i64 0, .int .i64 0, .string ⟨#[]⟩, .slice none 0 0, .slice none 0 0]) (parts t) t _ W (Nat.le_refl _) (fun b h => by have := hB b h; omega) (HZ.out.keep (Same.below hbW) (fun b h _ => h)) hg ⟨_, _, rfl, ⟨none, 0, rfl, Nat.le_refl _, fun h => by simp [Ty.labels] at h⟩, ⟨none, 0, rfl, Nat.le_refl _, fun h => by simp [Ty.kids] at h⟩⟩
  unfold PutSays at hput
  rw [sub_none _ t hg] at hput
  refine hput.mono ?_
  clear hput
  rintro e w1 ⟨r, rfl, hr, hb1⟩
  obtain ⟨lr, kr, rfl, hr1, hr2⟩ := hr
  have HR1 := Lib.hid hr1; have HR2 := Lib.hid hr2
  obtain ⟨Ar, pr, rfl, -, -⟩ := hr1
  obtain ⟨Br, qr, rfl, -, -⟩ := hr2
  have hR1 := hRB.keep hb1 hRB.lt
  have hF0 := hR1.fill t (.slice Ar t.labels.length pr) (.slice Br t.kids.length qr)
  obtain ⟨r0, r1, r2, r3, r4, r5, r6⟩ := hR1
  simp only [Ty.kind, Ty.sort, Ty.name] at r0 r1 r2
  clear hRB
  go_wp2_with fail
  have hR := hF0
  have hsame := Same.fill (D := Out B0 W.heap.size) (w := w1) (b := w.heap.size + 1) (by rintro (h | h); (have := hB _ h; omega); omega) (.int .i64 t.kind) (.int .i64 t.sort) (.string ⟨t.name.toArray⟩) (.slice Ar t.labels.length pr) (.slice Br t.kids.length qr)
  have hbel := below_fill (chain hbW hb1) (b := w.heap.size + 1) (by omega) (.int .i64 t.kind) (.int .i64 t.sort) (.string ⟨t.name.toArray⟩) (.slice Ar t.labels.length pr) (.slice Br t.kids.length qr)
  have hf2 := HR2.out.keep (D' := Out B0 w.heap.size) hsame (fun b h _ => by rcases h with h | h; exact Or.inl h; exact Or.inr (by omega))
  have hl2 := HR1.out.keep (D' := Out B0 w.heap.size) hsame (fun b h _ => by rcases h with h | h; exact Or.inl h; exact Or.inr (by omega))
  generalize (((((w1.setCell ⟨w.heap.size + 1, 0, none⟩ (.int .i64 t.kind)).setCell ⟨w.heap.size + 1, 1, none⟩ (.int .i64 t.sort)).setCell ⟨w.heap.size + 1, 2, none⟩ (.string ⟨t.name.toArray⟩)).setCell ⟨w.heap.size + 1, 3, none⟩ (.slice Ar t.labels.length pr)).setCell ⟨w.heap.size + 1, 4, none⟩ (.slice Br t.kids.length qr)) = w5 at hR hbel hf2 hl2 ⊢
  obtain ⟨d0, d1, d2, d3, d4, d5, d6⟩ := hR
  refine bodyPost_ret (v := .agg #[.int .i64 t.kind, .int .i64 t.sort, .string ⟨t.name.toArray⟩, .slice Ar t.labels.length pr, .slice Br t.kids.length qr]) (by simp [results, Tryd.results117, go_sem, d0, d1, d2, d3, d4]) rfl ?_
  exact ⟨_, rfl, ⟨_, _, rfl, hl2, hf2⟩, hbel⟩
set_option maxHeartbeats 2000000 in
theorem put_e9 (B0 : Blocks) (t s : Ty) (v vs : Value) (x : Str) (w : World) (hB : ∀ b, B0 b → b < w.heap.size) (hv : TyD B0 w v t) (hvs : TyD B0 w vs s) (hg : Good s) (hans : sub x s t = s) (h9 : (t.kind == 9) = true) (hn : (t.name == x) = true) :
    PutSays 118 B0 t s v vs x w := by
  unfold PutSays
  rw [hans]
  clear hans
  have HZ := Lib.hid hvs
  obtain ⟨lv, kv, rfl, h1, h2⟩ := hv
  obtain ⟨A0, p0, rfl, -, -⟩ := h1
  obtain ⟨A, cap, rfl, -, -⟩ := h2
  obtain ⟨lv', kv', rfl, h3, h4⟩ := hvs
  obtain ⟨A0', p0', rfl, -, -⟩ := h3
  obtain ⟨A', cap', rfl, -, -⟩ := h4
  go_enter Tryd.func118, Tryd.ntmps118
  go_wp2_with fail
  obtain ⟨W, hW⟩ : ∃ W, ((w.alloc (.cells #[.int .i64 t.kind, .int .i64 t.sort, .string ⟨t.name.toArray⟩, .slice A0 t.labels.length p0, .slice A t.kids.length cap] 51)).alloc (.cells #[.int .i64 s.kind, .int .i64 s.sort, .string ⟨s.name.toArray⟩, .slice A0' s.labels.length p0', .slice A' s.kids.length cap'] 51)).alloc (.cells #[.int .i64 0, .int .i64 0, .string ⟨#[]⟩, .slice none 0 0, .slice none 0 0] 51) = W := ⟨_, rfl⟩
  have hRB : VBox W (w.heap.size + 1 + 1) (.mk 0 0 [] [] []) (.slice none 0 0) (.slice none 0 0) := by subst hW; exact ⟨by simp [go_sem]; rfl, by simp [go_sem]; rfl, by simp [go_sem]; rfl, by simp [go_sem], by simp [go_sem], fun j => by simp [go_sem], by simp⟩
  have hbW : Below w.heap.size w W := by subst hW; go_grown
  have hWs : W.heap.size = w.heap.size + 1 + 1 + 1 := by subst hW; simp
  try rw [hW]
  clear hW
  refine (twin_any B0 s _ _ (fun b h => by have := hB b h; omega) (HZ.out.keep (Same.below hbW) (fun b h _ => h)) hg).mono ?_
  rintro e w1 ⟨r, rfl, hr, hb1⟩
  obtain ⟨lr, kr, rfl, hr1, hr2⟩ := hr
  have HR1 := Lib.hid hr1; have HR2 := Lib.hid hr2
  obtain ⟨Ar, pr, rfl, -, -⟩ := hr1
  obtain ⟨Br, qr, rfl, -, -⟩ := hr2
  have hR1 := hRB.keep hb1 hRB.lt
  have hF0 := hR1.fill s (.slice Ar s.labels.length pr) (.slice Br s.kids.length qr)
  obtain ⟨r0, r1, r2, r3, r4, r5, r6⟩ := hR1
  simp only [Ty.kind, Ty.sort, Ty.name] at r0 r1 r2
  clear hRB
  go_wp2_with fail
  have hR := hF0
  have hsame := Same.fill (D := Out B0 W.heap.size) (w := w1) (b := w.heap.size + 1 + 1) (by rintro (h | h); (have := hB _ h; omega); omega) (.int .i64 s.kind) (.int .i64 s.sort) (.string ⟨s.name.toArray⟩) (.slice Ar s.labels.length pr) (.slice Br s.kids.length qr)
  have hbel := below_fill (chain hbW hb1) (b := w.heap.size + 1 + 1) (by omega) (.int .i64 s.kind) (.int .i64 s.sort) (.string ⟨s.name.toArray⟩) (.slice Ar s.labels.length pr) (.slice Br s.kids.length qr)
  have hf2 := HR2.out.keep (D' := Out B0 w.heap.size) hsame (fun b h _ => by rcases h with h | h; exact Or.inl h; exact Or.inr (by omega))
  have hl2 := HR1.out.keep (D' := Out B0 w.heap.size) hsame (fun b h _ => by rcases h with h | h; exact Or.inl h; exact Or.inr (by omega))
  generalize (((((w1.setCell ⟨w.heap.size + 1 + 1, 0, none⟩ (.int .i64 s.kind)).setCell ⟨w.heap.size + 1 + 1, 1, none⟩ (.int .i64 s.sort)).setCell ⟨w.heap.size + 1 + 1, 2, none⟩ (.string ⟨s.name.toArray⟩)).setCell ⟨w.heap.size + 1 + 1, 3, none⟩ (.slice Ar s.labels.length pr)).setCell ⟨w.heap.size + 1 + 1, 4, none⟩ (.slice Br s.kids.length qr)) = w5 at hR hbel hf2 hl2 ⊢
  obtain ⟨d0, d1, d2, d3, d4, d5, d6⟩ := hR
  refine bodyPost_ret (v := .agg #[.int .i64 s.kind, .int .i64 s.sort, .string ⟨s.name.toArray⟩, .slice Ar s.labels.length pr, .slice Br s.kids.length qr]) (by simp [results, Tryd.results118, go_sem, d0, d1, d2, d3, d4]) rfl ?_
  exact ⟨_, rfl, ⟨_, _, rfl, hl2, hf2⟩, hbel⟩
set_option maxHeartbeats 2000000 in
theorem put_e8 (B0 : Blocks) (t s : Ty) (v vs : Value) (x : Str) (w : World) (hB : ∀ b, B0 b → b < w.heap.size) (hv : TyD B0 w v t) (hvs : TyD B0 w vs s) (hg : Good t) (hans : sub x s t = t) (h9 : (t.kind == 9) = false) (h8 : (t.kind == 8) = true) (hn : (t.name == x) = true) :
    PutSays 118 B0 t s v vs x w := by
  unfold PutSays
  rw [hans]
  clear hans
  have HZ := Lib.hid hv
  obtain ⟨lv, kv, rfl, h1, h2⟩ := hv
  obtain ⟨A0, p0, rfl, -, -⟩ := h1
  obtain ⟨A, cap, rfl, -, -⟩ := h2
  obtain ⟨lv', kv', rfl, h3, h4⟩ := hvs
  obtain ⟨A0', p0', rfl, -, -⟩ := h3
  obtain ⟨A', cap', rfl, -, -⟩ := h4
  go_enter Tryd.func118, Tryd.ntmps118
  go_wp2_with fail
  obtain ⟨W, hW⟩ : ∃ W, ((w.alloc (.cells #[.int .i64 t.kind, .int .i64 t.sort, .string ⟨t.name.toArray⟩, .slice A0 t.labels.length p0, .slice A t.kids.length cap] 51)).alloc (.cells #[.int .i64 s.kind, .int .i64 s.sort, .string ⟨s.name.toArray⟩, .slice A0' s.labels.length p0', .slice A' s.kids.length cap'] 51)).alloc (.cells #[.int .i64 0, .int .i64 0, .string ⟨#[]⟩, .slice none 0 0, .slice none 0 0] 51) = W := ⟨_, rfl⟩
  have hRB : VBox W (w.heap.size + 1 + 1) (.mk 0 0 [] [] []) (.slice none 0 0) (.slice none 0 0) := by subst hW; exact ⟨by simp [go_sem]; rfl, by simp [go_sem]; rfl, by simp [go_sem]; rfl, by simp [go_sem], by simp [go_sem], fun j => by simp [go_sem], by simp⟩
  have hbW : Below w.heap.size w W := by subst hW; go_grown
  have hWs : W.heap.size = w.heap.size + 1 + 1 + 1 := by subst hW; simp
  try rw [hW]
  clear hW
  refine (twin_any B0 t _ _ (fun b h => by have := hB b h; omega) (HZ.out.keep (Same.below hbW) (fun b h _ => h)) hg).mono ?_
  rintro e w1 ⟨r, rfl, hr, hb1⟩
  obtain ⟨lr, kr, rfl, hr1, hr2⟩ := hr
  have HR1 := Lib.hid hr1; have HR2 := Lib.hid hr2
  obtain ⟨Ar, pr, rfl, -, -⟩ := hr1
  obtain ⟨Br, qr, rfl, -, -⟩ := hr2
  have hR1 := hRB.keep hb1 hRB.lt
  have hF0 := hR1.fill t (.slice Ar t.labels.length pr) (.slice Br t.kids.length qr)
  obtain ⟨r0, r1, r2, r3, r4, r5, r6⟩ := hR1
  simp only [Ty.kind, Ty.sort, Ty.name] at r0 r1 r2
  clear hRB
  go_wp2_with fail
  have hR := hF0
  have hsame := Same.fill (D := Out B0 W.heap.size) (w := w1) (b := w.heap.size + 1 + 1) (by rintro (h | h); (have := hB _ h; omega); omega) (.int .i64 t.kind) (.int .i64 t.sort) (.string ⟨t.name.toArray⟩) (.slice Ar t.labels.length pr) (.slice Br t.kids.length qr)
  have hbel := below_fill (chain hbW hb1) (b := w.heap.size + 1 + 1) (by omega) (.int .i64 t.kind) (.int .i64 t.sort) (.string ⟨t.name.toArray⟩) (.slice Ar t.labels.length pr) (.slice Br t.kids.length qr)
  have hf2 := HR2.out.keep (D' := Out B0 w.heap.size) hsame (fun b h _ => by rcases h with h | h; exact Or.inl h; exact Or.inr (by omega))
  have hl2 := HR1.out.keep (D' := Out B0 w.heap.size) hsame (fun b h _ => by rcases h with h | h; exact Or.inl h; exact Or.inr (by omega))
  generalize (((((w1.setCell ⟨w.heap.size + 1 + 1, 0, none⟩ (.int .i64 t.kind)).setCell ⟨w.heap.size + 1 + 1, 1, none⟩ (.int .i64 t.sort)).setCell ⟨w.heap.size + 1 + 1, 2, none⟩ (.string ⟨t.name.toArray⟩)).setCell ⟨w.heap.size + 1 + 1, 3, none⟩ (.slice Ar t.labels.length pr)).setCell ⟨w.heap.size + 1 + 1, 4, none⟩ (.slice Br t.kids.length qr)) = w5 at hR hbel hf2 hl2 ⊢
  obtain ⟨d0, d1, d2, d3, d4, d5, d6⟩ := hR
  refine bodyPost_ret (v := .agg #[.int .i64 t.kind, .int .i64 t.sort, .string ⟨t.name.toArray⟩, .slice Ar t.labels.length pr, .slice Br t.kids.length qr]) (by simp [results, Tryd.results118, go_sem, d0, d1, d2, d3, d4]) rfl ?_
  exact ⟨_, rfl, ⟨_, _, rfl, hl2, hf2⟩, hbel⟩

theorem put_any (B0 : Blocks) (s : Ty) (vs : Value) (x : Str) (hgs : Good s) : ∀ (m : Nat) (t : Ty) (v : Value) (w : World), parts t ≤ m → (∀ b, B0 b → b < w.heap.size) → TyD B0 w v t → Good t → TyD B0 w vs s → PutSays 118 B0 t s v vs x w := by
  intro m
  induction m with
  | zero => intro t v w h; cases t; simp only [parts] at h; omega
  | succ m ih =>
  intro t v w hm hB hv hg hvs
  by_cases h9 : t.kind = 9
  · by_cases hn : t.name = x
    · exact put_e9 B0 t s v vs x w hB hv hvs hgs (sub_var h9 hn) (by simp [h9]) (by simp [hn])
    · exact put_v m B0 s vs x ih t v w hm hB hv hg hvs (sub_else fun _ => hn) (by simp [h9]) (by simp [hn]) (by simp [h9])
  · by_cases h8 : t.kind = 8
    · by_cases hn : t.name = x
      · exact put_e8 B0 t s v vs x w hB hv hvs hg (sub_rec h8 hn) (by simp [h9]) (by simp [h8]) (by simp [hn])
      · exact put_r m B0 s vs x ih t v w hm hB hv hg hvs (sub_else fun _ => hn) (by simp [h9]) (by simp [h8]) (by simp [hn])
    · exact put_c m B0 s vs x ih t v w hm hB hv hg hvs (sub_else fun h => absurd h (by rintro (h | h) <;> contradiction)) (by simp [h9]) (by simp [h8])
end Go.Proofs.YtcacembpegoghaaDoor
