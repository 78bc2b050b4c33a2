/-
  types.check and types.Check, whole.
-/
import Derived.Test.YtcacembpegoghaaDoorTyK3
namespace Go.Proofs.YtcacembpegoghaaDoor
open Go.RowKit Go.Proofs
set_option maxRecDepth 100000

theorem chk_z {t : Ty} {b : List Str} {left : Int} (h : left = 0) : chk t b left = (2, left - 1) := by
  obtain ⟨k, s, n, ls, ks⟩ := t
  simp only [chk]; rw [if_pos (by omega)]
theorem chk_s {t : Ty} {b : List Str} {left : Int} (h : 1 ≤ left) (hs : shapeOk t.kind t.sort t.name t.labels t.kids.length = false) : chk t b left = (1, left - 1) := by
  obtain ⟨k, s, n, ls, ks⟩ := t
  simp only [Ty.kind, Ty.sort, Ty.name, Ty.labels, Ty.kids] at hs
  simp only [chk]; rw [if_neg (by omega), if_pos hs]
theorem chk_o {t : Ty} {b : List Str} {left : Int} (h : 1 ≤ left) (hs : shapeOk t.kind t.sort t.name t.labels t.kids.length = true) (h9 : t.kind ≠ 9) (h8 : t.kind ≠ 8) : chk t b left = chkKids t.kids b (left - 1) := by
  obtain ⟨k, s, n, ls, ks⟩ := t
  simp only [Ty.kind, Ty.sort, Ty.name, Ty.labels, Ty.kids] at hs h9 h8 ⊢
  simp only [chk]; rw [if_neg (by omega), if_neg (by rw [hs]; simp), if_neg h9, if_neg h8]
theorem chk_v4 {t : Ty} {b : List Str} {left : Int} (h : 1 ≤ left) (hs : shapeOk t.kind t.sort t.name t.labels t.kids.length = true) (h9 : t.kind = 9) (hn : ¬ t.name ∈ b) : chk t b left = (4, left - 1) := by
  obtain ⟨k, s, n, ls, ks⟩ := t
  simp only [Ty.kind, Ty.sort, Ty.name, Ty.labels, Ty.kids] at hs h9 hn ⊢
  simp only [chk]; rw [if_neg (by omega), if_neg (by rw [hs]; simp), if_pos h9, if_neg hn]
theorem chk_v0 {t : Ty} {b : List Str} {left : Int} (h : 1 ≤ left) (hs : shapeOk t.kind t.sort t.name t.labels t.kids.length = true) (h9 : t.kind = 9) (hn : t.name ∈ b) : chk t b left = chkKids t.kids b (left - 1) := by
  obtain ⟨k, s, n, ls, ks⟩ := t
  simp only [Ty.kind, Ty.sort, Ty.name, Ty.labels, Ty.kids] at hs h9 hn ⊢
  simp only [chk]; rw [if_neg (by omega), if_neg (by rw [hs]; simp), if_pos h9, if_pos hn]
theorem chk_r7 {t : Ty} {b : List Str} {left : Int} (h : 1 ≤ left) (hs : shapeOk t.kind t.sort t.name t.labels t.kids.length = true) (h8 : t.kind = 8) (hq : (bottom t).kind = 9) : chk t b left = (7, left - 1) := by
  obtain ⟨k, s, n, ls, ks⟩ := t
  simp only [Ty.kind, Ty.sort, Ty.name, Ty.labels, Ty.kids] at hs h8 ⊢
  simp only [chk]; rw [if_neg (by omega), if_neg (by rw [hs]; simp), if_neg (by omega), if_pos h8, if_pos hq]
theorem chk_r {t : Ty} {b : List Str} {left : Int} (h : 1 ≤ left) (hs : shapeOk t.kind t.sort t.name t.labels t.kids.length = true) (h8 : t.kind = 8) (hq : (bottom t).kind ≠ 9) : chk t b left = chkKids t.kids (b ++ [t.name]) (left - 1) := by
  obtain ⟨k, s, n, ls, ks⟩ := t
  simp only [Ty.kind, Ty.sort, Ty.name, Ty.labels, Ty.kids] at hs h8 ⊢
  simp only [chk]; rw [if_neg (by omega), if_neg (by rw [hs]; simp), if_neg (by omega), if_pos h8, if_neg hq]
theorem rec_kid {t : Ty} (hs : shapeOk t.kind t.sort t.name t.labels t.kids.length = true) (h8 : t.kind = 8) : ∃ c, t.kids = [c] := by
  have h := shape_of hs
  have hl : t.kids.length = 1 := by
    have : ∀ {k s : Int} {n : Str} {ls : List Str} {c : Nat}, Shape k s n ls c → k = 8 → c = 1 := by
      intro k s n ls c h hk
      cases h <;> omega
    exact this h h8
  match hk : t.kids, hl with
  | [c], _ => exact ⟨c, rfl⟩

theorem check_any : ∀ (m : Nat) (t : Ty) (v bv : Value) (bound : List Str) (p : Nat) (left : Int) (w : World), parts t ≤ m → TyD (· ≠ p) w v t → Fit t → StrsD (· ≠ p) w bv bound → (∀ s ∈ bound, s.length ≤ maxLen) → 0 ≤ left → (bound.length : Int) + left ≤ 60 → w.cell? ⟨p, 0, none⟩ = some (.int .i64 left) → w.frozen? ⟨p, 0, none⟩ = false → CheckSays t v bv bound p left w := by
  intro m
  induction m with
  | zero => intro t v bv bound p left w h; cases t; simp only [parts] at h; omega
  | succ m ih =>
  intro t v bv bound p left w hm hv hf hbv hbl hl0 hl hc hfr
  by_cases hz : left = 0
  · exact check_z m ih t v bv bound p left w hm hv hf hbv hbl hl0 hl hc hfr (chk_z hz) hz
  have hpos : 1 ≤ left := by omega
  cases hs : shapeOk t.kind t.sort t.name t.labels t.kids.length with
  | false => exact check_s m ih t v bv bound p left w hm hv hf hbv hbl hl0 hl hc hfr (chk_s hpos hs) hpos hs
  | true =>
  by_cases h9 : t.kind = 9
  · by_cases hn : t.name ∈ bound
    · exact check_v0 m ih t v bv bound p left w hm hv hf hbv hbl hl0 hl hc hfr (chk_v0 hpos hs h9 hn) hpos hs (by simp [h9]) (by simp [h9]) (by simp [hn])
    · exact check_v4 m ih t v bv bound p left w hm hv hf hbv hbl hl0 hl hc hfr (chk_v4 hpos hs h9 hn) hpos hs (by simp [h9]) (by simp [hn])
  · by_cases h8 : t.kind = 8
    · obtain ⟨c, hkc⟩ := rec_kid hs h8
      have hbk := bottom_kid h8 hkc
      by_cases hq : (bottom t).kind = 9
      · exact check_r7 m ih t v bv bound p left w hm hv hf hbv hbl hl0 hl hc hfr c hkc (chk_r7 hpos hs h8 hq) hpos hs (by simp [h9]) (by simp [h8]) (by rw [← hbk]; exact hq)
      · exact check_r m ih t v bv bound p left w hm hv hf hbv hbl hl0 hl hc hfr c hkc _ rfl (chk_r hpos hs h8 hq) hpos hs (by simp [h9]) (by simp [h8]) (by rw [← hbk]; exact hq)
    · exact check_o m ih t v bv bound p left w hm hv hf hbv hbl hl0 hl hc hfr (chk_o hpos hs h9 h8) hpos hs (by simp [h9]) (by simp [h8])

set_option maxHeartbeats 1000000 in
theorem Check_any (t : Ty) (v : Value) (w : World) (hv : IsTy w v t) (hf : Fit t) :
    Calls Tryd.prog 43 #[v] w fun e w' => e = .returned (.int .i64 (tyErr t)) ∧ Below w.heap.size w w' := by
  have HZ := Lib.hid hv
  obtain ⟨ANS, hA⟩ : ∃ x, tyErr t = x := ⟨_, rfl⟩
  have HA := Lib.hid hA; rw [hA]; clear hA
  obtain ⟨lv, kv, rfl, h1, h2⟩ := hv
  obtain ⟨A0, p0, rfl, -, -⟩ := h1
  obtain ⟨A, cap, rfl, -, -⟩ := h2
  go_enter Tryd.func43, Tryd.ntmps43
  go_wp2_with fail
  have hbW : Below w.heap.size w ((w.alloc (.cells #[.int .i64 t.kind, .int .i64 t.sort, .string ⟨t.name.toArray⟩, .slice A0 t.labels.length p0, .slice A t.kids.length cap] 51)).alloc (.cells #[.int .i64 60] 3)) := by go_grown
  have hcall := check_any (parts t) t (.agg #[.int .i64 t.kind, .int .i64 t.sort, .string ⟨t.name.toArray⟩, .slice A0 t.labels.length p0, .slice A t.kids.length cap]) (.slice none 0 0) [] (w.heap.size + 1) 60 ((w.alloc (.cells #[.int .i64 t.kind, .int .i64 t.sort, .string ⟨t.name.toArray⟩, .slice A0 t.labels.length p0, .slice A t.kids.length cap] 51)).alloc (.cells #[.int .i64 60] 3)) (Nat.le_refl _)
    (HZ.out.toD.keep (Same.below hbW) (fun b h _ => by have h' : b < w.heap.size := h; omega)) hf ⟨none, 0, rfl, Nat.le_refl _, fun h => by simp at h⟩ (by simp) (by omega) (by simp) (by simp [go_sem]) (by simp [go_sem])
  unfold CheckSays at hcall
  refine hcall.mono ?_
  clear hcall
  rintro e w1 ⟨rfl, hg, -, -⟩
  have hb1 := hbW.grown hg (by simp; omega) (fun k hk => by injection hk; omega)
  go_wp2_with fail
  go_ret
  exact ⟨by rw [← HA.out]; rfl, hb1⟩
end Go.Proofs.YtcacembpegoghaaDoor
