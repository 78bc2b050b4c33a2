/-
  global.check and global.Check, whole.
-/
import Derived.Test.YtgnkncfnkjeinaaDoorGlK3
namespace Go.Proofs.YtgnkncfnkjeinaaDoor
open Go.RowKit Go.Proofs
set_option maxRecDepth 100000

theorem gchk_z {t : Gl} {b : List Str} {left : Int} (h : left = 0) : gchk t b left = (2, left - 1) := by
  obtain ⟨k, f, o, s, n, ls, ks⟩ := t
  simp only [gchk]; rw [if_pos (by omega)]
theorem gchk_s {t : Gl} {b : List Str} {left : Int} (h : 1 ≤ left) (hs : gShape t.kind t.frm t.rcv t.sort t.name t.labels t.kids.length = false) : gchk t b left = (1, left - 1) := by
  obtain ⟨k, f, o, s, n, ls, ks⟩ := t
  simp only [Gl.kind, Gl.frm, Gl.rcv, Gl.sort, Gl.name, Gl.labels, Gl.kids] at hs
  simp only [gchk]; rw [if_neg (by omega), if_pos hs]
theorem gchk_o {t : Gl} {b : List Str} {left : Int} (h : 1 ≤ left) (hs : gShape t.kind t.frm t.rcv t.sort t.name t.labels t.kids.length = true) (h9 : t.kind ≠ 9) (h8 : t.kind ≠ 8) : gchk t b left = gchkKids t.kids b (left - 1) := by
  obtain ⟨k, f, o, s, n, ls, ks⟩ := t
  simp only [Gl.kind, Gl.frm, Gl.rcv, Gl.sort, Gl.name, Gl.labels, Gl.kids] at hs h9 h8 ⊢
  simp only [gchk]; rw [if_neg (by omega), if_neg (by rw [hs]; simp), if_neg h9, if_neg h8]
theorem gchk_v4 {t : Gl} {b : List Str} {left : Int} (h : 1 ≤ left) (hs : gShape t.kind t.frm t.rcv t.sort t.name t.labels t.kids.length = true) (h9 : t.kind = 9) (hn : ¬ t.name ∈ b) : gchk t b left = (4, left - 1) := by
  obtain ⟨k, f, o, s, n, ls, ks⟩ := t
  simp only [Gl.kind, Gl.frm, Gl.rcv, Gl.sort, Gl.name, Gl.labels, Gl.kids] at hs h9 hn ⊢
  simp only [gchk]; rw [if_neg (by omega), if_neg (by rw [hs]; simp), if_pos h9, if_neg hn]
theorem gchk_v0 {t : Gl} {b : List Str} {left : Int} (h : 1 ≤ left) (hs : gShape t.kind t.frm t.rcv t.sort t.name t.labels t.kids.length = true) (h9 : t.kind = 9) (hn : t.name ∈ b) : gchk t b left = gchkKids t.kids b (left - 1) := by
  obtain ⟨k, f, o, s, n, ls, ks⟩ := t
  simp only [Gl.kind, Gl.frm, Gl.rcv, Gl.sort, Gl.name, Gl.labels, Gl.kids] at hs h9 hn ⊢
  simp only [gchk]; rw [if_neg (by omega), if_neg (by rw [hs]; simp), if_pos h9, if_pos hn]
theorem gchk_r7 {t : Gl} {b : List Str} {left : Int} (h : 1 ≤ left) (hs : gShape t.kind t.frm t.rcv t.sort t.name t.labels t.kids.length = true) (h8 : t.kind = 8) (hq : (gbottom t).kind = 9) : gchk t b left = (7, left - 1) := by
  obtain ⟨k, f, o, s, n, ls, ks⟩ := t
  simp only [Gl.kind, Gl.frm, Gl.rcv, Gl.sort, Gl.name, Gl.labels, Gl.kids] at hs h8 ⊢
  simp only [gchk]; rw [if_neg (by omega), if_neg (by rw [hs]; simp), if_neg (by omega), if_pos h8, if_pos hq]
theorem gchk_r {t : Gl} {b : List Str} {left : Int} (h : 1 ≤ left) (hs : gShape t.kind t.frm t.rcv t.sort t.name t.labels t.kids.length = true) (h8 : t.kind = 8) (hq : (gbottom t).kind ≠ 9) : gchk t b left = gchkKids t.kids (b ++ [t.name]) (left - 1) := by
  obtain ⟨k, f, o, s, n, ls, ks⟩ := t
  simp only [Gl.kind, Gl.frm, Gl.rcv, Gl.sort, Gl.name, Gl.labels, Gl.kids] at hs h8 ⊢
  simp only [gchk]; rw [if_neg (by omega), if_neg (by rw [hs]; simp), if_neg (by omega), if_pos h8, if_neg hq]
theorem grec_kid {t : Gl} (hs : gShape t.kind t.frm t.rcv t.sort t.name t.labels t.kids.length = true) (h8 : t.kind = 8) : ∃ c, t.kids = [c] := by
  have h := shape_of (gshape_shape hs)
  have hl : t.kids.length = 1 := by
    have : ∀ {k s : Int} {n : Str} {ls : List Str} {c : Nat}, Shape k s n ls c → k = 8 → c = 1 := by
      intro k s n ls c h hk
      cases h <;> omega
    exact this h h8
  match hk : t.kids, hl with
  | [c], _ => exact ⟨c, rfl⟩

theorem gcheck_any : ∀ (m : Nat) (t : Gl) (v bv : Value) (bound : List Str) (p : Nat) (left : Int) (w : World), gparts t ≤ m → GlV (· ≠ p) w v t → GFit t → StrsD (· ≠ p) w bv bound → (∀ s ∈ bound, s.length ≤ maxLen) → 0 ≤ left → (bound.length : Int) + left ≤ 60 → w.cell? ⟨p, 0, none⟩ = some (.int .i64 left) → w.frozen? ⟨p, 0, none⟩ = false → GCheckSays t v bv bound p left w := by
  intro m
  induction m with
  | zero => intro t v bv bound p left w h; cases t; simp only [gparts] at h; omega
  | succ m ih =>
  intro t v bv bound p left w hm hv hf hbv hbl hl0 hl hc hfr
  by_cases hz : left = 0
  · exact gcheck_z m ih t v bv bound p left w hm hv hf hbv hbl hl0 hl hc hfr (gchk_z hz) hz
  have hpos : 1 ≤ left := by omega
  cases hs : gShape t.kind t.frm t.rcv t.sort t.name t.labels t.kids.length with
  | false => exact gcheck_s m ih t v bv bound p left w hm hv hf hbv hbl hl0 hl hc hfr (gchk_s hpos hs) hpos hs
  | true =>
  by_cases h9 : t.kind = 9
  · by_cases hn : t.name ∈ bound
    · exact gcheck_v0 m ih t v bv bound p left w hm hv hf hbv hbl hl0 hl hc hfr (gchk_v0 hpos hs h9 hn) hpos hs (by simp [h9]) (by simp [h9]) (by simp [hn])
    · exact gcheck_v4 m ih t v bv bound p left w hm hv hf hbv hbl hl0 hl hc hfr (gchk_v4 hpos hs h9 hn) hpos hs (by simp [h9]) (by simp [hn])
  · by_cases h8 : t.kind = 8
    · obtain ⟨c, hkc⟩ := grec_kid hs h8
      have hbk := gbottom_kid h8 hkc
      by_cases hq : (gbottom t).kind = 9
      · exact gcheck_r7 m ih t v bv bound p left w hm hv hf hbv hbl hl0 hl hc hfr c hkc (gchk_r7 hpos hs h8 hq) hpos hs (by simp [h9]) (by simp [h8]) (by rw [← hbk]; exact hq)
      · exact gcheck_r m ih t v bv bound p left w hm hv hf hbv hbl hl0 hl hc hfr c hkc _ rfl (gchk_r hpos hs h8 hq) hpos hs (by simp [h9]) (by simp [h8]) (by rw [← hbk]; exact hq)
    · exact gcheck_o m ih t v bv bound p left w hm hv hf hbv hbl hl0 hl hc hfr (gchk_o hpos hs h9 h8) hpos hs (by simp [h9]) (by simp [h8])

set_option maxHeartbeats 1000000 in
theorem gCheck_any (t : Gl) (v : Value) (w : World) {D : Blocks} (hv : GlV D w v t) (hf : GFit t) :
    Calls Tryd.prog 37 #[v] w fun e w' => e = .returned (.int .i64 (glErr t)) ∧ Below w.heap.size w w' := by
  have HZ := Lib.hid hv
  obtain ⟨ANS, hA⟩ : ∃ x, glErr t = x := ⟨_, rfl⟩
  have HA := Lib.hid hA; rw [hA]; clear hA
  obtain ⟨lv, kv, rfl, h1, h2⟩ := hv
  obtain ⟨A0, p0, rfl, -, -⟩ := h1
  obtain ⟨A, cap, rfl, -, -⟩ := h2
  go_enter Tryd.func37, Tryd.ntmps37
  go_wp2_with fail
  have hbW : Below w.heap.size w ((w.alloc (.cells #[.int .i64 t.kind, .string ⟨t.frm.toArray⟩, .string ⟨t.rcv.toArray⟩, .int .i64 t.sort, .string ⟨t.name.toArray⟩, .slice A0 t.labels.length p0, .slice A t.kids.length cap] 52)).alloc (.cells #[.int .i64 60] 3)) := by go_grown
  have hcall := gcheck_any (gparts t) t (.agg #[.int .i64 t.kind, .string ⟨t.frm.toArray⟩, .string ⟨t.rcv.toArray⟩, .int .i64 t.sort, .string ⟨t.name.toArray⟩, .slice A0 t.labels.length p0, .slice A t.kids.length cap]) (.slice none 0 0) [] (w.heap.size + 1) 60 ((w.alloc (.cells #[.int .i64 t.kind, .string ⟨t.frm.toArray⟩, .string ⟨t.rcv.toArray⟩, .int .i64 t.sort, .string ⟨t.name.toArray⟩, .slice A0 t.labels.length p0, .slice A t.kids.length cap] 52)).alloc (.cells #[.int .i64 60] 3)) (Nat.le_refl _)
    (HZ.out.here.keep (Same.below hbW) (fun b h _ => by have h' : b < w.heap.size := h; omega)) hf ⟨none, 0, rfl, Nat.le_refl _, fun h => by simp at h⟩ (by simp) (by omega) (by simp) (by simp [go_sem]) (by simp [go_sem])
  unfold GCheckSays at hcall
  refine hcall.mono ?_
  clear hcall
  rintro e w1 ⟨rfl, hg, -, -⟩
  have hb1 := hbW.grown hg (by simp; omega) (fun k hk => by injection hk; omega)
  go_wp2_with fail
  go_ret
  exact ⟨by rw [← HA.out]; rfl, hb1⟩
end Go.Proofs.YtgnkncfnkjeinaaDoor
