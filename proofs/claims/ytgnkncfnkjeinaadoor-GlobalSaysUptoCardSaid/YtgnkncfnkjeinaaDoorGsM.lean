/-
  Renaming roles: the program's Rename.
-/
import Derived.Test.YtgnkncfnkjeinaaDoorGsN3
import Derived.Test.YtgnkncfnkjeinaaDoorGlK4
namespace Go.Proofs.YtgnkncfnkjeinaaDoor
open Go.RowKit Go.Proofs
set_option maxRecDepth 100000

/-- The pairs are right, up to number i. -/
def prsUp (F T : List Str) : Nat → Bool
  | 0 => true
  | i + 1 => prsUp F T i && (isRole (F.getD i []) && isRole (T.getD i []) && !(decide (F.getD i [] ∈ F.take i)))
theorem prsUp_mono {F T : List Str} {i : Nat} : ∀ {j : Nat}, i ≤ j → prsUp F T i = false → prsUp F T j = false
  | 0, h, hf => by
    obtain rfl : i = 0 := by omega
    exact hf
  | j + 1, h, hf => by
    rcases Nat.lt_or_eq_of_le h with h1 | rfl
    · simp only [prsUp, prsUp_mono (Nat.le_of_lt_succ h1) hf, Bool.false_and]
    · exact hf
theorem prsUp_at {F T : List Str} : ∀ {n i : Nat}, prsUp F T n = true → i < n → isRole (F.getD i []) = true ∧ isRole (T.getD i []) = true ∧ F.getD i [] ∉ F.take i
  | 0, i, _, hi => by omega
  | n + 1, i, h, hi => by
    simp only [prsUp, Bool.and_eq_true, Bool.not_eq_true', decide_eq_false_iff_not] at h
    rcases Nat.lt_or_eq_of_le (Nat.le_of_lt_succ hi) with h1 | rfl
    · exact prsUp_at h.1 h1
    · exact ⟨h.2.1.1, h.2.1.2, h.2.2⟩
def renE (t : Gl) (F T : List Str) : Int := if glErr t ≠ 0 then glErr t else if F.length = T.length then (if prsUp F T F.length = true then (if glErr (rnG F T t) = 0 then 0 else 4) else 1) else 1
def renR (t : Gl) (F T : List Str) : Gl := if renE t F T = 0 then rnG F T t else zeroGl
theorem renR_bad {t : Gl} {F T : List Str} {E : Int} (h : renE t F T = E) (h0 : E ≠ 0) : renR t F T = zeroGl := by
  unfold renR
  rw [h, if_neg h0]
theorem rnm_len (F : List Str) : ∀ (T : List Str) (s : Str), (∀ t ∈ T, t.length ≤ maxLen) → s.length ≤ maxLen → (rnm F T s).length ≤ maxLen := by
  induction F with
  | nil => intro T s _ h; simpa [rnm] using h
  | cons f F ih =>
    intro T s hT h
    cases T with
    | nil => simpa [rnm] using h
    | cons t T =>
      simp only [rnm]
      split
      · exact hT t (by simp)
      · exact ih T s (fun x hx => hT x (by simp [hx])) h
mutual
theorem rnG_fit (F T : List Str) (hT : ∀ t ∈ T, t.length ≤ maxLen) : ∀ t : Gl, GFit t → GFit (rnG F T t)
  | .mk k f o s n ls ks, h => by
    obtain ⟨h1, h2, h3, h4, h5, h6, h7⟩ := h.parts
    simp only [rnG]
    exact .mk _ _ _ _ _ _ _ (rnm_len F T f hT h1) (rnm_len F T o hT h2) h3 h4 h5 (by rw [rnGs_length]; exact h6) (rnGs_fit F T hT ks h7)
theorem rnGs_fit (F T : List Str) (hT : ∀ t ∈ T, t.length ≤ maxLen) : ∀ ks : List Gl, (∀ t ∈ ks, GFit t) → ∀ t ∈ rnGs F T ks, GFit t
  | [], _, t, h => by simp [rnGs] at h
  | k :: r, hk, t, h => by
    simp only [rnGs] at h
    rcases List.mem_cons.1 h with rfl | h
    · exact rnG_fit F T hT k (hk k (by simp))
    · exact rnGs_fit F T hT r (fun x hx => hk x (by simp [hx])) t h
end

set_option maxHeartbeats 8000000 in
theorem Rename_bad (F T : List Str) (t : Gl) (v fv tv : Value) (w : World) (hv : IsGl w v t) (hf : GFit t) (hF : IsStrs w fv F) (hT : IsStrs w tv T) (hFl : F.length ≤ 9223372036854775807) (hTl : T.length ≤ 9223372036854775807) (E : Int) (hE : glErr t = E) (h0 : E ≠ 0) :
    Calls Tryd.prog 33 #[v, fv, tv] w fun e w' => Below w.heap.size w w' ∧ ∃ v', e = .returned (.tuple #[v', .int .i64 (renE t F T)]) ∧ IsGl w' v' (renR t F T) := by
  have HZ := Lib.hid hv
  obtain ⟨lv, kv, rfl, h1, h2⟩ := hv
  obtain ⟨A0, p0, rfl, -, -⟩ := h1
  obtain ⟨A, cap, rfl, -, -⟩ := h2
  have HF := Lib.hid hF
  have HT := Lib.hid hT
  obtain ⟨AF, cF, rfl, -, -⟩ := hF
  obtain ⟨AT, cT, rfl, -, -⟩ := hT
  have HRE : Hid (renE t F T = E) := Lib.hid (by unfold renE; rw [hE, if_pos h0])
  have HR0 := Lib.hid h0
  have HE := Lib.hid hE
  have hb : (E != 0) = true := by rw [bne_iff_ne]; exact h0
  clear h0 hE hFl hTl
  go_enter Tryd.func33, Tryd.ntmps33
  go_wp2_with fail
  obtain ⟨W, hW⟩ : ∃ W, (w.alloc (.cells #[.int .i64 t.kind, .string ⟨t.frm.toArray⟩, .string ⟨t.rcv.toArray⟩, .int .i64 t.sort, .string ⟨t.name.toArray⟩, .slice A0 t.labels.length p0, .slice A t.kids.length cap] 52)).alloc (.cells #[.int .i64 0, .string ⟨#[]⟩, .string ⟨#[]⟩, .int .i64 0, .string ⟨#[]⟩, .slice none 0 0, .slice none 0 0] 52) = W := ⟨_, rfl⟩
  have GT : GBox W w.heap.size t (.slice A0 t.labels.length p0) (.slice A t.kids.length cap) := by subst hW; exact (new_gval w t (.slice A0 t.labels.length p0) (.slice A t.kids.length cap) 52).keep ((Below.refl _ _).alloc (Nat.le_refl _) _) (by simp)
  have GZ : GBox W (w.heap.size + 1) zeroGl (.slice none 0 0) (.slice none 0 0) := by subst hW; exact ⟨by simp [go_sem]; rfl, by simp [go_sem]; rfl, by simp [go_sem]; rfl, by simp [go_sem]; rfl, by simp [go_sem]; rfl, by simp [go_sem], by simp [go_sem], fun j => by simp [go_sem], by simp <;> omega⟩
  have hbW : Below w.heap.size w W := by subst hW; go_grown
  have hWs : W.heap.size = w.heap.size + 2 := by subst hW; simp
  try rw [hW]
  clear hW
  refine (gCheck_any t _ _ (IsGl.keep HZ.out hbW) hf).mono ?_; rw [HE.out]; rintro e w1 ⟨rfl, hb1⟩
  have GT1 := GT.keep hb1 GT.lt
  have GZ1 := GZ.keep hb1 GZ.lt
  have hbw1 := chain hbW hb1
  have hs1 : w.heap.size + 2 ≤ w1.heap.size := by have := hb1.size; omega
  clear GT GZ hb1 hbW hWs
  obtain ⟨z0, z1, z2, z3, z4, z5, z6, z7, z8⟩ := id GZ1
  simp only [Gl.kind, Gl.frm, Gl.rcv, Gl.sort, Gl.name, zeroGl] at z0 z1 z2 z3 z4
  go_wp2_with fail
  have GF := GZ1.fill zeroGl (.slice none 0 0) (.slice none 0 0)
  have hbG := below_fill7 hbw1 (b := w.heap.size + 1) (by omega) (.int .i64 0) (.string ⟨#[]⟩) (.string ⟨#[]⟩) (.int .i64 0) (.string ⟨#[]⟩) (.slice none 0 0) (.slice none 0 0)
  simp only [Gl.kind, Gl.frm, Gl.rcv, Gl.sort, Gl.name, zeroGl] at GF
  generalize (((((((w1.setCell ⟨w.heap.size + 1, 0, none⟩ (.int .i64 0)).setCell ⟨w.heap.size + 1, 1, none⟩ (.string ⟨#[]⟩)).setCell ⟨w.heap.size + 1, 2, none⟩ (.string ⟨#[]⟩)).setCell ⟨w.heap.size + 1, 3, none⟩ (.int .i64 0)).setCell ⟨w.heap.size + 1, 4, none⟩ (.string ⟨#[]⟩)).setCell ⟨w.heap.size + 1, 5, none⟩ (.slice none 0 0)).setCell ⟨w.heap.size + 1, 6, none⟩ (.slice none 0 0)) = wF at GF hbG ⊢
  obtain ⟨d0, d1, d2, d3, d4, d5, d6, d7, d8⟩ := GF
  simp only [Gl.kind, Gl.frm, Gl.rcv, Gl.sort, Gl.name] at d0 d1 d2 d3 d4
  refine bodyPost_ret (v := .tuple #[.agg #[.int .i64 0, .string ⟨#[]⟩, .string ⟨#[]⟩, .int .i64 0, .string ⟨#[]⟩, .slice none 0 0, .slice none 0 0], .int .i64 E]) (by simp [results, Tryd.results33, go_sem, d0, d1, d2, d3, d4, d5, d6]) rfl ?_
  refine ⟨hbG, _, by rw [HRE.out], ?_⟩
  rw [renR_bad HRE.out HR0.out]
  exact zero_gl _ _

set_option maxHeartbeats 8000000 in
theorem Rename_len (F T : List Str) (t : Gl) (v fv tv : Value) (w : World) (hv : IsGl w v t) (hf : GFit t) (hF : IsStrs w fv F) (hT : IsStrs w tv T) (hFl : F.length ≤ 9223372036854775807) (hTl : T.length ≤ 9223372036854775807) (hE : glErr t = 0) (hlen : F.length ≠ T.length) :
    Calls Tryd.prog 33 #[v, fv, tv] w fun e w' => Below w.heap.size w w' ∧ ∃ v', e = .returned (.tuple #[v', .int .i64 (renE t F T)]) ∧ IsGl w' v' (renR t F T) := by
  have HZ := Lib.hid hv
  obtain ⟨lv, kv, rfl, h1, h2⟩ := hv
  obtain ⟨A0, p0, rfl, -, -⟩ := h1
  obtain ⟨A, cap, rfl, -, -⟩ := h2
  have HF := Lib.hid hF
  have HT := Lib.hid hT
  obtain ⟨AF, cF, rfl, -, -⟩ := hF
  obtain ⟨AT, cT, rfl, -, -⟩ := hT
  have HRE : Hid (renE t F T = 1) := Lib.hid (by unfold renE; rw [hE, if_neg (by simp), if_neg hlen])
  have HR0 : Hid ((1 : Int) ≠ 0) := Lib.hid (by decide)
  have HE := Lib.hid hE
  have hb : ((F.length : Int) != (T.length : Int)) = true := by rw [bne_iff_ne]; omega
  clear hE hFl hTl
  go_enter Tryd.func33, Tryd.ntmps33
  go_wp2_with fail
  obtain ⟨W, hW⟩ : ∃ W, (w.alloc (.cells #[.int .i64 t.kind, .string ⟨t.frm.toArray⟩, .string ⟨t.rcv.toArray⟩, .int .i64 t.sort, .string ⟨t.name.toArray⟩, .slice A0 t.labels.length p0, .slice A t.kids.length cap] 52)).alloc (.cells #[.int .i64 0, .string ⟨#[]⟩, .string ⟨#[]⟩, .int .i64 0, .string ⟨#[]⟩, .slice none 0 0, .slice none 0 0] 52) = W := ⟨_, rfl⟩
  have GT : GBox W w.heap.size t (.slice A0 t.labels.length p0) (.slice A t.kids.length cap) := by subst hW; exact (new_gval w t (.slice A0 t.labels.length p0) (.slice A t.kids.length cap) 52).keep ((Below.refl _ _).alloc (Nat.le_refl _) _) (by simp)
  have GZ : GBox W (w.heap.size + 1) zeroGl (.slice none 0 0) (.slice none 0 0) := by subst hW; exact ⟨by simp [go_sem]; rfl, by simp [go_sem]; rfl, by simp [go_sem]; rfl, by simp [go_sem]; rfl, by simp [go_sem]; rfl, by simp [go_sem], by simp [go_sem], fun j => by simp [go_sem], by simp <;> omega⟩
  have hbW : Below w.heap.size w W := by subst hW; go_grown
  have hWs : W.heap.size = w.heap.size + 2 := by subst hW; simp
  try rw [hW]
  clear hW
  refine (gCheck_any t _ _ (IsGl.keep HZ.out hbW) hf).mono ?_; rw [HE.out]; rintro e w1 ⟨rfl, hb1⟩
  have GT1 := GT.keep hb1 GT.lt
  have GZ1 := GZ.keep hb1 GZ.lt
  have hbw1 := chain hbW hb1
  have hs1 : w.heap.size + 2 ≤ w1.heap.size := by have := hb1.size; omega
  clear GT GZ hb1 hbW hWs
  obtain ⟨z0, z1, z2, z3, z4, z5, z6, z7, z8⟩ := id GZ1
  simp only [Gl.kind, Gl.frm, Gl.rcv, Gl.sort, Gl.name, zeroGl] at z0 z1 z2 z3 z4
  go_wp2_with fail
  have GF := GZ1.fill zeroGl (.slice none 0 0) (.slice none 0 0)
  have hbG := below_fill7 hbw1 (b := w.heap.size + 1) (by omega) (.int .i64 0) (.string ⟨#[]⟩) (.string ⟨#[]⟩) (.int .i64 0) (.string ⟨#[]⟩) (.slice none 0 0) (.slice none 0 0)
  simp only [Gl.kind, Gl.frm, Gl.rcv, Gl.sort, Gl.name, zeroGl] at GF
  generalize (((((((w1.setCell ⟨w.heap.size + 1, 0, none⟩ (.int .i64 0)).setCell ⟨w.heap.size + 1, 1, none⟩ (.string ⟨#[]⟩)).setCell ⟨w.heap.size + 1, 2, none⟩ (.string ⟨#[]⟩)).setCell ⟨w.heap.size + 1, 3, none⟩ (.int .i64 0)).setCell ⟨w.heap.size + 1, 4, none⟩ (.string ⟨#[]⟩)).setCell ⟨w.heap.size + 1, 5, none⟩ (.slice none 0 0)).setCell ⟨w.heap.size + 1, 6, none⟩ (.slice none 0 0)) = wF at GF hbG ⊢
  obtain ⟨d0, d1, d2, d3, d4, d5, d6, d7, d8⟩ := GF
  simp only [Gl.kind, Gl.frm, Gl.rcv, Gl.sort, Gl.name] at d0 d1 d2 d3 d4
  refine bodyPost_ret (v := .tuple #[.agg #[.int .i64 0, .string ⟨#[]⟩, .string ⟨#[]⟩, .int .i64 0, .string ⟨#[]⟩, .slice none 0 0, .slice none 0 0], .int .i64 1]) (by simp [results, Tryd.results33, go_sem, d0, d1, d2, d3, d4, d5, d6]) rfl ?_
  refine ⟨hbG, _, by rw [HRE.out], ?_⟩
  rw [renR_bad HRE.out HR0.out]
  exact zero_gl _ _

set_option maxHeartbeats 8000000 in
theorem Rename_ok (F T : List Str) (t : Gl) (v fv tv : Value) (w : World) (hv : IsGl w v t) (hf : GFit t) (hF : IsStrs w fv F) (hT : IsStrs w tv T) (hFl : F.length ≤ 9223372036854775807) (hTl : T.length ≤ 9223372036854775807) (hTs : ∀ x ∈ T, x.length ≤ 9223372036854775807) (hFs : ∀ x ∈ F, x.length ≤ 9223372036854775807) (hE : glErr t = 0) (hlen : F.length = T.length) :
    Calls Tryd.prog 33 #[v, fv, tv] w fun e w' => Below w.heap.size w w' ∧ ∃ v', e = .returned (.tuple #[v', .int .i64 (renE t F T)]) ∧ IsGl w' v' (renR t F T) := by
  have HZ := Lib.hid hv
  obtain ⟨lv, kv, rfl, h1, h2⟩ := hv
  obtain ⟨A0, p0, rfl, -, -⟩ := h1
  obtain ⟨A, cap, rfl, -, -⟩ := h2
  have HF := Lib.hid hF
  have HT := Lib.hid hT
  obtain ⟨AF, cF, rfl, -, -⟩ := hF
  obtain ⟨AT, cT, rfl, -, -⟩ := hT
  obtain ⟨L, hL⟩ : ∃ x, F.length = x := ⟨_, rfl⟩
  have hL2 := hlen.symm.trans hL
  have HLF := Lib.hid hL
  have HLT := Lib.hid hL2
  have HLE := Lib.hid hlen
  have hgood := ggood_of_gchk t [] 60 hE
  have hfitU := rnG_fit F T hTs t hf
  have HR1' : Hid (∀ q, q < L → prsUp F T (q + 1) = false → renE t F T = 1) := Lib.hid (fun q hq h => by
    unfold renE
    rw [hE, if_neg (by simp), if_pos hlen, prsUp_mono (by rw [hL]; omega) h]
    simp)
  have HR2 : Hid (prsUp F T L = true → renE t F T = if glErr (rnG F T t) = 0 then 0 else 4) := Lib.hid (fun h => by
    unfold renE
    rw [hE, if_neg (by simp), if_pos hlen, hL, if_pos h])
  have HE := Lib.hid hE
  rw [hL] at HF hFl ⊢
  rw [hL2] at HT ⊢
  have hLL : ((L : Int) != (L : Int)) = false := by simp
  have HFS := Lib.hid hFs
  have HTS := Lib.hid hTs
  clear hE hTl hlen hL hL2 hTs hFs
  go_enter Tryd.func33, Tryd.ntmps33
  go_wp2_with fail
  obtain ⟨W, hW⟩ : ∃ W, (w.alloc (.cells #[.int .i64 t.kind, .string ⟨t.frm.toArray⟩, .string ⟨t.rcv.toArray⟩, .int .i64 t.sort, .string ⟨t.name.toArray⟩, .slice A0 t.labels.length p0, .slice A t.kids.length cap] 52)).alloc (.cells #[.int .i64 0, .string ⟨#[]⟩, .string ⟨#[]⟩, .int .i64 0, .string ⟨#[]⟩, .slice none 0 0, .slice none 0 0] 52) = W := ⟨_, rfl⟩
  have GT : GBox W w.heap.size t (.slice A0 t.labels.length p0) (.slice A t.kids.length cap) := by subst hW; exact (new_gval w t (.slice A0 t.labels.length p0) (.slice A t.kids.length cap) 52).keep ((Below.refl _ _).alloc (Nat.le_refl _) _) (by simp)
  have GZ : GBox W (w.heap.size + 1) zeroGl (.slice none 0 0) (.slice none 0 0) := by subst hW; exact ⟨by simp [go_sem]; rfl, by simp [go_sem]; rfl, by simp [go_sem]; rfl, by simp [go_sem]; rfl, by simp [go_sem]; rfl, by simp [go_sem], by simp [go_sem], fun j => by simp [go_sem], by simp <;> omega⟩
  have hbW : Below w.heap.size w W := by subst hW; go_grown
  have hWs : W.heap.size = w.heap.size + 2 := by subst hW; simp
  try rw [hW]
  clear hW
  refine (gCheck_any t _ _ (IsGl.keep HZ.out hbW) hf).mono ?_; rw [HE.out]; rintro e w1 ⟨rfl, hb1⟩
  have GT1 := GT.keep hb1 GT.lt
  have GZ1 := GZ.keep hb1 GZ.lt
  have hbw1 := chain hbW hb1
  have hs1 : w.heap.size + 2 ≤ w1.heap.size := by have := hb1.size; omega
  clear GT GZ hb1 hbW hWs
  obtain ⟨z0, z1, z2, z3, z4, z5, z6, z7, z8⟩ := id GZ1
  simp only [Gl.kind, Gl.frm, Gl.rcv, Gl.sort, Gl.name, zeroGl] at z0 z1 z2 z3 z4
  obtain ⟨x0, x1, x2, x3, x4, x5, x6, x7, x8⟩ := id GT1
  go_wp2_with fail
  go_loopw [25] (fun i wr => ∃ q : Nat, q ≤ L ∧ i = .int .i64 q ∧ prsUp F T q = true ∧ Below w1.heap.size w1 wr) (fun i _ => L - (intOf i).toNat)
  case atStart => exact ⟨0, by omega, rfl, rfl, Below.refl _ _⟩
  case round =>
    obtain ⟨q, hq, rfl, hpr, hbN⟩ := hrel
    have HPR := Lib.hid hpr
    clear hpr
    by_cases hlt : q < L
    · have HR1 := HR1'.out q hlt
      obtain ⟨f', hf'⟩ : ∃ x, F[q]? = some x := ⟨_, List.getElem?_eq_getElem (by rw [HLF.out]; exact hlt)⟩
      obtain ⟨t', ht'⟩ : ∃ x, T[q]? = some x := ⟨_, List.getElem?_eq_getElem (by rw [HLT.out]; exact hlt)⟩
      have HFD : Hid (F.getD q [] = f') := Lib.hid (by rw [List.getD_eq_getElem?_getD, hf']; rfl)
      have HTD : Hid (T.getD q [] = t') := Lib.hid (by rw [List.getD_eq_getElem?_getD, ht']; rfl)
      have hfl := HFS.out f' (List.mem_of_getElem? hf')
      have htl := HTS.out t' (List.mem_of_getElem? ht')
      obtain ⟨_, _, eF, hcF, hrF⟩ := HF.out
      obtain ⟨bF, oF, rfl, hrowF⟩ := hrF (by rw [HLF.out]; omega)
      injection eF with eF1 eF2 eF3
      subst eF1 eF3
      clear eF2
      obtain ⟨_, _, eT, hcT, hrT⟩ := HT.out
      obtain ⟨bT, oT, rfl, hrowT⟩ := hrT (by rw [HLT.out]; omega)
      injection eT with eT1 eT2 eT3
      subst eT1 eT3
      clear eT2
      rw [HLF.out] at hcF
      have hqc : q ≤ cF := by omega
      have hS : ∀ w' : World, Below wr.heap.size wr w' → (fun w' : World => w'.cell? ⟨bF, oF + q, none⟩ = some (.string ⟨f'.toArray⟩) ∧ w'.cell? ⟨bT, oT + q, none⟩ = some (.string ⟨t'.toArray⟩)) w' := fun w' h => ⟨cell_keep (cell_keep (cell_keep (hrowF q f' hf') hbw1) hbN) h, cell_keep (cell_keep (cell_keep (hrowT q t' ht') hbw1) hbN) h⟩
      have HCT : Hid (∀ w' : World, Below wr.heap.size wr w' → Calls Tryd.prog 40 #[.slice (some ⟨bF, oF, none⟩) q cF, .string ⟨f'.toArray⟩] w' fun e w'' => e = .returned (.bool (decide (f' ∈ F.take q))) ∧ w'' = w') := Lib.hid (fun w' h => by
        have hlq : (F.take q).length = q := by rw [List.length_take, HLF.out]; omega
        have h1 := contains_any (w := w') (v := .slice (some ⟨bF, oF, none⟩) (F.take q).length cF) (zs := F.take q) ⟨_, _, rfl, by rw [hlq]; omega, fun _ => ⟨bF, oF, rfl, fun i s hi => cell_keep (cell_keep (cell_keep (hrowF i s (by rw [List.getElem?_take] at hi; split at hi <;> simp_all)) hbw1) hbN) h⟩⟩ (by rw [hlq]; omega) f'
        rw [hlq] at h1
        exact h1)
      have hd0 : Below wr.heap.size wr wr.drew := (Below.refl _ _).drew
      have HSB := Lib.hid hS
      clear hS hrowF hrowT hrF hrT hf' ht'
      go_wp2_with fail
      refine wp_region_T 24 (fun w' : World => w'.cell? ⟨bF, oF + q, none⟩ = some (.string ⟨f'.toArray⟩) ∧ w'.cell? ⟨bT, oT + q, none⟩ = some (.string ⟨t'.toArray⟩)) (by kernel_rfl) ?_
      generalize wr.drew = v0 at hd0 ⊢
      cases hb1 : isRole f' with
      | false =>
        have H1 := Lib.hid hb1
        refine wpT_take (i := 0) (v := ?_) rfl (by kernel_rfl) (by kernel_rfl) (by kernel_rfl) (by kernel_rfl) (fun _ _ _ h => h) (Or.inl ⟨by rfl, ?_⟩) (HSB.out _ hd0) ?_
        rotate_left
        · (intro wq hSw; obtain ⟨q0, q1⟩ := hSw; go_simp; all_goals (first | (with_reducible rfl) | (rw [if_neg (by first | omega | (simp; omega) | (simp only [List.length_append, List.length_cons, List.length_nil]; omega))])))
        simp only [List.getElem_toArray, List.getElem_cons_succ, List.getElem_cons_zero, Act.put, List.setIfInBounds_toArray, List.set_cons_zero, List.set_cons_succ]
        refine wpT_take (i := 1) (v := ?_) rfl (by kernel_rfl) (by kernel_rfl) (by kernel_rfl) (by kernel_rfl) (fun _ _ _ h => h) (Or.inl ⟨by rfl, ?_⟩) (HSB.out _ hd0) ?_
        rotate_left
        · (intro wq hSw; obtain ⟨q0, q1⟩ := hSw; go_simp; all_goals (first | (with_reducible rfl) | (rw [if_neg (by first | omega | (simp; omega) | (simp only [List.length_append, List.length_cons, List.length_nil]; omega))])))
        simp only [List.getElem_toArray, List.getElem_cons_succ, List.getElem_cons_zero, Act.put, List.setIfInBounds_toArray, List.set_cons_zero, List.set_cons_succ]
        refine wpT_take (i := 2) (v := ?_) rfl (by kernel_rfl) (by kernel_rfl) (by kernel_rfl) (by kernel_rfl) (fun _ _ _ h => h) (Or.inl ⟨by rfl, ?_⟩) (HSB.out _ hd0) ?_
        rotate_left
        · (intro wq hSw; obtain ⟨q0, q1⟩ := hSw; go_simp; all_goals (first | (with_reducible rfl) | (rw [if_neg (by first | omega | (simp; omega) | (simp only [List.length_append, List.length_cons, List.length_nil]; omega))])))
        simp only [List.getElem_toArray, List.getElem_cons_succ, List.getElem_cons_zero, Act.put, List.setIfInBounds_toArray, List.set_cons_zero, List.set_cons_succ]
        refine wpT_take (i := 3) (v := ?_) rfl (by kernel_rfl) (by kernel_rfl) (by kernel_rfl) (by kernel_rfl) (fun _ _ _ h => h) (Or.inl ⟨by rfl, ?_⟩) (HSB.out _ hd0) ?_
        rotate_left
        · (intro wq hSw; obtain ⟨q0, q1⟩ := hSw; go_simp; all_goals (first | (with_reducible rfl) | (rw [if_neg (by first | omega | (simp; omega) | (simp only [List.length_append, List.length_cons, List.length_nil]; omega))])))
        simp only [List.getElem_toArray, List.getElem_cons_succ, List.getElem_cons_zero, Act.put, List.setIfInBounds_toArray, List.set_cons_zero, List.set_cons_succ]
        refine wpT_one (i := 4) rfl (by kernel_rfl) fun K hK => ?_
        go_simp
        refine (isRole_any f' v0 hfl).mono ?_
        rw [H1.out]
        rintro e v1 ⟨rfl, hq⟩
        have hd1 := chain hd0 hq
        clear hq
        refine hK.out _ _ (fun _ => HSB.out _ hd1) ?_
        clear hK K
        try simp only [List.getElem_toArray, List.getElem_cons_succ, List.getElem_cons_zero, Act.put, List.setIfInBounds_toArray, List.set_cons_zero, List.set_cons_succ]
        refine wpT_take (i := 5) (v := ?_) rfl (by kernel_rfl) (by kernel_rfl) (by kernel_rfl) (by kernel_rfl) (fun _ _ _ h => h) (Or.inl ⟨by rfl, ?_⟩) (HSB.out _ hd1) ?_
        rotate_left
        · (intro wq hSw; obtain ⟨q0, q1⟩ := hSw; go_simp; all_goals (first | (with_reducible rfl) | (rw [if_neg (by first | omega | (simp; omega) | (simp only [List.length_append, List.length_cons, List.length_nil]; omega))])))
        simp only [List.getElem_toArray, List.getElem_cons_succ, List.getElem_cons_zero, Act.put, List.setIfInBounds_toArray, List.set_cons_zero, List.set_cons_succ]
        refine wpT_take (i := 6) (v := ?_) rfl (by kernel_rfl) (by kernel_rfl) (by kernel_rfl) (by kernel_rfl) (fun _ _ _ h => h) (Or.inl ⟨by rfl, ?_⟩) (HSB.out _ hd1) ?_
        rotate_left
        · (intro wq hSw; obtain ⟨q0, q1⟩ := hSw; go_simp; all_goals (first | (with_reducible rfl) | (rw [if_neg (by first | omega | (simp; omega) | (simp only [List.length_append, List.length_cons, List.length_nil]; omega))])))
        simp only [List.getElem_toArray, List.getElem_cons_succ, List.getElem_cons_zero, Act.put, List.setIfInBounds_toArray, List.set_cons_zero, List.set_cons_succ]
        refine wpT_take (i := 7) (v := undef) rfl (by kernel_rfl) (by kernel_rfl) (by kernel_rfl) (by kernel_rfl) (fun _ _ _ h => h) (Or.inr ⟨by rfl, rfl⟩) (HSB.out _ hd1) ?_
        simp only [List.getElem_toArray, List.getElem_cons_succ, List.getElem_cons_zero, Act.put, List.setIfInBounds_toArray, List.set_cons_zero, List.set_cons_succ]
        refine wpT_take (i := 8) (v := undef) rfl (by kernel_rfl) (by kernel_rfl) (by kernel_rfl) (by kernel_rfl) (fun _ _ _ h => h) (Or.inr ⟨by rfl, rfl⟩) (HSB.out _ hd1) ?_
        simp only [List.getElem_toArray, List.getElem_cons_succ, List.getElem_cons_zero, Act.put, List.setIfInBounds_toArray, List.set_cons_zero, List.set_cons_succ]
        refine wpT_take (i := 9) (v := undef) rfl (by kernel_rfl) (by kernel_rfl) (by kernel_rfl) (by kernel_rfl) (fun _ _ _ h => h) (Or.inr ⟨by rfl, rfl⟩) (HSB.out _ hd1) ?_
        simp only [List.getElem_toArray, List.getElem_cons_succ, List.getElem_cons_zero, Act.put, List.setIfInBounds_toArray, List.set_cons_zero, List.set_cons_succ]
        refine wpT_take (i := 10) (v := undef) rfl (by kernel_rfl) (by kernel_rfl) (by kernel_rfl) (by kernel_rfl) (fun _ _ _ h => h) (Or.inr ⟨by rfl, rfl⟩) (HSB.out _ hd1) ?_
        simp only [List.getElem_toArray, List.getElem_cons_succ, List.getElem_cons_zero, Act.put, List.setIfInBounds_toArray, List.set_cons_zero, List.set_cons_succ]
        refine wpT_take (i := 11) (v := undef) rfl (by kernel_rfl) (by kernel_rfl) (by kernel_rfl) (by kernel_rfl) (fun _ _ _ h => h) (Or.inr ⟨by rfl, rfl⟩) (HSB.out _ hd1) ?_
        simp only [List.getElem_toArray, List.getElem_cons_succ, List.getElem_cons_zero, Act.put, List.setIfInBounds_toArray, List.set_cons_zero, List.set_cons_succ]
        refine wpT_take (i := 12) (v := undef) rfl (by kernel_rfl) (by kernel_rfl) (by kernel_rfl) (by kernel_rfl) (fun _ _ _ h => h) (Or.inr ⟨by rfl, rfl⟩) (HSB.out _ hd1) ?_
        simp only [List.getElem_toArray, List.getElem_cons_succ, List.getElem_cons_zero, Act.put, List.setIfInBounds_toArray, List.set_cons_zero, List.set_cons_succ]
        refine wpT_take (i := 13) (v := ?_) rfl (by kernel_rfl) (by kernel_rfl) (by kernel_rfl) (by kernel_rfl) (fun _ _ _ h => h) (Or.inl ⟨by rfl, ?_⟩) (HSB.out _ hd1) ?_
        rotate_left
        · (intro wq hSw; obtain ⟨q0, q1⟩ := hSw; go_simp; all_goals (first | (with_reducible rfl) | (rw [if_neg (by first | omega | (simp; omega) | (simp only [List.length_append, List.length_cons, List.length_nil]; omega))])))
        simp only [List.getElem_toArray, List.getElem_cons_succ, List.getElem_cons_zero, Act.put, List.setIfInBounds_toArray, List.set_cons_zero, List.set_cons_succ]
        refine wpT_take (i := 14) (v := ?_) rfl (by kernel_rfl) (by kernel_rfl) (by kernel_rfl) (by kernel_rfl) (fun _ _ _ h => h) (Or.inl ⟨by rfl, ?_⟩) (HSB.out _ hd1) ?_
        rotate_left
        · (intro wq hSw; obtain ⟨q0, q1⟩ := hSw; go_simp; all_goals (first | (with_reducible rfl) | (rw [if_neg (by first | omega | (simp; omega) | (simp only [List.length_append, List.length_cons, List.length_nil]; omega))])))
        simp only [List.getElem_toArray, List.getElem_cons_succ, List.getElem_cons_zero, Act.put, List.setIfInBounds_toArray, List.set_cons_zero, List.set_cons_succ]
        refine wpT_take (i := 15) (v := undef) rfl (by kernel_rfl) (by kernel_rfl) (by kernel_rfl) (by kernel_rfl) (fun _ _ _ h => h) (Or.inr ⟨by rfl, rfl⟩) (HSB.out _ hd1) ?_
        simp only [List.getElem_toArray, List.getElem_cons_succ, List.getElem_cons_zero, Act.put, List.setIfInBounds_toArray, List.set_cons_zero, List.set_cons_succ]
        refine wpT_take (i := 16) (v := undef) rfl (by kernel_rfl) (by kernel_rfl) (by kernel_rfl) (by kernel_rfl) (fun _ _ _ h => h) (Or.inr ⟨by rfl, rfl⟩) (HSB.out _ hd1) ?_
        simp only [List.getElem_toArray, List.getElem_cons_succ, List.getElem_cons_zero, Act.put, List.setIfInBounds_toArray, List.set_cons_zero, List.set_cons_succ]
        refine wpT_take (i := 17) (v := undef) rfl (by kernel_rfl) (by kernel_rfl) (by kernel_rfl) (by kernel_rfl) (fun _ _ _ h => h) (Or.inr ⟨by rfl, rfl⟩) (HSB.out _ hd1) ?_
        simp only [List.getElem_toArray, List.getElem_cons_succ, List.getElem_cons_zero, Act.put, List.setIfInBounds_toArray, List.set_cons_zero, List.set_cons_succ]
        refine wpT_take (i := 18) (v := undef) rfl (by kernel_rfl) (by kernel_rfl) (by kernel_rfl) (by kernel_rfl) (fun _ _ _ h => h) (Or.inr ⟨by rfl, rfl⟩) (HSB.out _ hd1) ?_
        simp only [List.getElem_toArray, List.getElem_cons_succ, List.getElem_cons_zero, Act.put, List.setIfInBounds_toArray, List.set_cons_zero, List.set_cons_succ]
        refine wpT_take (i := 19) (v := undef) rfl (by kernel_rfl) (by kernel_rfl) (by kernel_rfl) (by kernel_rfl) (fun _ _ _ h => h) (Or.inr ⟨by rfl, rfl⟩) (HSB.out _ hd1) ?_
        simp only [List.getElem_toArray, List.getElem_cons_succ, List.getElem_cons_zero, Act.put, List.setIfInBounds_toArray, List.set_cons_zero, List.set_cons_succ]
        refine wpT_take (i := 20) (v := undef) rfl (by kernel_rfl) (by kernel_rfl) (by kernel_rfl) (by kernel_rfl) (fun _ _ _ h => h) (Or.inr ⟨by rfl, rfl⟩) (HSB.out _ hd1) ?_
        simp only [List.getElem_toArray, List.getElem_cons_succ, List.getElem_cons_zero, Act.put, List.setIfInBounds_toArray, List.set_cons_zero, List.set_cons_succ]
        refine wpT_take (i := 21) (v := undef) rfl (by kernel_rfl) (by kernel_rfl) (by kernel_rfl) (by kernel_rfl) (fun _ _ _ h => h) (Or.inr ⟨by rfl, rfl⟩) (HSB.out _ hd1) ?_
        simp only [List.getElem_toArray, List.getElem_cons_succ, List.getElem_cons_zero, Act.put, List.setIfInBounds_toArray, List.set_cons_zero, List.set_cons_succ]
        refine wpT_take (i := 22) (v := undef) rfl (by kernel_rfl) (by kernel_rfl) (by kernel_rfl) (by kernel_rfl) (fun _ _ _ h => h) (Or.inr ⟨by rfl, rfl⟩) (HSB.out _ hd1) ?_
        simp only [List.getElem_toArray, List.getElem_cons_succ, List.getElem_cons_zero, Act.put, List.setIfInBounds_toArray, List.set_cons_zero, List.set_cons_succ]
        refine wpT_take (i := 23) (v := ?_) rfl (by kernel_rfl) (by kernel_rfl) (by kernel_rfl) (by kernel_rfl) (fun _ _ _ h => h) (Or.inl ⟨by rfl, ?_⟩) (HSB.out _ hd1) ?_
        rotate_left
        · (intro wq hSw; obtain ⟨q0, q1⟩ := hSw; go_simp; all_goals (first | (with_reducible rfl) | (rw [if_neg (by first | omega | (simp; omega) | (simp only [List.length_append, List.length_cons, List.length_nil]; omega))])))
        simp only [List.getElem_toArray, List.getElem_cons_succ, List.getElem_cons_zero, Act.put, List.setIfInBounds_toArray, List.set_cons_zero, List.set_cons_succ]
        refine wpT_done (by kernel_rfl) ?_
        have hbr := chain hbN hd1
        have hbw := chain hbw1 hbr
        have GZ2 := GZ1.keep hbr GZ1.lt
        clear HSB hbr
        generalize v1 = w2 at GZ2 hbw ⊢
        obtain ⟨y0, y1, y2, y3, y4, y5, y6, y7, y8⟩ := id GZ2
        simp only [Gl.kind, Gl.frm, Gl.rcv, Gl.sort, Gl.name, zeroGl] at y0 y1 y2 y3 y4
        have HR0 : Hid ((1 : Int) ≠ 0) := Lib.hid (by decide)
        have HRE : Hid (renE t F T = 1) := Lib.hid (HR1 (by simp only [prsUp, HFD.out, HTD.out]; simp [hb1]))
        go_wp2_with fail
        have GF := GZ2.fill zeroGl (.slice none 0 0) (.slice none 0 0)
        have hbG := below_fill7 hbw (b := w.heap.size + 1) (by omega) (.int .i64 0) (.string ⟨#[]⟩) (.string ⟨#[]⟩) (.int .i64 0) (.string ⟨#[]⟩) (.slice none 0 0) (.slice none 0 0)
        simp only [Gl.kind, Gl.frm, Gl.rcv, Gl.sort, Gl.name, zeroGl] at GF
        generalize (((((((w2.setCell ⟨w.heap.size + 1, 0, none⟩ (.int .i64 0)).setCell ⟨w.heap.size + 1, 1, none⟩ (.string ⟨#[]⟩)).setCell ⟨w.heap.size + 1, 2, none⟩ (.string ⟨#[]⟩)).setCell ⟨w.heap.size + 1, 3, none⟩ (.int .i64 0)).setCell ⟨w.heap.size + 1, 4, none⟩ (.string ⟨#[]⟩)).setCell ⟨w.heap.size + 1, 5, none⟩ (.slice none 0 0)).setCell ⟨w.heap.size + 1, 6, none⟩ (.slice none 0 0)) = wF at GF hbG ⊢
        obtain ⟨d0, d1, d2, d3, d4, d5, d6, d7, d8⟩ := GF
        simp only [Gl.kind, Gl.frm, Gl.rcv, Gl.sort, Gl.name] at d0 d1 d2 d3 d4
        refine bodyPost_ret (v := .tuple #[.agg #[.int .i64 0, .string ⟨#[]⟩, .string ⟨#[]⟩, .int .i64 0, .string ⟨#[]⟩, .slice none 0 0, .slice none 0 0], .int .i64 1]) (by simp [results, Tryd.results33, go_sem, d0, d1, d2, d3, d4, d5, d6]) rfl ?_
        refine ⟨hbG, _, by rw [HRE.out], ?_⟩
        rw [renR_bad HRE.out HR0.out]
        exact zero_gl _ _
      | true =>
        have H1 := Lib.hid hb1
        refine wpT_take (i := 0) (v := ?_) rfl (by kernel_rfl) (by kernel_rfl) (by kernel_rfl) (by kernel_rfl) (fun _ _ _ h => h) (Or.inl ⟨by rfl, ?_⟩) (HSB.out _ hd0) ?_
        rotate_left
        · (intro wq hSw; obtain ⟨q0, q1⟩ := hSw; go_simp; all_goals (first | (with_reducible rfl) | (rw [if_neg (by first | omega | (simp; omega) | (simp only [List.length_append, List.length_cons, List.length_nil]; omega))])))
        simp only [List.getElem_toArray, List.getElem_cons_succ, List.getElem_cons_zero, Act.put, List.setIfInBounds_toArray, List.set_cons_zero, List.set_cons_succ]
        refine wpT_take (i := 1) (v := ?_) rfl (by kernel_rfl) (by kernel_rfl) (by kernel_rfl) (by kernel_rfl) (fun _ _ _ h => h) (Or.inl ⟨by rfl, ?_⟩) (HSB.out _ hd0) ?_
        rotate_left
        · (intro wq hSw; obtain ⟨q0, q1⟩ := hSw; go_simp; all_goals (first | (with_reducible rfl) | (rw [if_neg (by first | omega | (simp; omega) | (simp only [List.length_append, List.length_cons, List.length_nil]; omega))])))
        simp only [List.getElem_toArray, List.getElem_cons_succ, List.getElem_cons_zero, Act.put, List.setIfInBounds_toArray, List.set_cons_zero, List.set_cons_succ]
        refine wpT_take (i := 2) (v := ?_) rfl (by kernel_rfl) (by kernel_rfl) (by kernel_rfl) (by kernel_rfl) (fun _ _ _ h => h) (Or.inl ⟨by rfl, ?_⟩) (HSB.out _ hd0) ?_
        rotate_left
        · (intro wq hSw; obtain ⟨q0, q1⟩ := hSw; go_simp; all_goals (first | (with_reducible rfl) | (rw [if_neg (by first | omega | (simp; omega) | (simp only [List.length_append, List.length_cons, List.length_nil]; omega))])))
        simp only [List.getElem_toArray, List.getElem_cons_succ, List.getElem_cons_zero, Act.put, List.setIfInBounds_toArray, List.set_cons_zero, List.set_cons_succ]
        refine wpT_take (i := 3) (v := ?_) rfl (by kernel_rfl) (by kernel_rfl) (by kernel_rfl) (by kernel_rfl) (fun _ _ _ h => h) (Or.inl ⟨by rfl, ?_⟩) (HSB.out _ hd0) ?_
        rotate_left
        · (intro wq hSw; obtain ⟨q0, q1⟩ := hSw; go_simp; all_goals (first | (with_reducible rfl) | (rw [if_neg (by first | omega | (simp; omega) | (simp only [List.length_append, List.length_cons, List.length_nil]; omega))])))
        simp only [List.getElem_toArray, List.getElem_cons_succ, List.getElem_cons_zero, Act.put, List.setIfInBounds_toArray, List.set_cons_zero, List.set_cons_succ]
        refine wpT_one (i := 4) rfl (by kernel_rfl) fun K hK => ?_
        go_simp
        refine (isRole_any f' v0 hfl).mono ?_
        rw [H1.out]
        rintro e v1 ⟨rfl, hq⟩
        have hd1 := chain hd0 hq
        clear hq
        refine hK.out _ _ (fun _ => HSB.out _ hd1) ?_
        clear hK K
        try simp only [List.getElem_toArray, List.getElem_cons_succ, List.getElem_cons_zero, Act.put, List.setIfInBounds_toArray, List.set_cons_zero, List.set_cons_succ]
        refine wpT_take (i := 5) (v := ?_) rfl (by kernel_rfl) (by kernel_rfl) (by kernel_rfl) (by kernel_rfl) (fun _ _ _ h => h) (Or.inl ⟨by rfl, ?_⟩) (HSB.out _ hd1) ?_
        rotate_left
        · (intro wq hSw; obtain ⟨q0, q1⟩ := hSw; go_simp; all_goals (first | (with_reducible rfl) | (rw [if_neg (by first | omega | (simp; omega) | (simp only [List.length_append, List.length_cons, List.length_nil]; omega))])))
        simp only [List.getElem_toArray, List.getElem_cons_succ, List.getElem_cons_zero, Act.put, List.setIfInBounds_toArray, List.set_cons_zero, List.set_cons_succ]
        refine wpT_take (i := 6) (v := ?_) rfl (by kernel_rfl) (by kernel_rfl) (by kernel_rfl) (by kernel_rfl) (fun _ _ _ h => h) (Or.inl ⟨by rfl, ?_⟩) (HSB.out _ hd1) ?_
        rotate_left
        · (intro wq hSw; obtain ⟨q0, q1⟩ := hSw; go_simp; all_goals (first | (with_reducible rfl) | (rw [if_neg (by first | omega | (simp; omega) | (simp only [List.length_append, List.length_cons, List.length_nil]; omega))])))
        simp only [List.getElem_toArray, List.getElem_cons_succ, List.getElem_cons_zero, Act.put, List.setIfInBounds_toArray, List.set_cons_zero, List.set_cons_succ]
        refine wpT_take (i := 7) (v := ?_) rfl (by kernel_rfl) (by kernel_rfl) (by kernel_rfl) (by kernel_rfl) (fun _ _ _ h => h) (Or.inl ⟨by rfl, ?_⟩) (HSB.out _ hd1) ?_
        rotate_left
        · (intro wq hSw; obtain ⟨q0, q1⟩ := hSw; go_simp; all_goals (first | (with_reducible rfl) | (rw [if_neg (by first | omega | (simp; omega) | (simp only [List.length_append, List.length_cons, List.length_nil]; omega))])))
        simp only [List.getElem_toArray, List.getElem_cons_succ, List.getElem_cons_zero, Act.put, List.setIfInBounds_toArray, List.set_cons_zero, List.set_cons_succ]
        refine wpT_take (i := 8) (v := ?_) rfl (by kernel_rfl) (by kernel_rfl) (by kernel_rfl) (by kernel_rfl) (fun _ _ _ h => h) (Or.inl ⟨by rfl, ?_⟩) (HSB.out _ hd1) ?_
        rotate_left
        · (intro wq hSw; obtain ⟨q0, q1⟩ := hSw; go_simp; all_goals (first | (with_reducible rfl) | (rw [if_neg (by first | omega | (simp; omega) | (simp only [List.length_append, List.length_cons, List.length_nil]; omega))])))
        simp only [List.getElem_toArray, List.getElem_cons_succ, List.getElem_cons_zero, Act.put, List.setIfInBounds_toArray, List.set_cons_zero, List.set_cons_succ]
        refine wpT_take (i := 9) (v := ?_) rfl (by kernel_rfl) (by kernel_rfl) (by kernel_rfl) (by kernel_rfl) (fun _ _ _ h => h) (Or.inl ⟨by rfl, ?_⟩) (HSB.out _ hd1) ?_
        rotate_left
        · (intro wq hSw; obtain ⟨q0, q1⟩ := hSw; go_simp; all_goals (first | (with_reducible rfl) | (rw [if_neg (by first | omega | (simp; omega) | (simp only [List.length_append, List.length_cons, List.length_nil]; omega))])))
        simp only [List.getElem_toArray, List.getElem_cons_succ, List.getElem_cons_zero, Act.put, List.setIfInBounds_toArray, List.set_cons_zero, List.set_cons_succ]
        refine wpT_take (i := 10) (v := ?_) rfl (by kernel_rfl) (by kernel_rfl) (by kernel_rfl) (by kernel_rfl) (fun _ _ _ h => h) (Or.inl ⟨by rfl, ?_⟩) (HSB.out _ hd1) ?_
        rotate_left
        · (intro wq hSw; obtain ⟨q0, q1⟩ := hSw; go_simp; all_goals (first | (with_reducible rfl) | (rw [if_neg (by first | omega | (simp; omega) | (simp only [List.length_append, List.length_cons, List.length_nil]; omega))])))
        simp only [List.getElem_toArray, List.getElem_cons_succ, List.getElem_cons_zero, Act.put, List.setIfInBounds_toArray, List.set_cons_zero, List.set_cons_succ]
        cases hb2 : isRole t' with
        | false =>
          have H2 := Lib.hid hb2
          refine wpT_one (i := 11) rfl (by kernel_rfl) fun K hK => ?_
          go_simp
          refine (isRole_any t' v1 htl).mono ?_
          rw [H2.out]
          rintro e v2 ⟨rfl, hq⟩
          have hd2 := chain hd1 hq
          clear hq
          refine hK.out _ _ (fun _ => HSB.out _ hd2) ?_
          clear hK K
          try simp only [List.getElem_toArray, List.getElem_cons_succ, List.getElem_cons_zero, Act.put, List.setIfInBounds_toArray, List.set_cons_zero, List.set_cons_succ]
          refine wpT_take (i := 12) (v := ?_) rfl (by kernel_rfl) (by kernel_rfl) (by kernel_rfl) (by kernel_rfl) (fun _ _ _ h => h) (Or.inl ⟨by rfl, ?_⟩) (HSB.out _ hd2) ?_
          rotate_left
          · (intro wq hSw; obtain ⟨q0, q1⟩ := hSw; go_simp; all_goals (first | (with_reducible rfl) | (rw [if_neg (by first | omega | (simp; omega) | (simp only [List.length_append, List.length_cons, List.length_nil]; omega))])))
          simp only [List.getElem_toArray, List.getElem_cons_succ, List.getElem_cons_zero, Act.put, List.setIfInBounds_toArray, List.set_cons_zero, List.set_cons_succ]
          refine wpT_take (i := 13) (v := ?_) rfl (by kernel_rfl) (by kernel_rfl) (by kernel_rfl) (by kernel_rfl) (fun _ _ _ h => h) (Or.inl ⟨by rfl, ?_⟩) (HSB.out _ hd2) ?_
          rotate_left
          · (intro wq hSw; obtain ⟨q0, q1⟩ := hSw; go_simp; all_goals (first | (with_reducible rfl) | (rw [if_neg (by first | omega | (simp; omega) | (simp only [List.length_append, List.length_cons, List.length_nil]; omega))])))
          simp only [List.getElem_toArray, List.getElem_cons_succ, List.getElem_cons_zero, Act.put, List.setIfInBounds_toArray, List.set_cons_zero, List.set_cons_succ]
          refine wpT_take (i := 14) (v := ?_) rfl (by kernel_rfl) (by kernel_rfl) (by kernel_rfl) (by kernel_rfl) (fun _ _ _ h => h) (Or.inl ⟨by rfl, ?_⟩) (HSB.out _ hd2) ?_
          rotate_left
          · (intro wq hSw; obtain ⟨q0, q1⟩ := hSw; go_simp; all_goals (first | (with_reducible rfl) | (rw [if_neg (by first | omega | (simp; omega) | (simp only [List.length_append, List.length_cons, List.length_nil]; omega))])))
          simp only [List.getElem_toArray, List.getElem_cons_succ, List.getElem_cons_zero, Act.put, List.setIfInBounds_toArray, List.set_cons_zero, List.set_cons_succ]
          refine wpT_take (i := 15) (v := undef) rfl (by kernel_rfl) (by kernel_rfl) (by kernel_rfl) (by kernel_rfl) (fun _ _ _ h => h) (Or.inr ⟨by rfl, rfl⟩) (HSB.out _ hd2) ?_
          simp only [List.getElem_toArray, List.getElem_cons_succ, List.getElem_cons_zero, Act.put, List.setIfInBounds_toArray, List.set_cons_zero, List.set_cons_succ]
          refine wpT_take (i := 16) (v := undef) rfl (by kernel_rfl) (by kernel_rfl) (by kernel_rfl) (by kernel_rfl) (fun _ _ _ h => h) (Or.inr ⟨by rfl, rfl⟩) (HSB.out _ hd2) ?_
          simp only [List.getElem_toArray, List.getElem_cons_succ, List.getElem_cons_zero, Act.put, List.setIfInBounds_toArray, List.set_cons_zero, List.set_cons_succ]
          refine wpT_take (i := 17) (v := undef) rfl (by kernel_rfl) (by kernel_rfl) (by kernel_rfl) (by kernel_rfl) (fun _ _ _ h => h) (Or.inr ⟨by rfl, rfl⟩) (HSB.out _ hd2) ?_
          simp only [List.getElem_toArray, List.getElem_cons_succ, List.getElem_cons_zero, Act.put, List.setIfInBounds_toArray, List.set_cons_zero, List.set_cons_succ]
          refine wpT_take (i := 18) (v := undef) rfl (by kernel_rfl) (by kernel_rfl) (by kernel_rfl) (by kernel_rfl) (fun _ _ _ h => h) (Or.inr ⟨by rfl, rfl⟩) (HSB.out _ hd2) ?_
          simp only [List.getElem_toArray, List.getElem_cons_succ, List.getElem_cons_zero, Act.put, List.setIfInBounds_toArray, List.set_cons_zero, List.set_cons_succ]
          refine wpT_take (i := 19) (v := undef) rfl (by kernel_rfl) (by kernel_rfl) (by kernel_rfl) (by kernel_rfl) (fun _ _ _ h => h) (Or.inr ⟨by rfl, rfl⟩) (HSB.out _ hd2) ?_
          simp only [List.getElem_toArray, List.getElem_cons_succ, List.getElem_cons_zero, Act.put, List.setIfInBounds_toArray, List.set_cons_zero, List.set_cons_succ]
          refine wpT_take (i := 20) (v := undef) rfl (by kernel_rfl) (by kernel_rfl) (by kernel_rfl) (by kernel_rfl) (fun _ _ _ h => h) (Or.inr ⟨by rfl, rfl⟩) (HSB.out _ hd2) ?_
          simp only [List.getElem_toArray, List.getElem_cons_succ, List.getElem_cons_zero, Act.put, List.setIfInBounds_toArray, List.set_cons_zero, List.set_cons_succ]
          refine wpT_take (i := 21) (v := undef) rfl (by kernel_rfl) (by kernel_rfl) (by kernel_rfl) (by kernel_rfl) (fun _ _ _ h => h) (Or.inr ⟨by rfl, rfl⟩) (HSB.out _ hd2) ?_
          simp only [List.getElem_toArray, List.getElem_cons_succ, List.getElem_cons_zero, Act.put, List.setIfInBounds_toArray, List.set_cons_zero, List.set_cons_succ]
          refine wpT_take (i := 22) (v := undef) rfl (by kernel_rfl) (by kernel_rfl) (by kernel_rfl) (by kernel_rfl) (fun _ _ _ h => h) (Or.inr ⟨by rfl, rfl⟩) (HSB.out _ hd2) ?_
          simp only [List.getElem_toArray, List.getElem_cons_succ, List.getElem_cons_zero, Act.put, List.setIfInBounds_toArray, List.set_cons_zero, List.set_cons_succ]
          refine wpT_take (i := 23) (v := ?_) rfl (by kernel_rfl) (by kernel_rfl) (by kernel_rfl) (by kernel_rfl) (fun _ _ _ h => h) (Or.inl ⟨by rfl, ?_⟩) (HSB.out _ hd2) ?_
          rotate_left
          · (intro wq hSw; obtain ⟨q0, q1⟩ := hSw; go_simp; all_goals (first | (with_reducible rfl) | (rw [if_neg (by first | omega | (simp; omega) | (simp only [List.length_append, List.length_cons, List.length_nil]; omega))])))
          simp only [List.getElem_toArray, List.getElem_cons_succ, List.getElem_cons_zero, Act.put, List.setIfInBounds_toArray, List.set_cons_zero, List.set_cons_succ]
          refine wpT_done (by kernel_rfl) ?_
          have hbr := chain hbN hd2
          have hbw := chain hbw1 hbr
          have GZ2 := GZ1.keep hbr GZ1.lt
          clear HSB hbr
          generalize v2 = w2 at GZ2 hbw ⊢
          obtain ⟨y0, y1, y2, y3, y4, y5, y6, y7, y8⟩ := id GZ2
          simp only [Gl.kind, Gl.frm, Gl.rcv, Gl.sort, Gl.name, zeroGl] at y0 y1 y2 y3 y4
          have HR0 : Hid ((1 : Int) ≠ 0) := Lib.hid (by decide)
          have HRE : Hid (renE t F T = 1) := Lib.hid (HR1 (by simp only [prsUp, HFD.out, HTD.out]; simp [hb1, hb2]))
          go_wp2_with fail
          have GF := GZ2.fill zeroGl (.slice none 0 0) (.slice none 0 0)
          have hbG := below_fill7 hbw (b := w.heap.size + 1) (by omega) (.int .i64 0) (.string ⟨#[]⟩) (.string ⟨#[]⟩) (.int .i64 0) (.string ⟨#[]⟩) (.slice none 0 0) (.slice none 0 0)
          simp only [Gl.kind, Gl.frm, Gl.rcv, Gl.sort, Gl.name, zeroGl] at GF
          generalize (((((((w2.setCell ⟨w.heap.size + 1, 0, none⟩ (.int .i64 0)).setCell ⟨w.heap.size + 1, 1, none⟩ (.string ⟨#[]⟩)).setCell ⟨w.heap.size + 1, 2, none⟩ (.string ⟨#[]⟩)).setCell ⟨w.heap.size + 1, 3, none⟩ (.int .i64 0)).setCell ⟨w.heap.size + 1, 4, none⟩ (.string ⟨#[]⟩)).setCell ⟨w.heap.size + 1, 5, none⟩ (.slice none 0 0)).setCell ⟨w.heap.size + 1, 6, none⟩ (.slice none 0 0)) = wF at GF hbG ⊢
          obtain ⟨d0, d1, d2, d3, d4, d5, d6, d7, d8⟩ := GF
          simp only [Gl.kind, Gl.frm, Gl.rcv, Gl.sort, Gl.name] at d0 d1 d2 d3 d4
          refine bodyPost_ret (v := .tuple #[.agg #[.int .i64 0, .string ⟨#[]⟩, .string ⟨#[]⟩, .int .i64 0, .string ⟨#[]⟩, .slice none 0 0, .slice none 0 0], .int .i64 1]) (by simp [results, Tryd.results33, go_sem, d0, d1, d2, d3, d4, d5, d6]) rfl ?_
          refine ⟨hbG, _, by rw [HRE.out], ?_⟩
          rw [renR_bad HRE.out HR0.out]
          exact zero_gl _ _
        | true =>
          have H2 := Lib.hid hb2
          refine wpT_one (i := 11) rfl (by kernel_rfl) fun K hK => ?_
          go_simp
          refine (isRole_any t' v1 htl).mono ?_
          rw [H2.out]
          rintro e v2 ⟨rfl, hq⟩
          have hd2 := chain hd1 hq
          clear hq
          refine hK.out _ _ (fun _ => HSB.out _ hd2) ?_
          clear hK K
          try simp only [List.getElem_toArray, List.getElem_cons_succ, List.getElem_cons_zero, Act.put, List.setIfInBounds_toArray, List.set_cons_zero, List.set_cons_succ]
          refine wpT_take (i := 12) (v := ?_) rfl (by kernel_rfl) (by kernel_rfl) (by kernel_rfl) (by kernel_rfl) (fun _ _ _ h => h) (Or.inl ⟨by rfl, ?_⟩) (HSB.out _ hd2) ?_
          rotate_left
          · (intro wq hSw; obtain ⟨q0, q1⟩ := hSw; go_simp; all_goals (first | (with_reducible rfl) | (rw [if_neg (by first | omega | (simp; omega) | (simp only [List.length_append, List.length_cons, List.length_nil]; omega))])))
          simp only [List.getElem_toArray, List.getElem_cons_succ, List.getElem_cons_zero, Act.put, List.setIfInBounds_toArray, List.set_cons_zero, List.set_cons_succ]
          refine wpT_take (i := 13) (v := ?_) rfl (by kernel_rfl) (by kernel_rfl) (by kernel_rfl) (by kernel_rfl) (fun _ _ _ h => h) (Or.inl ⟨by rfl, ?_⟩) (HSB.out _ hd2) ?_
          rotate_left
          · (intro wq hSw; obtain ⟨q0, q1⟩ := hSw; go_simp; all_goals (first | (with_reducible rfl) | (rw [if_neg (by first | omega | (simp; omega) | (simp only [List.length_append, List.length_cons, List.length_nil]; omega))])))
          simp only [List.getElem_toArray, List.getElem_cons_succ, List.getElem_cons_zero, Act.put, List.setIfInBounds_toArray, List.set_cons_zero, List.set_cons_succ]
          refine wpT_take (i := 14) (v := ?_) rfl (by kernel_rfl) (by kernel_rfl) (by kernel_rfl) (by kernel_rfl) (fun _ _ _ h => h) (Or.inl ⟨by rfl, ?_⟩) (HSB.out _ hd2) ?_
          rotate_left
          · (intro wq hSw; obtain ⟨q0, q1⟩ := hSw; go_simp; all_goals (first | (with_reducible rfl) | (rw [if_neg (by first | omega | (simp; omega) | (simp only [List.length_append, List.length_cons, List.length_nil]; omega))])))
          simp only [List.getElem_toArray, List.getElem_cons_succ, List.getElem_cons_zero, Act.put, List.setIfInBounds_toArray, List.set_cons_zero, List.set_cons_succ]
          refine wpT_take (i := 15) (v := ?_) rfl (by kernel_rfl) (by kernel_rfl) (by kernel_rfl) (by kernel_rfl) (fun _ _ _ h => h) (Or.inl ⟨by rfl, ?_⟩) (HSB.out _ hd2) ?_
          rotate_left
          · (intro wq hSw; obtain ⟨q0, q1⟩ := hSw; go_simp; all_goals (first | (with_reducible rfl) | (rw [if_neg (by first | omega | (simp; omega) | (simp only [List.length_append, List.length_cons, List.length_nil]; omega))])))
          simp only [List.getElem_toArray, List.getElem_cons_succ, List.getElem_cons_zero, Act.put, List.setIfInBounds_toArray, List.set_cons_zero, List.set_cons_succ]
          refine wpT_take (i := 16) (v := ?_) rfl (by kernel_rfl) (by kernel_rfl) (by kernel_rfl) (by kernel_rfl) (fun _ _ _ h => h) (Or.inl ⟨by rfl, ?_⟩) (HSB.out _ hd2) ?_
          rotate_left
          · (intro wq hSw; obtain ⟨q0, q1⟩ := hSw; go_simp; all_goals (first | (with_reducible rfl) | (rw [if_neg (by first | omega | (simp; omega) | (simp only [List.length_append, List.length_cons, List.length_nil]; omega))])))
          simp only [List.getElem_toArray, List.getElem_cons_succ, List.getElem_cons_zero, Act.put, List.setIfInBounds_toArray, List.set_cons_zero, List.set_cons_succ]
          refine wpT_take (i := 17) (v := ?_) rfl (by kernel_rfl) (by kernel_rfl) (by kernel_rfl) (by kernel_rfl) (fun _ _ _ h => h) (Or.inl ⟨by rfl, ?_⟩) (HSB.out _ hd2) ?_
          rotate_left
          · (intro wq hSw; obtain ⟨q0, q1⟩ := hSw; go_simp; all_goals (first | (with_reducible rfl) | (rw [if_neg (by first | omega | (simp; omega) | (simp only [List.length_append, List.length_cons, List.length_nil]; omega))])))
          simp only [List.getElem_toArray, List.getElem_cons_succ, List.getElem_cons_zero, Act.put, List.setIfInBounds_toArray, List.set_cons_zero, List.set_cons_succ]
          refine wpT_take (i := 18) (v := ?_) rfl (by kernel_rfl) (by kernel_rfl) (by kernel_rfl) (by kernel_rfl) (fun _ _ _ h => h) (Or.inl ⟨by rfl, ?_⟩) (HSB.out _ hd2) ?_
          rotate_left
          · (intro wq hSw; obtain ⟨q0, q1⟩ := hSw; go_simp; all_goals (first | (with_reducible rfl) | (rw [if_neg (by first | omega | (simp; omega) | (simp only [List.length_append, List.length_cons, List.length_nil]; omega))])))
          simp only [List.getElem_toArray, List.getElem_cons_succ, List.getElem_cons_zero, Act.put, List.setIfInBounds_toArray, List.set_cons_zero, List.set_cons_succ]
          refine wpT_take (i := 19) (v := ?_) rfl (by kernel_rfl) (by kernel_rfl) (by kernel_rfl) (by kernel_rfl) (fun _ _ _ h => h) (Or.inl ⟨by rfl, ?_⟩) (HSB.out _ hd2) ?_
          rotate_left
          · (intro wq hSw; obtain ⟨q0, q1⟩ := hSw; go_simp; all_goals (first | (with_reducible rfl) | (rw [if_neg (by first | omega | (simp; omega) | (simp only [List.length_append, List.length_cons, List.length_nil]; omega))])))
          simp only [List.getElem_toArray, List.getElem_cons_succ, List.getElem_cons_zero, Act.put, List.setIfInBounds_toArray, List.set_cons_zero, List.set_cons_succ]
          refine wpT_take (i := 20) (v := ?_) rfl (by kernel_rfl) (by kernel_rfl) (by kernel_rfl) (by kernel_rfl) (fun _ _ _ h => h) (Or.inl ⟨by rfl, ?_⟩) (HSB.out _ hd2) ?_
          rotate_left
          · (intro wq hSw; obtain ⟨q0, q1⟩ := hSw; go_simp; all_goals (first | (with_reducible rfl) | (rw [if_neg (by first | omega | (simp; omega) | (simp only [List.length_append, List.length_cons, List.length_nil]; omega))])))
          simp only [List.getElem_toArray, List.getElem_cons_succ, List.getElem_cons_zero, Act.put, List.setIfInBounds_toArray, List.set_cons_zero, List.set_cons_succ]
          refine wpT_take (i := 21) (v := ?_) rfl (by kernel_rfl) (by kernel_rfl) (by kernel_rfl) (by kernel_rfl) (fun _ _ _ h => h) (Or.inl ⟨by rfl, ?_⟩) (HSB.out _ hd2) ?_
          rotate_left
          · (intro wq hSw; obtain ⟨q0, q1⟩ := hSw; go_simp; all_goals (first | (with_reducible rfl) | (rw [if_neg (by first | omega | (simp; omega) | (simp only [List.length_append, List.length_cons, List.length_nil]; omega))])))
          simp only [List.getElem_toArray, List.getElem_cons_succ, List.getElem_cons_zero, Act.put, List.setIfInBounds_toArray, List.set_cons_zero, List.set_cons_succ]
          cases hb3 : decide (f' ∈ F.take q) with
          | true =>
            have H3 := Lib.hid hb3
            refine wpT_one (i := 22) rfl (by kernel_rfl) fun K hK => ?_
            go_simp
            refine (HCT.out v2 hd2).mono ?_
            rw [H3.out]
            rintro e v3 ⟨rfl, rfl⟩
            have hd3 := hd2
            refine hK.out _ _ (fun _ => HSB.out _ hd3) ?_
            clear hK K
            try simp only [List.getElem_toArray, List.getElem_cons_succ, List.getElem_cons_zero, Act.put, List.setIfInBounds_toArray, List.set_cons_zero, List.set_cons_succ]
            refine wpT_take (i := 23) (v := ?_) rfl (by kernel_rfl) (by kernel_rfl) (by kernel_rfl) (by kernel_rfl) (fun _ _ _ h => h) (Or.inl ⟨by rfl, ?_⟩) (HSB.out _ hd3) ?_
            rotate_left
            · (intro wq hSw; obtain ⟨q0, q1⟩ := hSw; go_simp; all_goals (first | (with_reducible rfl) | (rw [if_neg (by first | omega | (simp; omega) | (simp only [List.length_append, List.length_cons, List.length_nil]; omega))])))
            simp only [List.getElem_toArray, List.getElem_cons_succ, List.getElem_cons_zero, Act.put, List.setIfInBounds_toArray, List.set_cons_zero, List.set_cons_succ]
            refine wpT_done (by kernel_rfl) ?_
            have hbr := chain hbN hd3
            have hbw := chain hbw1 hbr
            have GZ2 := GZ1.keep hbr GZ1.lt
            clear HSB hbr
            generalize v3 = w2 at GZ2 hbw ⊢
            obtain ⟨y0, y1, y2, y3, y4, y5, y6, y7, y8⟩ := id GZ2
            simp only [Gl.kind, Gl.frm, Gl.rcv, Gl.sort, Gl.name, zeroGl] at y0 y1 y2 y3 y4
            have HR0 : Hid ((1 : Int) ≠ 0) := Lib.hid (by decide)
            have HRE : Hid (renE t F T = 1) := Lib.hid (HR1 (by simp only [prsUp, HFD.out, HTD.out]; simp [hb1, hb2, hb3]))
            go_wp2_with fail
            have GF := GZ2.fill zeroGl (.slice none 0 0) (.slice none 0 0)
            have hbG := below_fill7 hbw (b := w.heap.size + 1) (by omega) (.int .i64 0) (.string ⟨#[]⟩) (.string ⟨#[]⟩) (.int .i64 0) (.string ⟨#[]⟩) (.slice none 0 0) (.slice none 0 0)
            simp only [Gl.kind, Gl.frm, Gl.rcv, Gl.sort, Gl.name, zeroGl] at GF
            generalize (((((((w2.setCell ⟨w.heap.size + 1, 0, none⟩ (.int .i64 0)).setCell ⟨w.heap.size + 1, 1, none⟩ (.string ⟨#[]⟩)).setCell ⟨w.heap.size + 1, 2, none⟩ (.string ⟨#[]⟩)).setCell ⟨w.heap.size + 1, 3, none⟩ (.int .i64 0)).setCell ⟨w.heap.size + 1, 4, none⟩ (.string ⟨#[]⟩)).setCell ⟨w.heap.size + 1, 5, none⟩ (.slice none 0 0)).setCell ⟨w.heap.size + 1, 6, none⟩ (.slice none 0 0)) = wF at GF hbG ⊢
            obtain ⟨d0, d1, d2, d3, d4, d5, d6, d7, d8⟩ := GF
            simp only [Gl.kind, Gl.frm, Gl.rcv, Gl.sort, Gl.name] at d0 d1 d2 d3 d4
            refine bodyPost_ret (v := .tuple #[.agg #[.int .i64 0, .string ⟨#[]⟩, .string ⟨#[]⟩, .int .i64 0, .string ⟨#[]⟩, .slice none 0 0, .slice none 0 0], .int .i64 1]) (by simp [results, Tryd.results33, go_sem, d0, d1, d2, d3, d4, d5, d6]) rfl ?_
            refine ⟨hbG, _, by rw [HRE.out], ?_⟩
            rw [renR_bad HRE.out HR0.out]
            exact zero_gl _ _
          | false =>
            have H3 := Lib.hid hb3
            refine wpT_one (i := 22) rfl (by kernel_rfl) fun K hK => ?_
            go_simp
            refine (HCT.out v2 hd2).mono ?_
            rw [H3.out]
            rintro e v3 ⟨rfl, rfl⟩
            have hd3 := hd2
            refine hK.out _ _ (fun _ => HSB.out _ hd3) ?_
            clear hK K
            try simp only [List.getElem_toArray, List.getElem_cons_succ, List.getElem_cons_zero, Act.put, List.setIfInBounds_toArray, List.set_cons_zero, List.set_cons_succ]
            refine wpT_take (i := 23) (v := ?_) rfl (by kernel_rfl) (by kernel_rfl) (by kernel_rfl) (by kernel_rfl) (fun _ _ _ h => h) (Or.inl ⟨by rfl, ?_⟩) (HSB.out _ hd3) ?_
            rotate_left
            · (intro wq hSw; obtain ⟨q0, q1⟩ := hSw; go_simp; all_goals (first | (with_reducible rfl) | (rw [if_neg (by first | omega | (simp; omega) | (simp only [List.length_append, List.length_cons, List.length_nil]; omega))])))
            simp only [List.getElem_toArray, List.getElem_cons_succ, List.getElem_cons_zero, Act.put, List.setIfInBounds_toArray, List.set_cons_zero, List.set_cons_succ]
            refine wpT_done (by kernel_rfl) ?_
            have hbr := chain hbN hd3
            have hok : prsUp F T (q + 1) = true := by simp only [prsUp, HFD.out, HTD.out]; simp [HPR.out, hb1, hb2, hb3]
            clear HSB HR1
            go_wp2_with fail
            go_roundw
            case rel => exact ⟨q + 1, by omega, by go_num, hok, hbr⟩
            case measure => simp [intOf]; omega
    · have hqL : q = L := by omega
      subst hqL
      clear hlt
      have GT2 := GT1.keep hbN GT1.lt
      have GZ2 := GZ1.keep hbN GZ1.lt
      have hbw := chain hbw1 hbN
      have hs2 := hbN.size
      obtain ⟨g0, g1, g2, g3, g4, g5, g6, g7, g8⟩ := id GT2
      have hRE0 := HR2.out HPR.out
      have hZ := IsGl.keep HZ.out hbw
      have hsm : Same (· < w.heap.size) w wr := fun b hb _ => hbw.block b hb
      have hcall := renamed_any F T HLE.out (by rw [HLF.out]; exact hFl) w.heap.size (gparts t) t (.agg #[.int .i64 t.kind, .string ⟨t.frm.toArray⟩, .string ⟨t.rcv.toArray⟩, .int .i64 t.sort, .string ⟨t.name.toArray⟩, .slice A0 t.labels.length p0, .slice A t.kids.length cap]) (.slice AF q cF) (.slice AT q cT) wr (Nat.le_refl _) hgood hbw.size ((GlV.here HZ.out).keep hsm (fun _ h _ => h)) ((HF.out.toD.keep (D' := (· < w.heap.size)) (Same.refl _ _) (fun _ _ h => h)).keep hsm (fun _ h _ => h)) ((HT.out.toD.keep (D' := (· < w.heap.size)) (Same.refl _ _) (fun _ _ h => h)).keep hsm (fun _ h _ => h))
      unfold ASays at hcall
      obtain ⟨U, hU⟩ : ∃ x, rnG F T t = x := ⟨_, rfl⟩
      rw [hU] at hcall hfitU hRE0
      have HU := Lib.hid hU
      have HCA := Lib.hid hcall
      clear hcall hU hsm hZ x0 x1 x2 x3 x4 x5 x6 x7 x8 z0 z1 z2 z3 z4 z5 z6 z7 z8
      go_wp2_with fail
      refine HCA.out.mono ?_
      rintro e w3 ⟨hq3, v', rfl, hUV⟩
      obtain ⟨lv2, kv2, rfl, m1, m2⟩ := hUV
      have M1 := Lib.hid m1
      have M2 := Lib.hid m2
      obtain ⟨D1, e1, rfl, -, -⟩ := m1
      obtain ⟨D2, e2, rfl, -, -⟩ := m2
      have GZ3 := GZ2.keep hq3 GZ2.lt
      have hbw3 := chain hbw hq3
      have hs3 := hq3.size
      clear g0 g1 g2 g3 g4 g5 g6 g7 g8 HCA
      go_wp2_with fail
      have hba : Below w3.heap.size w3 (w3.alloc (.cells #[.int .i64 U.kind, .string ⟨U.frm.toArray⟩, .string ⟨U.rcv.toArray⟩, .int .i64 U.sort, .string ⟨U.name.toArray⟩, .slice D1 U.labels.length e1, .slice D2 U.kids.length e2] 52)) := (Below.refl _ _).alloc (Nat.le_refl _) _
      have GU := new_gval w3 U (.slice D1 U.labels.length e1) (.slice D2 U.kids.length e2) 52
      have GZ4 := GZ3.keep hba GZ3.lt
      have hbw4 := chain hbw3 hba
      have N1 := M1.out.keep (Same.below hba) (fun _ h _ => h)
      have N2 := M2.out.keep (Same.below hba) (fun _ h _ => h)
      have hTs : w3.heap.size < (w3.alloc (.cells #[.int .i64 U.kind, .string ⟨U.frm.toArray⟩, .string ⟨U.rcv.toArray⟩, .int .i64 U.sort, .string ⟨U.name.toArray⟩, .slice D1 U.labels.length e1, .slice D2 U.kids.length e2] 52)).heap.size := by simp
      generalize w3.alloc (.cells #[.int .i64 U.kind, .string ⟨U.frm.toArray⟩, .string ⟨U.rcv.toArray⟩, .int .i64 U.sort, .string ⟨U.name.toArray⟩, .slice D1 U.labels.length e1, .slice D2 U.kids.length e2] 52) = w4 at GU GZ4 hbw4 N1 N2 hTs ⊢
      obtain ⟨TB, hTB⟩ : ∃ x, w3.heap.size = x := ⟨_, rfl⟩
      rw [hTB] at GU hTs ⊢
      have hTBw : wr.heap.size ≤ TB := by omega
      clear hTB hba
      have HN1 := Lib.hid N1
      have HN2 := Lib.hid N2
      clear N1 N2 M1 M2
      refine (gCheck_any U _ w4 (glV_of HN1.out HN2.out) hfitU).mono ?_
      obtain ⟨E, hE⟩ : ∃ x, glErr U = x := ⟨_, rfl⟩
      rw [hE] at hRE0 ⊢
      rintro e w5 ⟨rfl, hb5⟩
      have GU5 := GU.keep hb5 GU.lt
      have GZ5 := GZ4.keep hb5 GZ4.lt
      have hbw5 := chain hbw4 hb5
      have L1 := HN1.out.keep (Same.below hb5) (fun _ h _ => h)
      have L2 := HN2.out.keep (Same.below hb5) (fun _ h _ => h)
      have hs5 := hb5.size
      clear hb5 HN1 HN2 GU GZ4
      obtain ⟨y0, y1, y2, y3, y4, y5, y6, y7, y8⟩ := id GZ5
      obtain ⟨u0, u1, u2, u3, u4, u5, u6, u7, u8⟩ := id GU5
      simp only [Gl.kind, Gl.frm, Gl.rcv, Gl.sort, Gl.name, zeroGl] at y0 y1 y2 y3 y4
      by_cases h0 : E = 0
      case pos =>
        subst h0
        have HRE : Hid (renE t F T = 0) := Lib.hid (by rw [hRE0, if_pos rfl])
        clear hRE0 hE
        go_wp2_with fail
        have GF := GZ5.fill U (.slice D1 U.labels.length e1) (.slice D2 U.kids.length e2)
        have hbG := below_fill7 hbw5 (b := w.heap.size + 1) (by omega) (.int .i64 U.kind) (.string ⟨U.frm.toArray⟩) (.string ⟨U.rcv.toArray⟩) (.int .i64 U.sort) (.string ⟨U.name.toArray⟩) (.slice D1 U.labels.length e1) (.slice D2 U.kids.length e2)
        have hSF : Same (fun k => k < w.heap.size ∨ wr.heap.size ≤ k) w5 _ := Same.fill7 (b := w.heap.size + 1) (by show ¬ (_ ∨ _); omega) (.int .i64 U.kind) (.string ⟨U.frm.toArray⟩) (.string ⟨U.rcv.toArray⟩) (.int .i64 U.sort) (.string ⟨U.name.toArray⟩) (.slice D1 U.labels.length e1) (.slice D2 U.kids.length e2)
        have K3 := L1.keep (D' := All) hSF (fun _ _ _ => trivial)
        have K4 := L2.keep (D' := All) hSF (fun _ _ _ => trivial)
        generalize (((((((w5.setCell ⟨w.heap.size + 1, 0, none⟩ (.int .i64 U.kind)).setCell ⟨w.heap.size + 1, 1, none⟩ (.string ⟨U.frm.toArray⟩)).setCell ⟨w.heap.size + 1, 2, none⟩ (.string ⟨U.rcv.toArray⟩)).setCell ⟨w.heap.size + 1, 3, none⟩ (.int .i64 U.sort)).setCell ⟨w.heap.size + 1, 4, none⟩ (.string ⟨U.name.toArray⟩)).setCell ⟨w.heap.size + 1, 5, none⟩ (.slice D1 U.labels.length e1)).setCell ⟨w.heap.size + 1, 6, none⟩ (.slice D2 U.kids.length e2)) = wF at GF hbG K3 K4 ⊢
        clear hSF
        obtain ⟨d0, d1, d2, d3, d4, d5, d6, d7, d8⟩ := GF
        refine bodyPost_ret (v := .tuple #[.agg #[.int .i64 U.kind, .string ⟨U.frm.toArray⟩, .string ⟨U.rcv.toArray⟩, .int .i64 U.sort, .string ⟨U.name.toArray⟩, .slice D1 U.labels.length e1, .slice D2 U.kids.length e2], .int .i64 0]) (by simp [results, Tryd.results33, go_sem, d0, d1, d2, d3, d4, d5, d6]) rfl ?_
        refine ⟨hbG, _, by rw [HRE.out], ?_⟩
        have hRR : renR t F T = U := by unfold renR; rw [HRE.out, if_pos rfl, HU.out]
        rw [hRR]
        exact ⟨_, _, rfl, K3, K4⟩
      case neg =>
        have hb : (E != 0) = true := by rw [bne_iff_ne]; exact h0
        have HRE : Hid (renE t F T = 4) := Lib.hid (by rw [hRE0, if_neg h0])
        have HR0 : Hid ((4 : Int) ≠ 0) := Lib.hid (by decide)
        clear hRE0 hE h0
        go_wp2_with fail
        have GF := GZ5.fill zeroGl (.slice none 0 0) (.slice none 0 0)
        have hbG := below_fill7 hbw5 (b := w.heap.size + 1) (by omega) (.int .i64 0) (.string ⟨#[]⟩) (.string ⟨#[]⟩) (.int .i64 0) (.string ⟨#[]⟩) (.slice none 0 0) (.slice none 0 0)
        simp only [Gl.kind, Gl.frm, Gl.rcv, Gl.sort, Gl.name, zeroGl] at GF
        generalize (((((((w5.setCell ⟨w.heap.size + 1, 0, none⟩ (.int .i64 0)).setCell ⟨w.heap.size + 1, 1, none⟩ (.string ⟨#[]⟩)).setCell ⟨w.heap.size + 1, 2, none⟩ (.string ⟨#[]⟩)).setCell ⟨w.heap.size + 1, 3, none⟩ (.int .i64 0)).setCell ⟨w.heap.size + 1, 4, none⟩ (.string ⟨#[]⟩)).setCell ⟨w.heap.size + 1, 5, none⟩ (.slice none 0 0)).setCell ⟨w.heap.size + 1, 6, none⟩ (.slice none 0 0)) = wF at GF hbG ⊢
        obtain ⟨d0, d1, d2, d3, d4, d5, d6, d7, d8⟩ := GF
        simp only [Gl.kind, Gl.frm, Gl.rcv, Gl.sort, Gl.name] at d0 d1 d2 d3 d4
        refine bodyPost_ret (v := .tuple #[.agg #[.int .i64 0, .string ⟨#[]⟩, .string ⟨#[]⟩, .int .i64 0, .string ⟨#[]⟩, .slice none 0 0, .slice none 0 0], .int .i64 4]) (by simp [results, Tryd.results33, go_sem, d0, d1, d2, d3, d4, d5, d6]) rfl ?_
        refine ⟨hbG, _, by rw [HRE.out], ?_⟩
        rw [renR_bad HRE.out HR0.out]
        exact zero_gl _ _
end Go.Proofs.YtgnkncfnkjeinaaDoor
