/-
  Renaming roles: the plain law; what a role is called anew (renamed's closure); the kids of the answer while they are made.
  Renaming roles: the reference's Renamed.
-/
import Derived.Test.YtgnkncfnkjeinaaDoorGsX
import Derived.Test.YtgnkncfnkjeinaaDoorM14
namespace Go.Proofs.YtgnkncfnkjeinaaDoor
open Go.RowKit Go.Proofs
set_option maxRecDepth 100000

/-- What stands in a role's place. -/
def rnm : List Str → List Str → Str → Str
  | f :: F, t :: T, s => if f = s then t else rnm F T s
  | _, _, s => s
mutual
def rnG (F T : List Str) : Gl → Gl
  | .mk k f o s n ls ks => .mk k (rnm F T f) (rnm F T o) s n ls (rnGs F T ks)
def rnGs (F T : List Str) : List Gl → List Gl
  | [] => []
  | t :: r => rnG F T t :: rnGs F T r
end
theorem rnGs_length (F T : List Str) : ∀ ks : List Gl, (rnGs F T ks).length = ks.length
  | [] => rfl
  | t :: r => by simp [rnGs, rnGs_length F T r]
theorem rnGs_append (F T : List Str) (a : List Gl) (c : Gl) : rnGs F T (a ++ [c]) = rnGs F T a ++ [rnG F T c] := by
  induction a with
  | nil => simp [rnGs]
  | cons x r ih => simp [rnGs, ih]
theorem rnGs_take {F T : List Str} {ks : List Gl} {k : Nat} {c : Gl} (h : ks[k]? = some c) : rnGs F T (ks.take (k + 1)) = rnGs F T (ks.take k) ++ [rnG F T c] := by
  rw [List.take_add_one, h]
  exact rnGs_append _ _ _ _
theorem rnm_none : ∀ {F T : List Str} {s : Str}, s ∉ F → rnm F T s = s
  | [], _, _, _ => by simp [rnm]
  | f :: F, [], _, _ => by simp [rnm]
  | f :: F, t :: T, s, h => by
    simp only [List.mem_cons, not_or] at h
    simp only [rnm]
    rw [if_neg (fun e => h.1 e.symm)]
    exact rnm_none h.2
theorem rnm_snoc : ∀ {F T : List Str} {f t s : Str}, F.length = T.length → rnm (F ++ [f]) (T ++ [t]) s = if s ∈ F then rnm F T s else if f = s then t else s
  | [], [], f, t, s, _ => by simp [rnm]
  | [], t :: T, _, _, _, h => by simp at h
  | f :: F, [], _, _, _, h => by simp at h
  | g :: F, u :: T, f, t, s, h => by
    simp only [List.cons_append, rnm, List.mem_cons]
    by_cases e : g = s
    · simp [e]
    · rw [if_neg e, if_neg e, rnm_snoc (by simpa using h)]
      have : ¬ s = g := fun e' => e e'.symm
      simp [this]
/-- One more of the pairs, none of which came before. -/
theorem rnm_take {F T : List Str} {s f t : Str} {i : Nat} (hl : F.length = T.length) (hf : F[i]? = some f) (ht : T[i]? = some t) (hn : f ∉ F.take i) : rnm (F.take (i + 1)) (T.take (i + 1)) s = if s = f then t else rnm (F.take i) (T.take i) s := by
  rw [List.take_add_one, List.take_add_one, hf, ht]
  show rnm (F.take i ++ [f]) (T.take i ++ [t]) s = _
  rw [rnm_snoc (by simp [hl])]
  by_cases e : s = f
  · subst e
    rw [if_neg hn, if_pos rfl, if_pos rfl]
  · rw [if_neg e]
    have e' : ¬ f = s := fun h => e h.symm
    rw [if_neg e']
    by_cases hm : s ∈ F.take i
    · rw [if_pos hm]
    · rw [if_neg hm, rnm_none hm]
theorem ix_name : ∀ (F T : List Str) (s : Str) (k : Nat), F.length = T.length → (Lib.idxFromS (F.map fun s => (⟨s.toArray⟩ : ByteArray)) ⟨s.toArray⟩ k = -1 ∧ rnm F T s = s) ∨ ∃ i : Nat, i < F.length ∧ Lib.idxFromS (F.map fun s => (⟨s.toArray⟩ : ByteArray)) ⟨s.toArray⟩ k = ((k + i : Nat) : Int) ∧ T[i]? = some (rnm F T s)
  | [], T, s, k, h => by left; simp [Lib.idxFromS, rnm]
  | f :: F, [], s, k, h => by simp at h
  | f :: F, t :: T, s, k, h => by
    simp only [List.map_cons, Lib.idxFromS, rnm, mk_inj]
    by_cases e : f = s
    · right
      refine ⟨0, by simp, ?_, ?_⟩
      · rw [if_pos e]; simp
      · rw [if_pos e]; rfl
    · rw [if_neg e, if_neg e]
      rcases ix_name F T s (k + 1) (by simpa using h) with h1 | ⟨i, hi, h1, h2⟩
      · exact .inl h1
      · right
        exact ⟨i + 1, by simpa using hi, by rw [h1]; congr 1; omega, by simpa using h2⟩

/-- The kids of the answer while they are made: the labels lie where the kids' row does not. -/
structure KRow (w : World) (D : Blocks) (base : Nat) (lv kv : Value) (ls : List Str) (ks : List Gl) (xs : List Value) : Prop where
  kids : w.ownsRow base 52 7 kv ks.length xs
  cells : Cells7 (fun k => D k ∧ kv.ownBlock ≠ some k) w xs ks
  labels : StrsD (fun k => D k ∧ kv.ownBlock ≠ some k) w lv ls
theorem KRow.below {w w' : World} {D : Blocks} {base : Nat} {lv kv : Value} {ls : List Str} {ks : List Gl} {xs : List Value} (h : KRow w D base lv kv ls ks xs) (hb : Below w.heap.size w w') : KRow w' D base lv kv ls ks xs :=
  ⟨own_keep h.kids hb (Nat.le_refl _), h.cells.keep (Same.below hb) (fun _ hk _ => hk), h.labels.keep (Same.below hb) (fun _ hk _ => hk)⟩
theorem KRow.set {w : World} {D : Blocks} {base : Nat} {lv kv : Value} {ls : List Str} {ks : List Gl} {xs : List Value} (h : KRow w D base lv kv ls ks xs) {a : Addr} (hB : ¬ D a.block) (ha : a.block < base) (u : Value) : KRow (w.setCell a u) D base lv kv ls ks xs :=
  ⟨own_set h.kids ha u, h.cells.keep (Same.set (fun hk => hB hk.1)) (fun _ hk _ => hk), h.labels.keep (Same.set (fun hk => hB hk.1)) (fun _ hk _ => hk)⟩
theorem KRow.gls {D' : Blocks} {w : World} {D : Blocks} {base : Nat} {lv kv : Value} {ls : List Str} {ks : List Gl} {xs : List Value} (h : KRow w D base lv kv ls ks xs) (hD : ∀ b, D b → D' b) (hb : ∀ b, base ≤ b → D' b) : Gls D' w kv ks :=
  own_gls h.kids (h.cells.keep (D' := D') (fun _ _ _ => rfl) (fun k hk _ => hD k hk.1)) hb
theorem KRow.strs {D' : Blocks} {w : World} {D : Blocks} {base : Nat} {lv kv : Value} {ls : List Str} {ks : List Gl} {xs : List Value} (h : KRow w D base lv kv ls ks xs) (hD : ∀ b, D b → D' b) : StrsD D' w lv ls :=
  h.labels.keep (fun _ _ _ => rfl) (fun k hk _ => hD k hk.1)
theorem KRow.kid {w w' : World} {D : Blocks} {base : Nat} {lv kv kv' : Value} {ls : List Str} {ks : List Gl} {xs news : List Value} {t : Gl} (h : KRow w D base lv kv ls ks xs) (hc : Cells7 (fun k => D k ∧ kv.ownBlock ≠ some k) w news [t])
    (hown : w'.ownsRow base 52 7 kv' (ks.length + 1) (xs ++ news)) (hg : w.grownBy w' kv.ownBlock) (hv : kv'.ownBlock = kv.ownBlock ∨ kv'.ownBlock = some w.heap.size) : KRow w' D base lv kv' ls (ks ++ [t]) (xs ++ news) := by
  have hD : ∀ k, (D k ∧ kv.ownBlock ≠ some k) → k < w.heap.size → (D k ∧ kv'.ownBlock ≠ some k) := fun k hd hl => ⟨hd.1, fun e => by
    rcases hv with h1 | h1
    · exact hd.2 (h1.symm.trans e)
    · have := Option.some.inj (h1.symm.trans e); omega⟩
  refine ⟨?_, Cells7.append (h.cells.keep (fun k hd hl => hg.block k hl (Ne.symm hd.2)) hD) (hc.keep (fun k hd hl => hg.block k hl (Ne.symm hd.2)) hD), h.labels.keep (fun k hd hl => hg.block k hl (Ne.symm hd.2)) hD⟩
  rw [List.length_append]; exact hown
set_option maxHeartbeats 2000000 in
/-- The program's name of a role. -/
theorem name_any (F T : List Str) (s : Str) (fv tv : Value) (bF bT : Nat) (w : World) (hl : F.length = T.length) (hbig : F.length ≤ 9223372036854775807) (hcF : w.cell? ⟨bF, 0, none⟩ = some fv) (hcT : w.cell? ⟨bT, 0, none⟩ = some tv) (hF : IsStrs w fv F) (hT : IsStrs w tv T) :
    Calls Tryd.prog 102 #[.string ⟨s.toArray⟩, .pointer (some ⟨bF, 0, none⟩), .pointer (some ⟨bT, 0, none⟩)] w fun e w' => e = .returned (.string ⟨(rnm F T s).toArray⟩) ∧ Below w.heap.size w w' := by
  have hix : Calls Tryd.prog 75 #[fv, .string ⟨s.toArray⟩] w fun e w' => e = .returned (.int .i64 (Lib.idxOfS (F.map fun s => (⟨s.toArray⟩ : ByteArray)) ⟨s.toArray⟩)) ∧ w' = w := by
    obtain ⟨A, cap, rfl, hc, h3⟩ := hF
    rcases Nat.eq_zero_or_pos F.length with h0 | h0
    · have := List.eq_nil_of_length_eq_zero h0
      subst this
      exact Tryd.slices_Index_string_empty A cap ⟨s.toArray⟩ w
    · obtain ⟨b, off, rfl, hr⟩ := h3 h0
      have h := Tryd.slices_Index_string b off F.length cap (F.map fun s => ⟨s.toArray⟩) ⟨s.toArray⟩ w (by simp) hbig (fun j hj => by
        have hj' : j < F.length := by simpa using hj
        rw [hr j F[j] (by simp [hj'])]
        simp [List.getD, hj'])
      rw [List.take_of_length_le (by simp)] at h
      exact h
  have HIX := Lib.hid hix
  clear hix
  have hn := ix_name F T s 0 hl
  rw [show Lib.idxFromS (F.map fun s => (⟨s.toArray⟩ : ByteArray)) ⟨s.toArray⟩ 0 = Lib.idxOfS (F.map fun s => (⟨s.toArray⟩ : ByteArray)) ⟨s.toArray⟩ from rfl] at hn
  obtain ⟨X, hX⟩ : ∃ x, Lib.idxOfS (F.map fun s => (⟨s.toArray⟩ : ByteArray)) ⟨s.toArray⟩ = x := ⟨_, rfl⟩
  rw [hX] at hn HIX
  obtain ⟨R, hR⟩ : ∃ x, rnm F T s = x := ⟨_, rfl⟩
  rw [hR] at hn ⊢
  obtain ⟨A1, c1, rfl, -, -⟩ := id hF
  obtain ⟨A2, c2, rfl, hc2, hr2⟩ := hT
  rcases hn with ⟨rfl, rfl⟩ | ⟨i, hi, rfl, hi2⟩
  · clear hl hbig hF hR hX
    go_enter Tryd.func102, Tryd.ntmps102
    go_wp2_with fail
    refine HIX.out.mono ?_; rintro e w1 ⟨rfl, rfl⟩
    go_wp2_with fail
    go_ret
    exact ⟨rfl, Below.refl _ _⟩
  · obtain ⟨b, off, rfl, hrow⟩ := hr2 (by omega)
    have hcell := hrow i R hi2
    have h0 : decide ((0 : Int) ≤ ((0 + i : Nat) : Int)) = true := by simp
    rw [Nat.zero_add] at HIX h0
    have hi' : i < T.length := by omega
    clear hrow hi2 hc2 hr2 hl hbig hF hR hX hi
    go_enter Tryd.func102, Tryd.ntmps102
    go_wp2_with fail
    refine HIX.out.mono ?_; rintro e w1 ⟨rfl, rfl⟩
    go_wp2_with fail
    go_ret
    exact ⟨rfl, Below.refl _ _⟩
end Go.Proofs.YtgnkncfnkjeinaaDoor
namespace Go.Proofs.YtgnkncfnkjeinaaDoor
open Go.RowKit Go.Proofs
set_option maxRecDepth 100000

/-- What a renaming of roles answers. -/
def ASays (f : FuncId) (F T : List Str) (B : Nat) (t : Gl) (v fv tv : Value) (w : World) : Prop := Calls Tryd.prog f #[v, fv, tv] w fun e w' => Below w.heap.size w w' ∧ ∃ v', e = .returned v' ∧ GlV (fun k => k < B ∨ w.heap.size ≤ k) w' v' (rnG F T t)

set_option maxHeartbeats 8000000 in
theorem Renamed_any (F T : List Str) (hl : F.length = T.length) (h8 : F.length ≤ 9223372036854775807) (hn : ∀ (i : Nat) f, F[i]? = some f → f ∉ F.take i) (B : Nat) : ∀ (m : Nat) (t : Gl) (v fv tv : Value) (w : World), gparts t ≤ m → GGood t → B ≤ w.heap.size → GlV (· < B) w v t → StrsD (· < B) w fv F → StrsD (· < B) w tv T → ASays 36 F T B t v fv tv w := by
  intro m
  induction m with
  | zero => intro t v fv tv w h; cases t; simp only [gparts] at h; omega
  | succ m ih =>
  intro t v fv tv w hm hg hBw hv hFv hTv
  obtain ⟨k, f, o, s, n, ls, ks⟩ := t
  have hsm := hg.gsh.small
  have hkids := hg.kid
  simp only [Gl.kind, Gl.frm, Gl.rcv, Gl.sort, Gl.name, Gl.labels, Gl.kids] at hsm hkids
  simp only [gparts] at hm
  have HKS : Hid (∀ c ∈ ks, gparts c ≤ m ∧ GGood c) := Lib.hid fun c hc => by
    have := gparts_at hc
    exact ⟨by omega, hkids c hc⟩
  obtain ⟨-, -, -, hl6, -, hk6⟩ := hsm
  clear hg hkids
  obtain ⟨lv, kv, rfl, hs1, hs2⟩ := hv
  simp only [Gl.kind, Gl.frm, Gl.rcv, Gl.sort, Gl.name, Gl.labels, Gl.kids] at hs1 hs2 ⊢
  have HL := Lib.hid hs1
  obtain ⟨A0, p0, rfl, -, -⟩ := hs1
  have HK := Lib.hid hs2
  obtain ⟨A, cap, rfl, -, -⟩ := hs2
  have HF := Lib.hid hFv
  have HT := Lib.hid hTv
  obtain ⟨AF, cF, rfl, -, -⟩ := hFv
  obtain ⟨AT, cT, rfl, -, -⟩ := hTv
  obtain ⟨L, hL⟩ : ∃ x, F.length = x := ⟨_, rfl⟩
  have HL1 := Lib.hid hL
  have HL2 : Hid (T.length = L) := Lib.hid (hl.symm.trans hL)
  rw [HL2.out] at HT ⊢
  rw [hL] at HF ⊢
  have hL8 : L ≤ 9223372036854775807 := by omega
  have HN := Lib.hid hn
  clear hL
  unfold ASays
  have hans : rnG F T (.mk k f o s n ls ks) = .mk k (rnm F T f) (rnm F T o) s n ls (rnGs F T ks) := by simp only [rnG]
  rw [hans]
  clear hans
  go_enter Tryd.func36, Tryd.ntmps36
  go_wp2_with fail
  obtain ⟨W, hW⟩ : ∃ W, ((w.alloc (.cells #[.int .i64 k, .string ⟨f.toArray⟩, .string ⟨o.toArray⟩, .int .i64 s, .string ⟨n.toArray⟩, .slice A0 ls.length p0, .slice A ks.length cap] 52)).alloc (.cells #[.int .i64 0, .string ⟨#[]⟩, .string ⟨#[]⟩, .int .i64 0, .string ⟨#[]⟩, .slice none 0 0, .slice none 0 0] 52)).alloc (.cells #[.int .i64 k, .string ⟨f.toArray⟩, .string ⟨o.toArray⟩, .int .i64 s, .string ⟨n.toArray⟩, .slice A0 ls.length p0, .slice none 0 0] 52) = W := ⟨_, rfl⟩
  have hbW : Below w.heap.size w W := by subst hW; go_grown
  have hWs : W.heap.size = w.heap.size + 3 := by subst hW; simp
  have GT : GBox W w.heap.size (.mk k f o s n ls ks) (.slice A0 ls.length p0) (.slice A ks.length cap) := by subst hW; exact ⟨by simp [go_sem]; rfl, by simp [go_sem]; rfl, by simp [go_sem]; rfl, by simp [go_sem]; rfl, by simp [go_sem]; rfl, by simp [go_sem], by simp [go_sem], fun j => by simp [go_sem], by simp <;> omega⟩
  have GZ : GBox W (w.heap.size + 1) zeroGl (.slice none 0 0) (.slice none 0 0) := by subst hW; exact ⟨by simp [go_sem]; rfl, by simp [go_sem]; rfl, by simp [go_sem]; rfl, by simp [go_sem]; rfl, by simp [go_sem]; rfl, by simp [go_sem], by simp [go_sem], fun j => by simp [go_sem], by simp <;> omega⟩
  have GO : GBox W (w.heap.size + 1 + 1) (.mk k f o s n [] []) (.slice A0 ls.length p0) (.slice none 0 0) := by subst hW; exact ⟨by simp [go_sem]; rfl, by simp [go_sem]; rfl, by simp [go_sem]; rfl, by simp [go_sem]; rfl, by simp [go_sem]; rfl, by simp [go_sem], by simp [go_sem], fun j => by simp [go_sem], by simp⟩
  try rw [hW]
  clear hW
  replace HL := Lib.hid (HL.out.below hbW)
  replace HK := Lib.hid (HK.out.below hbW)
  replace HF := Lib.hid (HF.out.below hbW)
  replace HT := Lib.hid (HT.out.below hbW)
  go_loopw [8] (fun i wr => ∃ q : Nat, q ≤ L ∧ i = .int .i64 q ∧ GBox wr (w.heap.size + 1 + 1) (.mk k (rnm (F.take q) (T.take q) f) (rnm (F.take q) (T.take q) o) s n [] []) (.slice A0 ls.length p0) (.slice none 0 0) ∧ Below (w.heap.size + 1 + 1) W wr ∧ wr.heap.size = w.heap.size + 3) (fun i _ => L - (intOf i).toNat)
  case atStart => exact ⟨0, by omega, rfl, GO, Below.refl _ _, hWs⟩
  case round =>
    obtain ⟨q, hq, rfl, GB, hbN, hsN⟩ := hrel
    by_cases hlt : q < L
    · obtain ⟨f', hf'⟩ : ∃ x, F[q]? = some x := ⟨_, List.getElem?_eq_getElem (by rw [HL1.out]; exact hlt)⟩
      obtain ⟨t', ht'⟩ : ∃ x, T[q]? = some x := ⟨_, List.getElem?_eq_getElem (by rw [HL2.out]; exact hlt)⟩
      have hst := fun z => rnm_take (s := z) hl hf' ht' (HN.out q f' hf')
      obtain ⟨_, _, eF, _, hrF⟩ := id HF.out
      obtain ⟨bF, oF, rfl, hBF, hrowF⟩ := hrF (by rw [HL1.out]; omega)
      injection eF with eF1 eF2 eF3
      subst eF1
      clear eF2 eF3
      obtain ⟨_, _, eT, _, hrT⟩ := id HT.out
      obtain ⟨bT, oT, rfl, hBT, hrowT⟩ := hrT (by rw [HL2.out]; omega)
      injection eT with eT1 eT2 eT3
      subst eT1
      clear eT2 eT3
      have HC : Hid (∀ w' : World, Below (w.heap.size + 1 + 1) W w' → (w'.cell? ⟨w.heap.size, 1, none⟩ = some (.string ⟨f.toArray⟩) ∧ w'.cell? ⟨w.heap.size, 2, none⟩ = some (.string ⟨o.toArray⟩) ∧ w'.cell? ⟨bF, oF + q, none⟩ = some (.string ⟨f'.toArray⟩) ∧ w'.cell? ⟨bT, oT + q, none⟩ = some (.string ⟨t'.toArray⟩))) := Lib.hid fun w' h => ⟨(GT.keep h (by omega)).c1, (GT.keep h (by omega)).c2, (h.cell (p := ⟨bF, oF + q, none⟩) (by show bF < _; omega)).trans (hrowF q f' hf'), (h.cell (p := ⟨bT, oT + q, none⟩) (by show bT < _; omega)).trans (hrowT q t' ht')⟩
      have cF := (hbN.cell (p := ⟨bF, oF + q, none⟩) (by show bF < _; omega)).trans (hrowF q f' hf')
      have cT := (hbN.cell (p := ⟨bT, oT + q, none⟩) (by show bT < _; omega)).trans (hrowT q t' ht')
      have HST := Lib.hid hst
      have hbTn : ¬ w.heap.size + 1 + 1 = bT := by omega
      have hbFn : ¬ w.heap.size + 1 + 1 = bF := by omega
      clear hst hf' ht' hrowF hrowT hrF hrT
      obtain ⟨x0, x1, x2, x3, x4, x5, x6, x7, x8⟩ := GT.keep hbN (by omega)
      simp only [Gl.kind, Gl.frm, Gl.rcv, Gl.sort, Gl.name] at x0 x1 x2 x3 x4
      obtain ⟨fq, hfq⟩ : ∃ x, rnm (F.take q) (T.take q) f = x := ⟨_, rfl⟩
      obtain ⟨oq, hoq⟩ : ∃ x, rnm (F.take q) (T.take q) o = x := ⟨_, rfl⟩
      have HFQ : Hid (rnm (F.take (q + 1)) (T.take (q + 1)) f = if f = f' then t' else fq) := Lib.hid (by rw [HST.out, hfq])
      have HOQ : Hid (rnm (F.take (q + 1)) (T.take (q + 1)) o = if o = f' then t' else oq) := Lib.hid (by rw [HST.out, hoq])
      rw [hfq, hoq] at GB
      clear hfq hoq HST
      cases h1 : (f == f') with
      | true =>
        have e1 : Hid ((if f = f' then t' else fq) = t') := Lib.hid (if_pos (by simpa using h1))
        obtain ⟨g0, g1, g2, g3, g4, g5, g6, g7, g8⟩ := id GB
        simp only [Gl.kind, Gl.frm, Gl.rcv, Gl.sort, Gl.name] at g0 g1 g2 g3 g4
        go_wp2_with fail
        go_quiet (fail)
        have GB10 := GB.drewN nq
        have hb10 := below_drewN hbN nq
        have hs10 : (wr.drewN nq).heap.size = w.heap.size + 3 := hsN
        generalize wr.drewN nq = w10 at GB10 hb10 hs10 ⊢
        clear g0 g1 g2 g3 g4 g5 g6 g7 g8 x1 x2 cF cT
        obtain ⟨x1, x2, cF, cT⟩ := HC.out w10 hb10
        obtain ⟨g0, g1, g2, g3, g4, g5, g6, g7, g8⟩ := id GB10
        simp only [Gl.kind, Gl.frm, Gl.rcv, Gl.sort, Gl.name] at g0 g1 g2 g3 g4
        go_wp2_with fail
        have GB20 := GB10.set1 t'
        simp only [Gl.kind, Gl.frm, Gl.rcv, Gl.sort, Gl.name, Gl.labels, Gl.kids] at GB20
        have hb20 : Below (w.heap.size + 1 + 1) W (w10.setCell ⟨w.heap.size + 1 + 1, 1, none⟩ (.string ⟨t'.toArray⟩)) := hb10.setCell (Nat.le_refl _) _
        have hs20 : (w10.setCell ⟨w.heap.size + 1 + 1, 1, none⟩ (.string ⟨t'.toArray⟩)).heap.size = w.heap.size + 3 := by rw [World.size_setCell]; exact hs10
        generalize w10.setCell ⟨w.heap.size + 1 + 1, 1, none⟩ (.string ⟨t'.toArray⟩) = w20 at GB20 hb20 hs20 ⊢
        clear x1 x2 cF cT
        obtain ⟨x1, x2, cF, cT⟩ := HC.out w20 hb20
        cases h2 : (o == f') with
        | true =>
          have e2 : Hid ((if o = f' then t' else oq) = t') := Lib.hid (if_pos (by simpa using h2))
          go_quiet (fail)
          have GB30 := GB20.drewN nq
          have hb30 := below_drewN hb20 nq
          have hs30 : (w20.drewN nq).heap.size = w.heap.size + 3 := hs20
          generalize w20.drewN nq = w30 at GB30 hb30 hs30 ⊢
          clear g0 g1 g2 g3 g4 g5 g6 g7 g8 x1 x2 cF cT
          obtain ⟨x1, x2, cF, cT⟩ := HC.out w30 hb30
          obtain ⟨g0, g1, g2, g3, g4, g5, g6, g7, g8⟩ := id GB30
          simp only [Gl.kind, Gl.frm, Gl.rcv, Gl.sort, Gl.name] at g0 g1 g2 g3 g4
          go_wp2_with fail
          have GB40 := GB30.set2 t'
          simp only [Gl.kind, Gl.frm, Gl.rcv, Gl.sort, Gl.name, Gl.labels, Gl.kids] at GB40
          have hb40 : Below (w.heap.size + 1 + 1) W (w30.setCell ⟨w.heap.size + 1 + 1, 2, none⟩ (.string ⟨t'.toArray⟩)) := hb30.setCell (Nat.le_refl _) _
          have hs40 : (w30.setCell ⟨w.heap.size + 1 + 1, 2, none⟩ (.string ⟨t'.toArray⟩)).heap.size = w.heap.size + 3 := by rw [World.size_setCell]; exact hs30
          generalize w30.setCell ⟨w.heap.size + 1 + 1, 2, none⟩ (.string ⟨t'.toArray⟩) = w40 at GB40 hb40 hs40 ⊢
          go_roundw
          case rel => exact ⟨q + 1, by omega, by go_num, by rw [HFQ.out, e1.out, HOQ.out, e2.out]; exact GB40, hb40, hs40⟩
          case measure => simp [intOf]; omega
        | false =>
          have e2 : Hid ((if o = f' then t' else oq) = oq) := Lib.hid (if_neg (by simpa using h2))
          go_quiet (fail)
          have GB30 := GB20.drewN nq
          have hb30 := below_drewN hb20 nq
          have hs30 : (w20.drewN nq).heap.size = w.heap.size + 3 := hs20
          generalize w20.drewN nq = w30 at GB30 hb30 hs30 ⊢
          clear g0 g1 g2 g3 g4 g5 g6 g7 g8 x1 x2 cF cT
          obtain ⟨x1, x2, cF, cT⟩ := HC.out w30 hb30
          obtain ⟨g0, g1, g2, g3, g4, g5, g6, g7, g8⟩ := id GB30
          simp only [Gl.kind, Gl.frm, Gl.rcv, Gl.sort, Gl.name] at g0 g1 g2 g3 g4
          go_wp2_with fail
          go_roundw
          case rel => exact ⟨q + 1, by omega, by go_num, by rw [HFQ.out, e1.out, HOQ.out, e2.out]; exact GB30, hb30, hs30⟩
          case measure => simp [intOf]; omega
      | false =>
        have e1 : Hid ((if f = f' then t' else fq) = fq) := Lib.hid (if_neg (by simpa using h1))
        obtain ⟨g0, g1, g2, g3, g4, g5, g6, g7, g8⟩ := id GB
        simp only [Gl.kind, Gl.frm, Gl.rcv, Gl.sort, Gl.name] at g0 g1 g2 g3 g4
        go_wp2_with fail
        go_quiet (fail)
        have GB10 := GB.drewN nq
        have hb10 := below_drewN hbN nq
        have hs10 : (wr.drewN nq).heap.size = w.heap.size + 3 := hsN
        generalize wr.drewN nq = w10 at GB10 hb10 hs10 ⊢
        clear g0 g1 g2 g3 g4 g5 g6 g7 g8 x1 x2 cF cT
        obtain ⟨x1, x2, cF, cT⟩ := HC.out w10 hb10
        obtain ⟨g0, g1, g2, g3, g4, g5, g6, g7, g8⟩ := id GB10
        simp only [Gl.kind, Gl.frm, Gl.rcv, Gl.sort, Gl.name] at g0 g1 g2 g3 g4
        go_wp2_with fail
        cases h2 : (o == f') with
        | true =>
          have e2 : Hid ((if o = f' then t' else oq) = t') := Lib.hid (if_pos (by simpa using h2))
          go_quiet (fail)
          have GB20 := GB10.drewN nq
          have hb20 := below_drewN hb10 nq
          have hs20 : (w10.drewN nq).heap.size = w.heap.size + 3 := hs10
          generalize w10.drewN nq = w20 at GB20 hb20 hs20 ⊢
          clear g0 g1 g2 g3 g4 g5 g6 g7 g8 x1 x2 cF cT
          obtain ⟨x1, x2, cF, cT⟩ := HC.out w20 hb20
          obtain ⟨g0, g1, g2, g3, g4, g5, g6, g7, g8⟩ := id GB20
          simp only [Gl.kind, Gl.frm, Gl.rcv, Gl.sort, Gl.name] at g0 g1 g2 g3 g4
          go_wp2_with fail
          have GB30 := GB20.set2 t'
          simp only [Gl.kind, Gl.frm, Gl.rcv, Gl.sort, Gl.name, Gl.labels, Gl.kids] at GB30
          have hb30 : Below (w.heap.size + 1 + 1) W (w20.setCell ⟨w.heap.size + 1 + 1, 2, none⟩ (.string ⟨t'.toArray⟩)) := hb20.setCell (Nat.le_refl _) _
          have hs30 : (w20.setCell ⟨w.heap.size + 1 + 1, 2, none⟩ (.string ⟨t'.toArray⟩)).heap.size = w.heap.size + 3 := by rw [World.size_setCell]; exact hs20
          generalize w20.setCell ⟨w.heap.size + 1 + 1, 2, none⟩ (.string ⟨t'.toArray⟩) = w30 at GB30 hb30 hs30 ⊢
          go_roundw
          case rel => exact ⟨q + 1, by omega, by go_num, by rw [HFQ.out, e1.out, HOQ.out, e2.out]; exact GB30, hb30, hs30⟩
          case measure => simp [intOf]; omega
        | false =>
          have e2 : Hid ((if o = f' then t' else oq) = oq) := Lib.hid (if_neg (by simpa using h2))
          go_quiet (fail)
          have GB20 := GB10.drewN nq
          have hb20 := below_drewN hb10 nq
          have hs20 : (w10.drewN nq).heap.size = w.heap.size + 3 := hs10
          generalize w10.drewN nq = w20 at GB20 hb20 hs20 ⊢
          clear g0 g1 g2 g3 g4 g5 g6 g7 g8 x1 x2 cF cT
          obtain ⟨x1, x2, cF, cT⟩ := HC.out w20 hb20
          obtain ⟨g0, g1, g2, g3, g4, g5, g6, g7, g8⟩ := id GB20
          simp only [Gl.kind, Gl.frm, Gl.rcv, Gl.sort, Gl.name] at g0 g1 g2 g3 g4
          go_wp2_with fail
          go_roundw
          case rel => exact ⟨q + 1, by omega, by go_num, by rw [HFQ.out, e1.out, HOQ.out, e2.out]; exact GB20, hb20, hs20⟩
          case measure => simp [intOf]; omega
    · have hqL : q = L := by omega
      subst hqL
      clear hlt
      have eF : F.take q = F := List.take_of_length_le (by rw [HL1.out]; exact Nat.le_refl _)
      have eT : T.take q = T := List.take_of_length_le (by rw [HL2.out]; exact Nat.le_refl _)
      rw [eF, eT] at GB
      clear eF eT
      obtain ⟨f2, hf2⟩ : ∃ x, rnm F T f = x := ⟨_, rfl⟩
      obtain ⟨o2, ho2⟩ : ∃ x, rnm F T o = x := ⟨_, rfl⟩
      rw [hf2, ho2] at GB
      have HF2 := Lib.hid hf2
      have HO2 := Lib.hid ho2
      clear hf2 ho2
      have hbr : Below w.heap.size W wr := hbN.mono (by omega)
      have GT2 := GT.keep hbN (by omega)
      have GZ2 := GZ.keep hbN (by omega)
      have hSm : ∀ (D : Blocks), (∀ b, D b → b < B) → Same D W wr := fun D hD b hb _ => hbN.block b (by have := hD b hb; omega)
      have HK2 := Lib.hid (HK.out.keep (hSm _ fun _ h => h) (fun _ h _ => h))
      have HF3 := Lib.hid (HF.out.keep (hSm _ fun _ h => h) (fun _ h _ => h))
      have HT3 := Lib.hid (HT.out.keep (hSm _ fun _ h => h) (fun _ h _ => h))
      have KR0 : KRow wr (fun k => k < B ∨ w.heap.size + 3 ≤ k) (w.heap.size + 3) (.slice A0 ls.length p0) (.slice none 0 0) ls [] [] := ⟨World.ownsRow_nil _ _ _ _, .nil, HL.out.keep (hSm _ fun _ h => h) (fun k hk _ => ⟨.inl hk, fun e => by cases e⟩)⟩
      have hbw := chain hbW (show Below W.heap.size W W from Below.refl _ _)
      have hb00 : Below w.heap.size w wr := hbW.trans hbr
      clear hbr hbN GT GZ GO HL HK HF HT hSm hbw hbW hWs
      obtain ⟨g0, g1, g2, g3, g4, g5, g6, g7, g8⟩ := id GT2
      go_wp2_with fail
      obtain ⟨w2, rfl⟩ : ∃ x, x = wr := ⟨_, rfl⟩
      go_loopw [9] (fun i wr => ∃ (j : Nat) (kvq : Value) (xs : List Value), j ≤ ks.length ∧ i = .int .i64 j ∧ GBox wr (w.heap.size + 1 + 1) (.mk k f2 o2 s n [] []) (.slice A0 ls.length p0) kvq ∧ KRow wr (fun k => k < B ∨ w.heap.size + 3 ≤ k) (w.heap.size + 3) (.slice A0 ls.length p0) kvq ls (rnGs F T (ks.take j)) xs ∧ Below (w.heap.size + 1 + 1) w2 wr ∧ (w.heap.size + 3) ≤ wr.heap.size) (fun i _ => ks.length - (intOf i).toNat)
      case atStart => exact ⟨0, _, [], by omega, rfl, GB, KR0, Below.refl _ _, by omega⟩
      case round =>
        obtain ⟨j, kvq, xs, hj, rfl, GBq, KRq, hbN, hsN2⟩ := hrel
        obtain ⟨RQ, hRQ⟩ : ∃ x, rnGs F T (ks.take j) = x := ⟨_, rfl⟩
        have hrq : RQ.length ≤ 6 := by rw [← hRQ, rnGs_length, List.length_take]; omega
        rw [hRQ] at KRq
        have HRQ := Lib.hid hRQ
        clear hRQ
        obtain ⟨Ak, ck, rfl⟩ := own_form KRq.kids
        have x6 := (GT2.keep hbN (by omega)).c6
        by_cases hlt : j < ks.length
        · obtain ⟨c, hc⟩ : ∃ x, ks[j]? = some x := ⟨_, List.getElem?_eq_getElem hlt⟩
          have HC := Lib.hid hc
          obtain ⟨-, -, b, off, A1, n1, p1, A2, n2, p2, rfl, hbB, c0, c1, c2, c3, c4, c5, c6, hl', hk'⟩ := gkid_at HK2.out hc
          have HL' := Lib.hid hl'; have HK' := Lib.hid hk'; clear hl' hk' hc
          have hbB' : b < B := hbB
          replace c0 := (hbN.cell (p := ⟨b, off + j * 7, none⟩) (by show b < _; omega)).trans c0
          replace c1 := (hbN.cell (p := ⟨b, off + j * 7 + 1, none⟩) (by show b < _; omega)).trans c1
          replace c2 := (hbN.cell (p := ⟨b, off + j * 7 + 2, none⟩) (by show b < _; omega)).trans c2
          replace c3 := (hbN.cell (p := ⟨b, off + j * 7 + 3, none⟩) (by show b < _; omega)).trans c3
          replace c4 := (hbN.cell (p := ⟨b, off + j * 7 + 4, none⟩) (by show b < _; omega)).trans c4
          replace c5 := (hbN.cell (p := ⟨b, off + j * 7 + 5, none⟩) (by show b < _; omega)).trans c5
          replace c6 := (hbN.cell (p := ⟨b, off + j * 7 + 6, none⟩) (by show b < _; omega)).trans c6
          have hS : ∀ w' : World, Below (w.heap.size + 3) wr w' → (fun w' : World => w'.cell? ⟨w.heap.size + 1 + 1, 6, none⟩ = some (.slice Ak RQ.length ck) ∧ w'.cell? ⟨w.heap.size, 6, none⟩ = some (.slice (some ⟨b, off, none⟩) ks.length cap) ∧ w'.cell? ⟨b, off + j * 7, none⟩ = some (.int .i64 c.kind) ∧ w'.cell? ⟨b, off + j * 7 + 1, none⟩ = some (.string ⟨c.frm.toArray⟩) ∧ w'.cell? ⟨b, off + j * 7 + 2, none⟩ = some (.string ⟨c.rcv.toArray⟩) ∧ w'.cell? ⟨b, off + j * 7 + 3, none⟩ = some (.int .i64 c.sort) ∧ w'.cell? ⟨b, off + j * 7 + 4, none⟩ = some (.string ⟨c.name.toArray⟩) ∧ w'.cell? ⟨b, off + j * 7 + 5, none⟩ = some (.slice A1 n1 p1) ∧ w'.cell? ⟨b, off + j * 7 + 6, none⟩ = some (.slice A2 n2 p2)) w' := fun w' h => ⟨(h.cell (p := ⟨w.heap.size + 1 + 1, 6, none⟩) (by show w.heap.size + 1 + 1 < _; omega)).trans GBq.c6, (h.cell (p := ⟨w.heap.size, 6, none⟩) (by show w.heap.size < _; omega)).trans (GT2.keep hbN (by omega)).c6, (h.cell (p := ⟨b, off + j * 7, none⟩) (by show b < _; omega)).trans c0, (h.cell (p := ⟨b, off + j * 7 + 1, none⟩) (by show b < _; omega)).trans c1, (h.cell (p := ⟨b, off + j * 7 + 2, none⟩) (by show b < _; omega)).trans c2, (h.cell (p := ⟨b, off + j * 7 + 3, none⟩) (by show b < _; omega)).trans c3, (h.cell (p := ⟨b, off + j * 7 + 4, none⟩) (by show b < _; omega)).trans c4, (h.cell (p := ⟨b, off + j * 7 + 5, none⟩) (by show b < _; omega)).trans c5, (h.cell (p := ⟨b, off + j * 7 + 6, none⟩) (by show b < _; omega)).trans c6⟩
          have HSd := Lib.hid (hS wr.drew (Below.refl _ _).drew)
          have HSB := Lib.hid hS; clear hS
          obtain ⟨U, hU⟩ : ∃ x, rnG F T c = x := ⟨_, rfl⟩
          have e3 : Hid (rnGs F T (ks.take (j + 1)) = RQ ++ [U]) := Lib.hid (by rw [rnGs_take HC.out, HRQ.out, hU])
          have hSm : ∀ (D : Blocks), (∀ b, D b → b < B) → Same D w2 wr.drew := fun D hD b hb _ => hbN.drew.block b (by have := hD b hb; omega)
          have hcm := HKS.out c (mem_of_at HC.out)
          have hcall := ih c (.agg #[.int .i64 c.kind, .string ⟨c.frm.toArray⟩, .string ⟨c.rcv.toArray⟩, .int .i64 c.sort, .string ⟨c.name.toArray⟩, .slice A1 n1 p1, .slice A2 n2 p2]) (.slice AF q cF) (.slice AT q cT) wr.drew hcm.1 hcm.2 (by show B ≤ wr.heap.size; omega) (glV_of (HL'.out.keep (hSm _ fun _ h => h) (fun _ h _ => h)) (HK'.out.keep (hSm _ fun _ h => h) (fun _ h _ => h))) (HF3.out.keep (hSm _ fun _ h => h) (fun _ h _ => h)) (HT3.out.keep (hSm _ fun _ h => h) (fun _ h _ => h))
          unfold ASays at hcall
          rw [hU] at hcall
          have HCL := Lib.hid hcall
          clear hcall hU hSm
          have HD : Hid (∀ k, (k < B ∨ wr.heap.size ≤ k) → (fun k => k < B ∨ w.heap.size + 3 ≤ k) k ∧ (Value.slice Ak RQ.length ck).ownBlock ≠ some k) := Lib.hid (fun k hk => ⟨by show _ ∨ _; omega, fun e => by have := KRq.kids.lt k e; omega⟩)
          go_wp2_with fail
          refine wp_region_T 12 (fun w' : World => w'.cell? ⟨w.heap.size + 1 + 1, 6, none⟩ = some (.slice Ak RQ.length ck) ∧ w'.cell? ⟨w.heap.size, 6, none⟩ = some (.slice (some ⟨b, off, none⟩) ks.length cap) ∧ w'.cell? ⟨b, off + j * 7, none⟩ = some (.int .i64 c.kind) ∧ w'.cell? ⟨b, off + j * 7 + 1, none⟩ = some (.string ⟨c.frm.toArray⟩) ∧ w'.cell? ⟨b, off + j * 7 + 2, none⟩ = some (.string ⟨c.rcv.toArray⟩) ∧ w'.cell? ⟨b, off + j * 7 + 3, none⟩ = some (.int .i64 c.sort) ∧ w'.cell? ⟨b, off + j * 7 + 4, none⟩ = some (.string ⟨c.name.toArray⟩) ∧ w'.cell? ⟨b, off + j * 7 + 5, none⟩ = some (.slice A1 n1 p1) ∧ w'.cell? ⟨b, off + j * 7 + 6, none⟩ = some (.slice A2 n2 p2)) (by kernel_rfl) ?_
          refine wpT_take (i := 0) (v := ?_) rfl (by kernel_rfl) (by kernel_rfl) (by kernel_rfl) (by kernel_rfl) (fun _ _ _ h => h) (Or.inl ⟨by rfl, ?_⟩) HSd.out ?_
          rotate_left
          · (intro wq hSw; obtain ⟨q0, q1, q2, q3, q4, q5, q6, q7, q8⟩ := hSw; go_simp; all_goals (first | (with_reducible rfl) | (rw [if_neg (by first | omega | (simp; omega) | (simp only [List.length_append, List.length_cons, List.length_nil]; omega))])))
          simp only [List.getElem_toArray, List.getElem_cons_succ, List.getElem_cons_zero, Act.put, List.setIfInBounds_toArray, List.set_cons_zero, List.set_cons_succ]
          refine wpT_take (i := 1) (v := ?_) rfl (by kernel_rfl) (by kernel_rfl) (by kernel_rfl) (by kernel_rfl) (fun _ _ _ h => h) (Or.inl ⟨by rfl, ?_⟩) HSd.out ?_
          rotate_left
          · (intro wq hSw; obtain ⟨q0, q1, q2, q3, q4, q5, q6, q7, q8⟩ := hSw; go_simp; all_goals (first | (with_reducible rfl) | (rw [if_neg (by first | omega | (simp; omega) | (simp only [List.length_append, List.length_cons, List.length_nil]; omega))])))
          simp only [List.getElem_toArray, List.getElem_cons_succ, List.getElem_cons_zero, Act.put, List.setIfInBounds_toArray, List.set_cons_zero, List.set_cons_succ]
          refine wpT_take (i := 2) (v := ?_) rfl (by kernel_rfl) (by kernel_rfl) (by kernel_rfl) (by kernel_rfl) (fun _ _ _ h => h) (Or.inl ⟨by rfl, ?_⟩) HSd.out ?_
          rotate_left
          · (intro wq hSw; obtain ⟨q0, q1, q2, q3, q4, q5, q6, q7, q8⟩ := hSw; go_simp; all_goals (first | (with_reducible rfl) | (rw [if_neg (by first | omega | (simp; omega) | (simp only [List.length_append, List.length_cons, List.length_nil]; omega))])))
          simp only [List.getElem_toArray, List.getElem_cons_succ, List.getElem_cons_zero, Act.put, List.setIfInBounds_toArray, List.set_cons_zero, List.set_cons_succ]
          refine wpT_take (i := 3) (v := ?_) rfl (by kernel_rfl) (by kernel_rfl) (by kernel_rfl) (by kernel_rfl) (fun _ _ _ h => h) (Or.inl ⟨by rfl, ?_⟩) HSd.out ?_
          rotate_left
          · (intro wq hSw; obtain ⟨q0, q1, q2, q3, q4, q5, q6, q7, q8⟩ := hSw; go_simp; all_goals (first | (with_reducible rfl) | (rw [if_neg (by first | omega | (simp; omega) | (simp only [List.length_append, List.length_cons, List.length_nil]; omega))])))
          simp only [List.getElem_toArray, List.getElem_cons_succ, List.getElem_cons_zero, Act.put, List.setIfInBounds_toArray, List.set_cons_zero, List.set_cons_succ]
          refine wpT_take (i := 4) (v := ?_) rfl (by kernel_rfl) (by kernel_rfl) (by kernel_rfl) (by kernel_rfl) (fun _ _ _ h => h) (Or.inl ⟨by rfl, ?_⟩) HSd.out ?_
          rotate_left
          · (intro wq hSw; obtain ⟨q0, q1, q2, q3, q4, q5, q6, q7, q8⟩ := hSw; go_simp; all_goals (first | (with_reducible rfl) | (rw [if_neg (by first | omega | (simp; omega) | (simp only [List.length_append, List.length_cons, List.length_nil]; omega))])))
          simp only [List.getElem_toArray, List.getElem_cons_succ, List.getElem_cons_zero, Act.put, List.setIfInBounds_toArray, List.set_cons_zero, List.set_cons_succ]
          refine wpT_take (i := 5) (v := ?_) rfl (by kernel_rfl) (by kernel_rfl) (by kernel_rfl) (by kernel_rfl) (fun _ _ _ h => h) (Or.inl ⟨by rfl, ?_⟩) HSd.out ?_
          rotate_left
          · (intro wq hSw; obtain ⟨q0, q1, q2, q3, q4, q5, q6, q7, q8⟩ := hSw; go_simp; all_goals (first | (with_reducible rfl) | (rw [if_neg (by first | omega | (simp; omega) | (simp only [List.length_append, List.length_cons, List.length_nil]; omega))])))
          simp only [List.getElem_toArray, List.getElem_cons_succ, List.getElem_cons_zero, Act.put, List.setIfInBounds_toArray, List.set_cons_zero, List.set_cons_succ]
          refine wpT_take (i := 6) (v := ?_) rfl (by kernel_rfl) (by kernel_rfl) (by kernel_rfl) (by kernel_rfl) (fun _ _ _ h => h) (Or.inl ⟨by rfl, ?_⟩) HSd.out ?_
          rotate_left
          · (intro wq hSw; obtain ⟨q0, q1, q2, q3, q4, q5, q6, q7, q8⟩ := hSw; go_simp; all_goals (first | (with_reducible rfl) | (rw [if_neg (by first | omega | (simp; omega) | (simp only [List.length_append, List.length_cons, List.length_nil]; omega))])))
          simp only [List.getElem_toArray, List.getElem_cons_succ, List.getElem_cons_zero, Act.put, List.setIfInBounds_toArray, List.set_cons_zero, List.set_cons_succ]
          refine wpT_take (i := 7) (v := ?_) rfl (by kernel_rfl) (by kernel_rfl) (by kernel_rfl) (by kernel_rfl) (fun _ _ _ h => h) (Or.inl ⟨by rfl, ?_⟩) HSd.out ?_
          rotate_left
          · (intro wq hSw; obtain ⟨q0, q1, q2, q3, q4, q5, q6, q7, q8⟩ := hSw; go_simp; all_goals (first | (with_reducible rfl) | (rw [if_neg (by first | omega | (simp; omega) | (simp only [List.length_append, List.length_cons, List.length_nil]; omega))])))
          simp only [List.getElem_toArray, List.getElem_cons_succ, List.getElem_cons_zero, Act.put, List.setIfInBounds_toArray, List.set_cons_zero, List.set_cons_succ]
          refine wpT_take (i := 8) (v := ?_) rfl (by kernel_rfl) (by kernel_rfl) (by kernel_rfl) (by kernel_rfl) (fun _ _ _ h => h) (Or.inl ⟨by rfl, ?_⟩) HSd.out ?_
          rotate_left
          · (intro wq hSw; obtain ⟨q0, q1, q2, q3, q4, q5, q6, q7, q8⟩ := hSw; go_simp; all_goals (first | (with_reducible rfl) | (rw [if_neg (by first | omega | (simp; omega) | (simp only [List.length_append, List.length_cons, List.length_nil]; omega))])))
          simp only [List.getElem_toArray, List.getElem_cons_succ, List.getElem_cons_zero, Act.put, List.setIfInBounds_toArray, List.set_cons_zero, List.set_cons_succ]
          refine wpT_one (i := 9) rfl (by kernel_rfl) fun K hK => ?_
          go_simp
          refine HCL.out.mono ?_
          rintro e w1 ⟨hq1, v', rfl, hUV⟩
          have hb1 : Below wr.heap.size wr w1 := chain (Below.refl wr.heap.size wr).drew hq1
          have hs1 := hb1.size
          obtain ⟨lv2, kv2, rfl, m1, m2⟩ := hUV
          have M1 := Lib.hid (m1.keep (D' := fun k => (fun k => k < B ∨ w.heap.size + 3 ≤ k) k ∧ (Value.slice Ak RQ.length ck).ownBlock ≠ some k) (fun _ _ _ => rfl) (fun k hk _ => HD.out k hk))
          have M2 := Lib.hid (m2.keep (D' := fun k => (fun k => k < B ∨ w.heap.size + 3 ≤ k) k ∧ (Value.slice Ak RQ.length ck).ownBlock ≠ some k) (fun _ _ _ => rfl) (fun k hk _ => HD.out k hk))
          obtain ⟨D1, e1, rfl, -, -⟩ := m1
          obtain ⟨D2, e2, rfl, -, -⟩ := m2
          clear hq1 HCL
          refine hK.out _ _ (fun _ => HSB.out _ (hb1.mono hsN2)) ?_
          clear hK K
          try simp only [List.getElem_toArray, List.getElem_cons_succ, List.getElem_cons_zero, Act.put, List.setIfInBounds_toArray, List.set_cons_zero, List.set_cons_succ]
          refine wpT_one (i := 10) rfl (by kernel_rfl) fun K hK => ?_
          go_simp
          have hba : Below w1.heap.size w1 (w1.alloc (.cells #[.int .i64 U.kind, .string ⟨U.frm.toArray⟩, .string ⟨U.rcv.toArray⟩, .int .i64 U.sort, .string ⟨U.name.toArray⟩, .slice D1 U.labels.length e1, .slice D2 U.kids.length e2] 52)) := (Below.refl _ _).alloc (Nat.le_refl _) _
          have hbA : Below (w.heap.size + 3) wr (w1.alloc (.cells #[.int .i64 U.kind, .string ⟨U.frm.toArray⟩, .string ⟨U.rcv.toArray⟩, .int .i64 U.sort, .string ⟨U.name.toArray⟩, .slice D1 U.labels.length e1, .slice D2 U.kids.length e2] 52)) := (hb1.mono hsN2).alloc (by omega) _
          have HCC : Hid (Cells7 (fun k => (fun k => k < B ∨ w.heap.size + 3 ≤ k) k ∧ (Value.slice Ak RQ.length ck).ownBlock ≠ some k) (w1.alloc (.cells #[.int .i64 U.kind, .string ⟨U.frm.toArray⟩, .string ⟨U.rcv.toArray⟩, .int .i64 U.sort, .string ⟨U.name.toArray⟩, .slice D1 U.labels.length e1, .slice D2 U.kids.length e2] 52)) [.int .i64 U.kind, .string ⟨U.frm.toArray⟩, .string ⟨U.rcv.toArray⟩, .int .i64 U.sort, .string ⟨U.name.toArray⟩, .slice D1 U.labels.length e1, .slice D2 U.kids.length e2] [U]) := Lib.hid (.cons U _ _ [] [] (M1.out.keep (Same.below hba) (fun _ h _ => h)) (M2.out.keep (Same.below hba) (fun _ h _ => h)) .nil)
          have KR2 := (KRq.below hb1).below hba
          refine hK.out _ _ (fun _ => HSB.out _ hbA) ?_
          clear hK K M1 M2
          try simp only [List.getElem_toArray, List.getElem_cons_succ, List.getElem_cons_zero, Act.put, List.setIfInBounds_toArray, List.set_cons_zero, List.set_cons_succ]
          refine wpT_one (i := 11) rfl (by kernel_rfl) fun K hK => ?_
          refine step_app rt_gls rfl (.tmp 61) (.tmp 70) rfl (w.heap.size + 3) (.slice Ak RQ.length ck) RQ.length xs rfl KR2.kids ⟨w1.heap.size, 0, none⟩ 1 1 [.int .i64 U.kind, .string ⟨U.frm.toArray⟩, .string ⟨U.rcv.toArray⟩, .int .i64 U.sort, .string ⟨U.name.toArray⟩, .slice D1 U.labels.length e1, .slice D2 U.kids.length e2] rfl rfl (seven_new _ _ _ _ _ _ _ _ _) (by simp [Value.oneCell']) (by unfold maxLen; omega) (by omega) (by rw [World.size_alloc]; omega) (fun v3 w3 n1' n2' n3' n4' => ?_)
          have KR3 := KR2.kid HCC.out n1' n2' n3'
          have hb3 : Below (w.heap.size + 3) wr w3 := hbA.trans n4'
          obtain ⟨Aw, cw, rfl⟩ := own_form n1'
          refine hK.out _ _ (fun _ => HSB.out _ hb3) ?_
          clear hK K n1' n2' n3' n4' HCC KR2
          try simp only [List.getElem_toArray, List.getElem_cons_succ, List.getElem_cons_zero, Act.put, List.setIfInBounds_toArray, List.set_cons_zero, List.set_cons_succ]
          have GB3 := GBq.keep hb3 (by omega)
          obtain ⟨g0, g1, g2, g3, g4, g5, g6, g7, g8⟩ := id GB3
          refine wpT_one (i := 12) rfl (by kernel_rfl) fun K hK => ?_
          go_simp
          refine hK.out _ _ (fun h => absurd h (by decide)) ?_
          clear hK K
          try simp only [List.getElem_toArray, List.getElem_cons_succ, List.getElem_cons_zero, Act.put, List.setIfInBounds_toArray, List.set_cons_zero, List.set_cons_succ]
          refine wpT_one (i := 13) rfl (by kernel_rfl) fun K hK => ?_
          go_simp
          refine hK.out _ _ (fun h => absurd h (by decide)) ?_
          clear hK K
          try simp only [List.getElem_toArray, List.getElem_cons_succ, List.getElem_cons_zero, Act.put, List.setIfInBounds_toArray, List.set_cons_zero, List.set_cons_succ]
          refine wpT_done (by kernel_rfl) ?_
          have GB4 := GB3.put6 (.slice Aw (RQ.length + 1) cw)
          have KR4 := KR3.set (a := ⟨w.heap.size + 1 + 1, 6, none⟩) (by show ¬ (w.heap.size + 1 + 1 < B ∨ w.heap.size + 3 ≤ w.heap.size + 1 + 1); omega) (by show w.heap.size + 1 + 1 < _; omega) (.slice Aw (RQ.length + 1) cw)
          have hb4 : Below (w.heap.size + 1 + 1) w2 (w3.setCell ⟨w.heap.size + 1 + 1, 6, none⟩ (.slice Aw (RQ.length + 1) cw)) := (hbN.trans (hb3.mono (by omega))).setCell (Nat.le_refl _) _
          have hs4 : (w.heap.size + 3) ≤ (w3.setCell ⟨w.heap.size + 1 + 1, 6, none⟩ (.slice Aw (RQ.length + 1) cw)).heap.size := by rw [World.size_setCell]; have := hb3.size; omega
          generalize w3.setCell ⟨w.heap.size + 1 + 1, 6, none⟩ (.slice Aw (RQ.length + 1) cw) = w4 at GB4 KR4 hb4 hs4 ⊢
          clear g0 g1 g2 g3 g4 g5 g6 g7 g8 GB3 KR3 c0 c1 c2 c3 c4 c5 c6 HSd HSB
          go_wp2_with fail
          go_roundw
          case rel => exact ⟨j + 1, _, _, by omega, by go_num, GB4, by rw [e3.out]; exact KR4, hb4, hs4⟩
          case measure => simp [intOf]; omega
        · have hjL : j = ks.length := by omega
          subst hjL
          clear hlt
          rw [List.take_length] at HRQ
          have GZ3 := GZ2.keep hbN (by omega)
          obtain ⟨g0, g1, g2, g3, g4, g5, g6, g7, g8⟩ := id GBq
          obtain ⟨z0, z1, z2, z3, z4, z5, z6, z7, z8⟩ := id GZ3
          simp only [Gl.kind, Gl.frm, Gl.rcv, Gl.sort, Gl.name, zeroGl] at g0 g1 g2 g3 g4 z0 z1 z2 z3 z4
          have hbF : Below w.heap.size w wr := hb00.trans (hbN.mono (by omega))
          have K1 := KRq.strs (D' := (fun k => k < B ∨ w.heap.size + 3 ≤ k)) (fun _ h => h)
          have K2 := KRq.gls (D' := (fun k => k < B ∨ w.heap.size + 3 ≤ k)) (fun _ h => h) (fun b h => by show _ ∨ _; omega)
          go_wp2_with fail
          have GF := GZ3.fill (.mk k f2 o2 s n [] []) (.slice A0 ls.length p0) (.slice Ak RQ.length ck)
          have hbG := below_fill7 hbF (b := (w.heap.size + 1)) (by omega) (.int .i64 k) (.string ⟨f2.toArray⟩) (.string ⟨o2.toArray⟩) (.int .i64 s) (.string ⟨n.toArray⟩) (.slice A0 ls.length p0) (.slice Ak RQ.length ck)
          have hSF : Same (fun k => k < B ∨ w.heap.size + 3 ≤ k) wr _ := Same.fill7 (b := (w.heap.size + 1)) (by show ¬ (_ ∨ _); omega) (.int .i64 k) (.string ⟨f2.toArray⟩) (.string ⟨o2.toArray⟩) (.int .i64 s) (.string ⟨n.toArray⟩) (.slice A0 ls.length p0) (.slice Ak RQ.length ck)
          simp only [Gl.kind, Gl.frm, Gl.rcv, Gl.sort, Gl.name] at GF
          have K3 := K1.keep (D' := fun k => k < B ∨ w.heap.size ≤ k) hSF (fun k hk _ => by have : _ ∨ _ := hk; omega)
          have K4 := K2.keep (D' := fun k => k < B ∨ w.heap.size ≤ k) hSF (fun k hk _ => by have : _ ∨ _ := hk; omega)
          generalize (((((((wr.setCell ⟨w.heap.size + 1, 0, none⟩ (.int .i64 k)).setCell ⟨w.heap.size + 1, 1, none⟩ (.string ⟨f2.toArray⟩)).setCell ⟨w.heap.size + 1, 2, none⟩ (.string ⟨o2.toArray⟩)).setCell ⟨w.heap.size + 1, 3, none⟩ (.int .i64 s)).setCell ⟨w.heap.size + 1, 4, none⟩ (.string ⟨n.toArray⟩)).setCell ⟨w.heap.size + 1, 5, none⟩ (.slice A0 ls.length p0)).setCell ⟨w.heap.size + 1, 6, none⟩ (.slice Ak RQ.length ck)) = wF at GF hbG K3 K4 ⊢
          clear hSF
          obtain ⟨d0, d1, d2, d3, d4, d5, d6, d7, d8⟩ := GF
          simp only [Gl.kind, Gl.frm, Gl.rcv, Gl.sort, Gl.name] at d0 d1 d2 d3 d4
          refine bodyPost_ret (v := .agg #[.int .i64 k, .string ⟨f2.toArray⟩, .string ⟨o2.toArray⟩, .int .i64 s, .string ⟨n.toArray⟩, .slice A0 ls.length p0, .slice Ak RQ.length ck]) (by simp [results, Tryd.results36, go_sem, d0, d1, d2, d3, d4, d5, d6]) rfl ?_
          refine ⟨hbG, _, rfl, ?_⟩
          rw [HF2.out, HO2.out, HRQ.out]
          exact ⟨_, _, rfl, K3, K4⟩
end Go.Proofs.YtgnkncfnkjeinaaDoor
