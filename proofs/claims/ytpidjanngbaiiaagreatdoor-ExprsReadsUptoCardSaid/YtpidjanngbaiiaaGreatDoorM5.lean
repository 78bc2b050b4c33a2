/-
  The reference's pieces of an expression's text, and what it makes of them: the tokens. Plain.
  The words of big numbers in memory: trim, words, twin, small; a big number behind a pointer.
  Plain facts on words of big numbers: sums, products, how many bits.
  Words of big numbers: add.
  Words of big numbers: mul.
-/
import Derived.Test.YtpidjanngbaiiaaGreatDoorM4
namespace Go.Proofs.YtpidjanngbaiiaaGreatDoor
open Go.RowKit Go.Proofs

set_option maxRecDepth 100000
structure Pc where
 text : Str
 vs : Int
 vn : Int
 vt : Str
 lit : Bool
 at_ : Nat
 to_ : Nat
 bad : Int
 word : Bool
def pstart (l : Str) (q : Nat) (operand : Bool) : Nat := if operand = true ∧ l[q]? = some 45 then q + 1 else q
def piece (l : Str) (p : Nat) (operand : Bool) : Pc :=
  if sk l p = l.length then ⟨[], 0, 0, [], false, sk l p, sk l p, 0, false⟩
  else if wd l (sk l p) ≠ [] then
    (if wd l (sk l p) = trueS then ⟨wd l (sk l p), 2, 1, [], true, sk l p, sk l p + (wd l (sk l p)).length, 0, true⟩
     else if wd l (sk l p) = falseS then ⟨wd l (sk l p), 2, 0, [], true, sk l p, sk l p + (wd l (sk l p)).length, 0, true⟩
     else ⟨wd l (sk l p), 0, 0, [], false, sk l p, sk l p + (wd l (sk l p)).length, 0, true⟩)
  else if l[sk l p]? = some 34 then
    (match quotedR (l.drop (sk l p)) with
     | none => ⟨[], 0, 0, [], true, sk l p, sk l p, 3, false⟩
     | some (n, t) => ⟨[], 3, 0, t, true, sk l p, sk l p + n, if 100 < t.length then 2 else 0, false⟩)
  else if figs l (pstart l (sk l p) operand) ≠ [] then
    (match numR ((l.drop (sk l p)).take (pstart l (sk l p) operand + (figs l (pstart l (sk l p) operand)).length - sk l p)) with
     | none => ⟨[], 1, 0, [], true, sk l p, pstart l (sk l p) operand + (figs l (pstart l (sk l p) operand)).length, 3, false⟩
     | some n => ⟨[], 1, n, [], true, sk l p, pstart l (sk l p) operand + (figs l (pstart l (sk l p) operand)).length, 0, false⟩)
  else if sgn l (sk l p) ≠ [] then ⟨sgn l (sk l p), 0, 0, [], false, sk l p, sk l p + (sgn l (sk l p)).length, 0, false⟩
  else ⟨[], 0, 0, [], false, sk l p, sk l p, 3, false⟩
def pcOpd (c : Pc) : Yd.Opd Ex :=
 if c.bad ≠ 0 then .bad c.bad c.at_
 else if c.lit = true then .leaf (.mk 1 [] c.vs c.vn c.vt []) c.to_
 else if c.text = notS ∨ c.text = [35] then .pre c.text c.to_
 else if c.text = [45] then .pre negS c.to_
 else if c.text = [40] then .par c.to_
 else if c.word = true ∧ isName c.text = true then .leaf (.mk 2 c.text 0 0 [] []) c.to_
 else .bad 3 c.at_
theorem sgn_cases (l : Str) (q : Nat) : sgn l q = [] ∨ sgn l q ∈ signs := by
 unfold sgn
 cases h : signs.find? fun s => s.isPrefixOf (l.drop q) with
 | none => exact Or.inl rfl
 | some s => exact Or.inr (List.mem_of_find?_eq_some h)
theorem num_end {l : Str} {q : Nat} (h34 : l[q]? ≠ some 34) (hw : wd l q = []) (hf : figs l (pstart l q true) ≠ []) : pstart l q true + (figs l (pstart l q true)).length = q + litLen (l.drop q) := by
 have hd : (l.drop q).head? = l[q]? := List.head?_drop
 have low : ∀ {a : Str}, a.head?.map lowb = some true → a.isPrefixOf (l.drop q) = true → False := by
  intro a ha hp
  obtain ⟨r, hr⟩ := List.isPrefixOf_iff_prefix.1 hp
  cases a with
  | nil => simp at ha
  | cons c a =>
   simp only [List.head?_cons, Option.map_some, Option.some.injEq] at ha
   unfold wd at hw
   rw [← hr, List.cons_append, List.takeWhile_cons, ha] at hw
   simp at hw
 have nt : trueS.isPrefixOf (l.drop q) = false := by
  cases h : trueS.isPrefixOf (l.drop q) with
  | false => rfl
  | true => exact (low (by decide) h).elim
 have nf : falseS.isPrefixOf (l.drop q) = false := by
  cases h : falseS.isPrefixOf (l.drop q) with
  | false => rfl
  | true => exact (low (by decide) h).elim
 unfold litLen
 rw [if_neg (by rw [hd]; exact h34), if_neg (by rw [nt]; simp), if_neg (by rw [nf]; simp), hd, List.drop_drop]
 unfold pstart figs
 by_cases h45 : l[q]? = some 45
 ·rw [if_pos ⟨rfl, h45⟩, if_pos h45]
  omega
 ·rw [if_neg (fun h => h45 h.2), if_neg h45]
theorem piece_opd (l : Str) (p : Nat) (hp : p ≤ l.length) : pcOpd (piece l p true) = opdP l p := by
 rw [opd_same]
 have hs := sk_le hp
 unfold piece opdR
 generalize sk l p = q at hs ⊢
 by_cases h0 : q = l.length
 ·rw [if_pos h0]
  have hd : l.drop q = [] := by rw [h0, List.drop_length]
  have hw : wd l q = [] := by unfold wd; rw [hd]; rfl
  have hn : l[q]? = none := List.getElem?_eq_none (by omega)
  rw [if_neg (by rw [hw]; simp), if_neg (by rw [hn]; simp), hn, if_neg (show ¬ figs l (if (none : Option UInt8) = some 45 then q + 1 else q) ≠ [] by rw [if_neg (by simp)]; unfold figs; rw [hd]; simp), sgn_nil hd]
  rfl
 ·rw [if_neg h0]
  by_cases hw : wd l q = []
  ·rw [if_neg (show ¬ wd l q ≠ [] from fun h => h hw), if_neg (show ¬ wd l q ≠ [] from fun h => h hw)]
   by_cases h34 : l[q]? = some 34
   ·rw [if_pos h34, if_pos h34]
    cases hq : quotedR (l.drop q) with
    | none => rfl
    | some x =>
     obtain ⟨n, t⟩ := x
     show pcOpd _ = if 100 < t.length then _ else _
     by_cases h1 : 100 < t.length
     ·rw [if_pos h1]; simp only [pcOpd, if_pos h1]; rfl
     ·rw [if_neg h1]; simp only [pcOpd, if_neg h1]; rfl
   ·rw [if_neg h34, if_neg h34]
    have hps : pstart l q true = if l[q]? = some 45 then q + 1 else q := by unfold pstart; simp
    by_cases hf : figs l (pstart l q true) = []
    ·have hf' : ¬ figs l (if l[q]? = some 45 then q + 1 else q) ≠ [] := by rw [← hps]; exact fun h => h hf
     rw [if_neg (show ¬ figs l (pstart l q true) ≠ [] from fun h => h hf), if_neg hf']
     rcases sgn_cases l q with hsn | hsn
     ·rw [hsn]; rfl
     ·simp only [signs, List.mem_cons, List.not_mem_nil, or_false] at hsn
      rcases hsn with h | h | h | h | h | h | h | h | h | h | h | h <;> rw [h] <;> rfl
    ·have hf' : figs l (if l[q]? = some 45 then q + 1 else q) ≠ [] := by rw [← hps]; exact hf
     rw [if_pos hf, if_pos hf']
     rw [num_end h34 hw hf, Nat.add_sub_cancel_left]
     cases numR ((l.drop q).take (litLen (l.drop q))) <;> rfl
  ·rw [if_pos hw, if_pos hw]
   have hlow := @wd_low l q
   generalize wd l q = W at hw hlow
   have n35 : W ≠ [35] := fun e => by have := hlow 35 (by rw [e]; simp); revert this; decide
   have n45 : W ≠ [45] := fun e => by have := hlow 45 (by rw [e]; simp); revert this; decide
   have n40 : W ≠ [40] := fun e => by have := hlow 40 (by rw [e]; simp); revert this; decide
   by_cases ht : W = trueS
   ·subst ht; rfl
   ·by_cases hf : W = falseS
    ·subst hf; rfl
    ·rw [if_neg ht, if_neg hf, if_neg ht, if_neg hf]
     unfold pcOpd
     simp only
     rw [if_neg (fun h => h rfl), if_neg (by decide)]
     by_cases hn : W = notS
     ·subst hn; rfl
     ·rw [if_neg (by simp [hn, n35]), if_neg n45, if_neg n40, if_neg hn]
      cases hi : isName W with
      | true => simp
      | false => simp
theorem piece_op (l : Str) (p : Nat) (hp : p ≤ l.length) : (piece l p false).at_ = sk l p ∧ (((piece l p false).lit = true ∧ level (eword l p) = 0 ∧ eword l p ≠ [41]) ∨ ((piece l p false).lit = false ∧ (piece l p false).text = eword l p ∧ (piece l p false).to_ = sk l p + (eword l p).length ∧ ((piece l p false).bad ≠ 0 → eword l p = []))) := by
 have hs := sk_le hp
 unfold piece eword
 generalize sk l p = q at hs ⊢
 by_cases h0 : q = l.length
 ·rw [if_pos h0]
  have hd : l.drop q = [] := by rw [h0, List.drop_length]
  have hw : wd l q = [] := by unfold wd; rw [hd]; rfl
  rw [if_pos hw, sgn_nil hd]
  exact ⟨rfl, Or.inr ⟨rfl, rfl, rfl, fun h => absurd rfl h⟩⟩
 ·rw [if_neg h0]
  by_cases hw : wd l q = []
  ·rw [if_neg (fun h => h hw), if_pos hw]
   have none_sgn : ∀ b r, l.drop q = b :: r → (b = 34 ∨ figb b = true) → sgn l q = [] := by
    intro b r hd hb
    have hs := sgn_cons hd
    have ne : ∀ c : UInt8, c ≠ 34 → figb c = false → b ≠ c := fun c h1 h2 e => by
     subst e
     rcases hb with h | h
     ·exact h1 h
     ·rw [h2] at h; cases h
    rw [hs, if_neg (ne 43 (by decide) (by decide)), if_neg (ne 60 (by decide) (by decide)), if_neg (ne 61 (by decide) (by decide)), if_neg]
    rintro (h | h | h | h | h | h | h)
    ·exact ne 45 (by decide) (by decide) h
    ·exact ne 42 (by decide) (by decide) h
    ·exact ne 47 (by decide) (by decide) h
    ·exact ne 37 (by decide) (by decide) h
    ·exact ne 35 (by decide) (by decide) h
    ·exact ne 40 (by decide) (by decide) h
    ·exact ne 41 (by decide) (by decide) h
   rcases wd_none hw with hd | ⟨b, r, hd, hb⟩
   ·exfalso
    have := congrArg List.length hd
    rw [List.length_drop, List.length_nil] at this
    omega
   ·obtain ⟨hb0, -, -⟩ := at_drop hd
    by_cases h34 : l[q]? = some 34
    ·rw [if_pos h34]
     have hsn := none_sgn b r hd (Or.inl (by rw [hb0] at h34; exact Option.some.inj h34))
     rw [hsn]
     cases quotedR (l.drop q) with
     | none => exact ⟨rfl, Or.inl ⟨rfl, by decide, by decide⟩⟩
     | some x => exact ⟨rfl, Or.inl ⟨rfl, by decide, by decide⟩⟩
    ·rw [if_neg h34]
     have hps : pstart l q false = q := by unfold pstart; simp
     rw [hps]
     by_cases hf : figs l q = []
     ·rw [if_neg (fun h => h hf)]
      by_cases hsn : sgn l q = []
      ·rw [if_neg (fun h => h hsn), hsn]
       exact ⟨rfl, Or.inr ⟨rfl, rfl, rfl, fun _ => rfl⟩⟩
      ·rw [if_pos hsn]
       exact ⟨rfl, Or.inr ⟨rfl, rfl, rfl, fun h => absurd rfl h⟩⟩
     ·rw [if_pos hf]
      have hfb : figb b = true := by
       unfold figs at hf
       rw [hd, List.takeWhile_cons] at hf
       cases h : figb b with
       | true => rfl
       | false => rw [h] at hf; exact absurd rfl hf
      rw [none_sgn b r hd (Or.inr hfb)]
      cases numR ((l.drop q).take (q + (figs l q).length - q)) with
      | none => exact ⟨rfl, Or.inl ⟨rfl, by decide, by decide⟩⟩
      | some n => exact ⟨rfl, Or.inl ⟨rfl, by decide, by decide⟩⟩
  ·rw [if_pos hw, if_neg hw]
   by_cases ht : wd l q = trueS
   ·rw [if_pos ht, ht]
    exact ⟨rfl, Or.inl ⟨rfl, by decide, by decide⟩⟩
   ·rw [if_neg ht]
    by_cases hf : wd l q = falseS
    ·rw [if_pos hf, hf]
     exact ⟨rfl, Or.inl ⟨rfl, by decide, by decide⟩⟩
    ·rw [if_neg hf]
     exact ⟨rfl, Or.inr ⟨rfl, rfl, rfl, fun h => absurd rfl h⟩⟩

/- The yard's operators as they are written. -/
def opStr : Yd.Op → Str
 | .bi o _ => o
 | .un u => u
 | .br => [40]
def OpOk : Yd.Op → Prop
 | .bi o k => level o = k ∧ 0 < k
 | .un u => u = notS ∨ u = negS ∨ u = [35]
 | .br => True
def tightN (s : Str) : Int := if s = [40] then 0 else if lone s = true then 9 else level s
theorem level_not {s : Str} (h : 0 < level s) : s ≠ [40] ∧ lone s = false := by
 refine ⟨fun e => ?_, ?_⟩
 ·subst e; revert h; decide
 ·cases hl : lone s with
  | false => rfl
  | true =>
   unfold lone at hl
   simp only [Bool.or_eq_true, decide_eq_true_eq] at hl
   rcases hl with e | e | e <;> (subst e; revert h; decide)
theorem tight_op {o : Yd.Op} (h : OpOk o) : tightN (opStr o) = o.tight := by
 cases o with
 | br => rfl
 | un u => rcases h with rfl | rfl | rfl <;> rfl
 | bi o k =>
  obtain ⟨h1, h2⟩ := h
  have := level_not (s := o) (by omega)
  show tightN o = (k : Int)
  unfold tightN
  rw [if_neg this.1, if_neg (by rw [this.2]; simp), h1]
theorem lone_op {o : Yd.Op} (h : OpOk o) (hb : o ≠ .br) : lone (opStr o) = (match o with | .un _ => true | _ => false) := by
 cases o with
 | br => exact absurd rfl hb
 | un u => rcases h with rfl | rfl | rfl <;> rfl
 | bi o k => obtain ⟨h1, h2⟩ := h; exact (level_not (s := o) (by omega)).2
theorem opStr_br {o : Yd.Op} (h : OpOk o) : opStr o = [40] ↔ o = .br := by
 cases o with
 | br => exact ⟨fun _ => rfl, fun _ => rfl⟩
 | un u =>
  refine ⟨fun e => ?_, fun e => by cases e⟩
  rcases h with rfl | rfl | rfl <;> (exfalso; revert e; decide)
 | bi o k =>
  refine ⟨fun e => ?_, fun e => by cases e⟩
  obtain ⟨h1, h2⟩ := h
  exact absurd e (level_not (s := o) (by omega)).1
set_option maxRecDepth 100000
def Wds (D : Blocks) (w : World) (v : Value) (l : List Nat) : Prop := ∃ A cap, v = .slice A l.length cap ∧ l.length ≤ cap ∧ (A = none → cap = 0) ∧ (0 < l.length → ∃ b off, A = some ⟨b, off, none⟩ ∧ D b ∧ ∀ i x, l[i]? = some x → w.cell? ⟨b, off + i, none⟩ = some (.int .u32 (x : Nat)))
theorem Wds.keep {D D' : Blocks} {w w' : World} {v : Value} {l : List Nat} (h : Wds D w v l) (hs : Same D w w') (hD : ∀ b, D b → b < w.heap.size → D' b) : Wds D' w' v l := by
 obtain ⟨A, cap, h1, h2, hz, h3⟩ := h
 refine ⟨A, cap, h1, h2, hz, fun h0 => ?_⟩
 obtain ⟨b, off, e, hd, hr⟩ := h3 h0
 have hl : b < w.heap.size := by
  obtain ⟨s, hs⟩ : ∃ s, l[0]? = some s := ⟨_, List.getElem?_eq_getElem h0⟩
  exact cell_lt (hr 0 s hs)
 exact ⟨b, off, e, hD b hd hl, fun i s hi => hs.cell hd (hr i s hi)⟩
theorem Wds.below {D : Blocks} {w w' : World} {v : Value} {t : List Nat} (h : Wds D w v t) (hb : Below w.heap.size w w') : Wds D w' v t := h.keep (Same.below hb) fun _ h _ => h
theorem Wds.none (D : Blocks) (w : World) : Wds D w (.slice Option.none 0 0) [] := ⟨Option.none, 0, rfl, Nat.le_refl _, fun _ => rfl, fun h => by simp at h⟩
theorem trimW_back {l : List Nat} {k : Nat} {x : Nat} (h : l[k]? = some x) : trimW (l.take (k + 1)) = if x = 0 then trimW (l.take k) else l.take (k + 1) := by
 obtain ⟨h1, h2⟩ := List.getElem?_eq_some_iff.1 h
 rw [List.take_add_one, h]
 exact trimW_snoc _ _
set_option maxHeartbeats 1000000 in
theorem btrim_any (D : Blocks) (v : Value) (l : List Nat) (w : World) (hv : Wds D w v l) (hl : l.length ≤ 1000000) :
  Calls Tryz.prog 178 #[v] w fun e w' => (∃ v', e = .returned v' ∧ Wds D w v' (trimW l)) ∧ w' = w := by
 have HV := Lib.hid hv
 obtain ⟨A, cap, rfl, hc, hz, h3⟩ := hv
 have H3 := Lib.hid h3
 have HZ := Lib.hid hz
 obtain ⟨L, hL⟩ : ∃ L, l.length = L := ⟨_, rfl⟩
 have HL := Lib.hid hL
 rw [hL] at hc hl ⊢
 clear h3 hz hL
 obtain ⟨RES, hR⟩ : ∃ x, trimW l = x := ⟨_, rfl⟩
 have HR := Lib.hid hR
 rw [hR]
 clear hR
 go_enter Tryz.func178, Tryz.ntmps178
 go_wp2_with fail
 go_loop [3] (fun n => ∃ k : Nat, k ≤ L ∧ n = .int .i64 k ∧ Hid (trimW l = trimW (l.take k))) (fun n => (intOf n).toNat)
 case atStart => exact ⟨L, Nat.le_refl _, rfl, by show _ = _; rw [List.take_of_length_le (by have := HL.out; omega)]⟩
 case round =>
  obtain ⟨k, hk, rfl, hs⟩ := hrel
  cases k with
  | zero =>
   have hres : RES = [] := by have := hs.out; rw [HR.out] at this; rw [this]; rfl
   have HRS := Lib.hid hres
   clear hres hs
   go_wp2_with fail
   go_ret
   refine ⟨⟨_, rfl, A, cap, ?_, ?_, HZ.out, ?_⟩, rfl⟩
   ·rw [HRS.out]; rfl
   ·rw [HRS.out]; exact Nat.zero_le _
   ·rw [HRS.out]; intro h; simp at h
  | succ j =>
   obtain ⟨x, hx⟩ : ∃ y, l[j]? = some y := ⟨_, List.getElem?_eq_getElem (by have := HL.out; omega)⟩
   obtain ⟨b, off, rfl, hd, hr⟩ := H3.out (by have := HL.out; omega)
   have hcell := hr j x hx
   have HX := Lib.hid hx
   have HDR := Lib.hid (⟨hd, hr⟩ : D b ∧ ∀ i x, l[i]? = some x → w.cell? ⟨b, off + i, none⟩ = some (.int .u32 (x : Nat)))
   clear hx hr hd
   by_cases h0 : x = 0
   ·subst h0
    have hs2 : trimW l = trimW (l.take j) := by rw [hs.out, trimW_back HX.out, if_pos rfl]
    have HS2 := Lib.hid hs2
    clear hs hs2
    go_wp2_with fail
    go_round
    case rel => exact ⟨j, by omega, by go_num, HS2⟩
    case measure => first | (simp [intOf]; done) | (simp [intOf]; omega)
   ·have hs2 : RES = l.take (j + 1) := by rw [← HR.out, hs.out, trimW_back HX.out, if_neg h0]
    have HS2 := Lib.hid hs2
    have hx0 : ((x : Int) == 0) = false := by rw [beq_eq_false_iff_ne]; omega
    clear hs hs2 h0
    go_wp2_with fail
    go_ret
    have hlen : RES.length = j + 1 := by rw [HS2.out, List.length_take]; have := HL.out; omega
    refine ⟨⟨_, rfl, some ⟨b, off, none⟩, cap, ?_, by omega, (fun e => by cases e), fun _ => ⟨b, off, rfl, HDR.out.1, fun i y hi => ?_⟩⟩, rfl⟩
    ·rw [hlen]; rfl
    ·rw [HS2.out] at hi
     exact HDR.out.2 i y (by rw [List.getElem?_take] at hi; split at hi <;> first | exact hi | cases hi)
theorem two_words (n : Nat) (h : n < 18446744073709551616) : trimW [n % 4294967296, n / 4294967296] = wordsOf n := by
 rw [trim_words (fun d hd => by simp at hd; rcases hd with rfl | rfl <;> omega)]
 simp only [wval]
 congr 1
 omega
theorem rt_words : RowType Tryz.prog 183 217 1 4 := .mk' (z := .int .u32 0) Tryz.underlying183 (by kernel_rfl) rfl (by decide)
theorem own_wds {D : Blocks} {w : World} {base : Nat} {E : TypeId} {v : Value} {l : List Nat} (h : w.ownsRow base E 1 v l.length (l.map fun x : Nat => .int .u32 x)) (hD : ∀ b, base ≤ b → D b) : Wds D w v l := by
 have hcells := fun g => h.cells (g := g)
 rcases h.2 with ⟨rfl, h0⟩ | ⟨g, cap, cur, rfl, hg, _, hn, _⟩
 ·exact ⟨Option.none, 0, by rw [h0], by omega, fun _ => rfl, fun h1 => by omega⟩
 ·refine ⟨_, cap, rfl, hn, (fun e => by cases e), fun _ => ⟨g, 0, rfl, hD g hg, fun i x hi => ?_⟩⟩
  have := hcells g rfl i (.int .u32 (x : Nat)) (by rw [List.getElem?_map, hi]; rfl)
  rw [Go.WideShapes.add_plain] at this
  exact this
theorem Wds.src {D : Blocks} {w : World} {A : Option Addr} {n c : Nat} {l : List Nat} (h : Wds D w (.slice A n c) l) : ∀ ad, A = some ad → ∀ j u, (l.map fun x : Nat => Value.int .u32 x)[j]? = some u → w.cell? (ad.add j) = some u := by
 obtain ⟨A', c', e, _, _, h3⟩ := h
 injection e with e1 e2 e3
 subst e1
 intro ad e j u hj
 have hjl : j < l.length := by
  have := (List.getElem?_eq_some_iff.1 hj).1
  simpa using this
 obtain ⟨b, off, e', _, hr⟩ := h3 (by omega)
 rw [e] at e'
 obtain rfl := Option.some.inj e'
 rw [List.getElem?_map, List.getElem?_eq_getElem hjl] at hj
 simp only [Option.map_some, Option.some.injEq] at hj
 subst hj
 rw [Go.WideShapes.add_plain]
 exact hr j _ (List.getElem?_eq_getElem hjl)
set_option maxHeartbeats 1000000 in
theorem words_any (n : Nat) (w : World) (hn : n < 18446744073709551616) :
  Calls Tryz.prog 155 #[.int .u64 n] w fun e w' => (∃ v', e = .returned v' ∧ Wds (fun k => w.heap.size ≤ k) w' v' (wordsOf n)) ∧ Below w.heap.size w w' := by
 have HN := Lib.hid (two_words n hn)
 go_enter Tryz.func155, Tryz.ntmps155
 go_wp2_with fail
 refine (btrim_any (fun k => w.heap.size ≤ k) _ [n % 4294967296, n / 4294967296] _ ⟨_, 2, rfl, Nat.le_refl _, (fun e => by cases e), fun _ => ⟨w.heap.size, 0, rfl, Nat.le_refl _, fun i x hi => ?_⟩⟩ (by simp)).mono ?_
 ·match i, hi with
  | 0, hi | 1, hi => simp at hi; subst hi; simp [go_sem]
  | i + 2, hi => simp at hi
 ·rintro e w1 ⟨⟨v, rfl, hv⟩, rfl⟩
  rw [HN.out] at hv
  go_wp2_with fail
  go_ret
  exact ⟨⟨v, rfl, hv⟩, by go_grown⟩
set_option maxHeartbeats 1000000 in
theorem btwin_any (D : Blocks) (v : Value) (l : List Nat) (w : World) (hv : Wds D w v l) (hl : l.length ≤ 1000000) :
  Calls Tryz.prog 179 #[v] w fun e w' => (∃ v', e = .returned v' ∧ Wds (fun k => w.heap.size ≤ k) w' v' l) ∧ Below w.heap.size w w' := by
 have HV := Lib.hid hv
 obtain ⟨A, cap, rfl, hc, hz, h3⟩ := hv
 have hA : A = none → l.length = 0 ∧ cap = 0 := fun e => ⟨by have := hz e; omega, hz e⟩
 have HA := Lib.hid hA
 clear hz h3 hA
 go_enter Tryz.func179, Tryz.ntmps179
 go_wp2_with (at_builtin; go_must (refine wpList_app_any rt_words rfl (.const (.slice none 0 0)) (.tmp 3) rfl w.heap.size _ 0 [] rfl (World.ownsRow_nil _ _ _ _) A l.length cap rfl (l.map fun x : Nat => .int .u32 x) (by simp) HA.out HV.out.src (by intro u hu; obtain ⟨s, _, rfl⟩ := List.mem_map.1 hu; rfl) (by unfold maxLen; omega) (by omega) (Nat.le_refl _) ?_; intro v1 w2 o1 o2; simp only [Nat.zero_add, List.nil_append] at o1; obtain ⟨A5, c5, rfl⟩ := own_form o1))
 go_ret
 exact ⟨⟨_, rfl, own_wds o1 fun _ h => h⟩, o2⟩
def qd (d : Nat) : List Nat → List Nat
 | [] => []
 | x :: r => ((wval r % d) * 4294967296 + x) / d :: qd d r
theorem qd_len (d : Nat) : ∀ l, (qd d l).length = l.length
 | [] => rfl
 | x :: r => by simp [qd, qd_len d r]
theorem qd_val (d : Nat) (hd : 0 < d) : ∀ l, wval (qd d l) = wval l / d
 | [] => by simp [qd, wval]
 | x :: r => by
  simp only [qd, wval, qd_val d hd r]
  have h := Nat.div_add_mod (wval r) d
  have : x + 4294967296 * wval r = ((wval r % d) * 4294967296 + x) + d * (4294967296 * (wval r / d)) := by
   have h2 : 4294967296 * wval r = 4294967296 * (d * (wval r / d) + wval r % d) := by rw [h]
   rw [h2, Nat.mul_add, ← Nat.mul_assoc, Nat.mul_comm 4294967296 d, Nat.mul_assoc, Nat.mul_comm 4294967296 (wval r % d)]
   omega
  rw [this, Nat.add_mul_div_left _ _ hd]
theorem qd_ws (d : Nat) (hd : 0 < d) (hd2 : d < 4294967296) : ∀ l, Ws l → Ws (qd d l)
 | [], _ => by intro x hx; simp [qd] at hx
 | x :: r, h => by
  intro y hy
  simp only [qd, List.mem_cons] at hy
  rcases hy with rfl | hy
  ·have h1 := h x (by simp)
   have h2 := Nat.mod_lt (wval r) hd
   have h3 := Nat.mul_le_mul_right 4294967296 (show wval r % d + 1 ≤ d from h2)
   generalize wval r % d = m at h2 h3 ⊢
   rw [Nat.div_lt_iff_lt_mul hd]
   rw [Nat.add_mul] at h3
   omega
  ·exact qd_ws d hd hd2 r (fun z hz => h z (by simp [hz])) y hy
theorem qd_at (d : Nat) : ∀ (l : List Nat) (i : Nat) (x : Nat), l[i]? = some x → (qd d l)[i]? = some (((wval (l.drop (i + 1)) % d) * 4294967296 + x) / d)
 | [], i, x, h => by simp at h
 | y :: r, 0, x, h => by simp at h; subst h; simp [qd]
 | y :: r, i + 1, x, h => by
  simp only [List.getElem?_cons_succ] at h
  simp only [qd, List.getElem?_cons_succ, List.drop_succ_cons]
  exact qd_at d r i x h
theorem rem_step (d : Nat) (l : List Nat) (i x : Nat) (h : l[i]? = some x) : wval (l.drop i) % d = ((wval (l.drop (i + 1)) % d) * 4294967296 + x) % d := by
 obtain ⟨h1, h2⟩ := List.getElem?_eq_some_iff.1 h
 rw [List.drop_eq_getElem_cons h1, h2]
 simp only [wval]
 generalize wval (l.drop (i + 1)) = W
 rw [Nat.add_comm x, Nat.mul_comm 4294967296]
 conv => lhs; rw [Nat.add_mod, Nat.mul_mod]
 conv => rhs; rw [Nat.add_mod, Nat.mul_mod, Nat.mod_mod]
theorem block_set {w : World} {b : Nat} {C : Array Value} {T : TypeId} (h : w.heap[b]? = some (.cells C T (0, 0))) (i : Nat) (v : Value) : (w.setCell ⟨b, i, none⟩ v).heap[b]? = some (.cells (C.setIfInBounds i v) T (0, 0)) := by
 unfold World.setCell
 simp only [Array.getElem?_modify, if_true, h, Option.map_some]
 rfl
theorem bits_or (a b : Nat) (ha : a < 18446744073709551616) (hb : b < 18446744073709551616) : bits .or .u64 (a : Int) (b : Int) = ((a ||| b : Nat) : Int) := by
 have e : ∀ n : Nat, n < 18446744073709551616 → (BitVec.ofInt 64 (n : Int)).toNat = n := fun n hn => by
  rw [BitVec.ofInt_natCast, BitVec.toNat_ofNat]
  exact Nat.mod_eq_of_lt hn
 have hor : a ||| b < 18446744073709551616 := Nat.or_lt_two_pow (n := 64) ha hb
 show IntKind.u64.wrap (((BitVec.ofInt 64 (a : Int)) ||| (BitVec.ofInt 64 (b : Int))).toNat : Int) = _
 rw [BitVec.toNat_or, e a ha, e b hb, Go.IntWalk.u64_in _ (by omega)]
theorem or_add (r x : Nat) (hx : x < 4294967296) : r * 4294967296 ||| x = r * 4294967296 + x := by
 have := Nat.shiftLeft_add_eq_or_of_lt (i := 32) hx r
 rw [Nat.shiftLeft_eq] at this
 exact this.symm
set_option maxHeartbeats 2000000 in
theorem bsmall_any (D : Blocks) (v : Value) (l : List Nat) (d : Nat) (w : World) (hv : Wds D w v l) (hl : l.length ≤ 1000000) (h0 : 0 < l.length) (hd0 : 0 < d) (hd : d < 4294967296) (hW : Ws l) :
  Calls Tryz.prog 180 #[v, .int .u32 d] w fun e w' => (∃ v', e = .returned (.tuple #[v', .int .u32 (wval l % d : Nat)]) ∧ Wds (fun k => w.heap.size ≤ k) w' v' (wordsOf (wval l / d))) ∧ Below w.heap.size w w' := by
 have HV := Lib.hid hv
 obtain ⟨A, cap, rfl, hc, hz, h3⟩ := hv
 obtain ⟨b, off, rfl, hD, hr⟩ := h3 h0
 have HR := Lib.hid hr
 obtain ⟨L, hL⟩ : ∃ L, l.length = L := ⟨_, rfl⟩
 have HL := Lib.hid hL
 rw [hL] at hc hl h0 ⊢
 have HW := Lib.hid hW
 clear h3 hz hL hr hW
 obtain ⟨i0, z0, hi, hz0, hz1, hz2, -⟩ := rt_words.ex
 obtain ⟨M, hM⟩ : ∃ M, M = madeCells z0.cells ((L : Int).toNat * i0.size) := ⟨_, rfl⟩
 have hMs : M.size = L := by rw [hM, size_madeCells, hz1]; simp
 have hmk : ∀ W : World, (Instr.makeSlice 183 (.int .i64 (L : Int)) (.int .i64 (L : Int))).run Tryz.prog W = .ok (.slice (some ⟨W.heap.size, 0, none⟩) L L) (W.alloc (.cells M 217)) := fun W => by
  have h := run_make (P := Tryz.prog) W 183 217 i0 _ Tryz.underlying183 hi hz0 .i64 .i64 (L : Int) (L : Int) (by omega) (by omega) (by rw [hz2]; omega) (by omega)
  rw [← hM] at h
  simpa using h
 have HMS := Lib.hid hMs
 clear hM hi hz0 hz1 hz2 hMs
 go_enter Tryz.func180, Tryz.ntmps180
 go_wp2_with fail
 obtain ⟨W, hW⟩ : ∃ W, w.alloc (.cells M 217) = W := ⟨_, rfl⟩
 have hbW : Below w.heap.size w W := by subst hW; go_grown
 have hblk : W.heap[w.heap.size]? = some (.cells M 217 (0, 0)) := by subst hW; show (w.heap.push _)[w.heap.size]? = _; simp
 try rw [hW]
 clear hW
 go_loopw [7, 8] (fun r i wr => ∃ (j : Nat) (C : Array Value), j ≤ L ∧ i = .int .i64 ((j : Int) - 1) ∧ r = .int .u64 ((wval (l.drop j) % d : Nat) : Int) ∧ wr.heap[w.heap.size]? = some (.cells C 217 (0, 0)) ∧ C.size = L ∧ Hid (∀ i x, j ≤ i → (qd d l)[i]? = some x → C[i]? = some (.int .u32 (x : Nat))) ∧ Below w.heap.size w wr) (fun _ i _ => ((intOf i) + 1).toNat)
 case atStart =>
  refine ⟨L, M, Nat.le_refl _, rfl, ?_, hblk, HMS.out, fun i x h1 h2 => ?_, hbW⟩
  ·rw [List.drop_of_length_le (by have := HL.out; omega)]; rfl
  ·have := (List.getElem?_eq_some_iff.1 h2).1
   rw [qd_len, HL.out] at this
   omega
 case round =>
  clear hbW hblk
  obtain ⟨j, C, hj, rfl, rfl, hblk, hC, hq, hbw⟩ := hrel
  cases j with
  | zero =>
   rw [show (((0 : Nat) : Int) - 1) = -1 by omega]
   obtain ⟨R, hR⟩ : ∃ R, wval (l.drop 0) % d = R := ⟨_, rfl⟩
   have hRl : R < 4294967296 := by rw [← hR]; exact Nat.lt_trans (Nat.mod_lt _ hd0) hd
   rw [hR]
   have HRR := Lib.hid hR
   have hCl : C.toList = (qd d l).map fun x : Nat => Value.int .u32 x := by
    apply List.ext_getElem?
    intro i
    rw [List.getElem?_map]
    cases hx : (qd d l)[i]? with
    | none =>
     have h1 := List.getElem?_eq_none_iff.1 hx
     rw [qd_len, HL.out] at h1
     simp only [Option.map_none]
     exact List.getElem?_eq_none (by simp; omega)
    | some x => simpa using hq.out i x (Nat.zero_le _) hx
   have HWd : Wds (fun k => w.heap.size ≤ k) wr (.slice (some ⟨w.heap.size, 0, none⟩) L L) (qd d l) := by
    refine ⟨_, L, by rw [qd_len, HL.out], by rw [qd_len, HL.out]; exact Nat.le_refl _, (fun e => by cases e), fun _ => ⟨w.heap.size, 0, rfl, Nat.le_refl _, fun i x hi => ?_⟩⟩
    rw [Lib.cell_of_heap hblk, Nat.zero_add]
    exact hq.out i x (Nat.zero_le _) hi
   clear hR hq hCl
   go_wp2_with fail
   refine (btrim_any _ _ (qd d l) wr HWd (by rw [qd_len, HL.out]; exact hl)).mono ?_
   rintro e w1 ⟨⟨v, rfl, hv⟩, rfl⟩
   go_wp2_with fail
   refine bodyPost_ret (v := .tuple #[v, .int .u32 R]) (by simp [results, Tryz.results180, go_sem]) rfl ⟨⟨v, ?_, ?_⟩, hbw⟩
   ·have := HRR.out
    rw [List.drop_zero] at this
    rw [this]
   ·rw [trim_words (qd_ws d hd0 hd l HW.out), qd_val d hd0] at hv
    exact hv
  | succ j =>
   rw [show (((j + 1 : Nat) : Int) - 1) = (j : Int) by omega]
   obtain ⟨x, hx⟩ : ∃ y, l[j]? = some y := ⟨_, List.getElem?_eq_getElem (by have := HL.out; omega)⟩
   have hxl : x < 4294967296 := HW.out x (mem_of_at hx)
   have hcell : wr.cell? ⟨b, off + j, none⟩ = some (.int .u32 (x : Nat)) := cell_keep (HR.out j x hx) hbw
   obtain ⟨R, hR⟩ : ∃ R, wval (l.drop (j + 1)) % d = R := ⟨_, rfl⟩
   have hRl : R < 4294967296 := by rw [← hR]; exact Nat.lt_trans (Nat.mod_lt _ hd0) hd
   have hstep := rem_step d l j x hx
   have hqat := qd_at d l j x hx
   rw [hR] at hstep hqat ⊢
   have hRd : R < d := by rw [← hR]; exact Nat.mod_lt _ hd0
   have hor := bits_or (R * 4294967296) x (by omega) (by omega)
   rw [or_add R x hxl, Int.natCast_mul] at hor
   obtain ⟨N, hN⟩ : ∃ N, R * 4294967296 + x = N := ⟨_, rfl⟩
   have hNq : N / d < 4294967296 := by
    rw [Nat.div_lt_iff_lt_mul hd0, ← hN]
    have h3 := Nat.mul_le_mul_right 4294967296 (show R + 1 ≤ d from hRd)
    rw [Nat.add_mul] at h3
    omega
   have hN64 : N < 18446744073709551616 := by omega
   rw [hN] at hstep hqat hor
   have hor' : bits BinOp.or IntKind.u64 ((R : Int) * 4294967296) (x : Int) = (N : Int) := hor
   have hN0 : (0 : Int) ≤ (N : Int) := Int.natCast_nonneg _
   have hN1 : (N : Int) ≤ 18446744073709551615 := by omega
   have hd1 : (0 : Int) < (d : Int) := by omega
   have HST := Lib.hid hstep
   have HQA := Lib.hid hqat
   obtain ⟨cv, hc1⟩ : ∃ cv, wr.cell? ⟨w.heap.size, j, none⟩ = some cv := ⟨_, by rw [Lib.cell_of_heap hblk]; exact Array.getElem?_eq_getElem (by omega)⟩
   have hc2 : wr.frozen? ⟨w.heap.size, j, none⟩ = false := Lib.frozen_of_heap hblk j
   have hq1 : (N : Int) / (d : Int) ≤ 4294967295 := by
    have h : ((N / d : Nat) : Int) ≤ 4294967295 := by omega
    rw [Int.natCast_ediv] at h
    exact h
   have hq0 : 0 ≤ (N : Int) / (d : Int) := by
    have h : 0 ≤ ((N / d : Nat) : Int) := Int.natCast_nonneg _
    rw [Int.natCast_ediv] at h
    exact h
   have HB := Lib.hid hblk
   have HC := Lib.hid hC
   clear hstep hqat hR hN hx hC hblk hor
   go_wp2_with fail
   go_roundw
   case rel =>
    refine ⟨j, C.setIfInBounds j (.int .u32 ((N : Int) / (d : Int))), by omega, rfl, ?_, block_set HB.out j _, by rw [Array.size_setIfInBounds]; exact HC.out, fun i y h1 h2 => ?_, hbw.setCell (p := ⟨w.heap.size, j, none⟩) (Nat.le_refl _) _⟩
    ·rw [HST.out, Int.natCast_emod]
    ·rcases Nat.eq_or_lt_of_le h1 with e | h3
     ·subst e
      rw [HQA.out] at h2
      obtain rfl := Option.some.inj h2
      rw [Array.getElem?_setIfInBounds_self_of_lt (by have := HC.out; omega), Int.natCast_ediv]
     ·rw [Array.getElem?_setIfInBounds_ne (by omega)]
      exact hq.out i y (by omega) h2
   case measure => simp [intOf] <;> omega
theorem wval_take_succ (l : List Nat) (i : Nat) : wval (l.take (i + 1)) = wval (l.take i) + 4294967296 ^ i * l.getD i 0 := by
 by_cases h : i < l.length
 ·have e : l.take (i + 1) = l.take i ++ [l[i]] := by rw [List.take_add_one, List.getElem?_eq_getElem h]; rfl
  rw [e, wval_app, List.length_take, Nat.min_eq_left (by omega)]
  have : l.getD i 0 = l[i] := by simp [List.getD, List.getElem?_eq_getElem h]
  rw [this]
  simp [wval]
 ·have : l.getD i 0 = 0 := by simp [List.getD, List.getElem?_eq_none (Nat.le_of_not_lt h)]
  rw [this, List.take_of_length_le (by omega), List.take_of_length_le (by omega)]
  omega
theorem getD_at {l : List Nat} {i x : Nat} (h : l[i]? = some x) : l.getD i 0 = x := by simp [List.getD, h]
theorem add_word {S a b : List Nat} {i c t : Nat} (hl : S.length = i) (h : wval S + c * 4294967296 ^ i = wval (a.take i) + wval (b.take i)) (ht : t = c + a.getD i 0 + b.getD i 0) :
  wval (S ++ [t % 4294967296]) + t / 4294967296 * 4294967296 ^ (i + 1) = wval (a.take (i + 1)) + wval (b.take (i + 1)) := by
 rw [wval_app, wval_take_succ, wval_take_succ, hl, Nat.pow_succ]
 have e : wval [t % 4294967296] = t % 4294967296 := by simp [wval]
 rw [e]
 generalize 4294967296 ^ i = B at *
 have h1 : 4294967296 * (t / 4294967296) + t % 4294967296 = t := Nat.div_add_mod t 4294967296
 have h2 : B * (t % 4294967296) + t / 4294967296 * (B * 4294967296) = B * t := by
  conv => rhs; rw [← h1]
  rw [Nat.mul_add, Nat.mul_comm (t / 4294967296), Nat.mul_assoc]
  omega
 rw [Nat.add_assoc, h2, ht, Nat.mul_add, Nat.mul_add, Nat.mul_comm B c]
 omega
theorem wval_set : ∀ (R : List Nat) (k x y : Nat), R[k]? = some y → wval (R.set k x) + 4294967296 ^ k * y = wval R + 4294967296 ^ k * x := by
 intro R
 induction R with
 | nil => intro k x y h; simp at h
 | cons d R ih =>
  intro k x y h
  cases k with
  | zero =>
   simp at h
   subst h
   simp [wval]
   omega
  | succ k =>
   simp only [List.getElem?_cons_succ] at h
   have := ih k x y h
   simp only [List.set_cons_succ, wval, Nat.pow_succ]
   have e1 : 4294967296 ^ k * 4294967296 * y = 4294967296 * (4294967296 ^ k * y) := by rw [Nat.mul_comm (4294967296 ^ k), Nat.mul_assoc]
   have e2 : 4294967296 ^ k * 4294967296 * x = 4294967296 * (4294967296 ^ k * x) := by rw [Nat.mul_comm (4294967296 ^ k), Nat.mul_assoc]
   rw [e1, e2]
   omega
theorem ws_set {R : List Nat} (h : Ws R) (k : Nat) {x : Nat} (hx : x < 4294967296) : Ws (R.set k x) := fun d hd => by
 rcases List.mem_or_eq_of_mem_set hd with h1 | h1
 ·exact h d h1
 ·omega
theorem ws_snoc {R : List Nat} (h : Ws R) {x : Nat} (hx : x < 4294967296) : Ws (R ++ [x]) := fun d hd => by
 rcases List.mem_append.1 hd with h1 | h1
 ·exact h d h1
 ·simp at h1; omega
theorem mul_word {R b : List Nat} {V i j c x t y : Nat} (h : wval R + c * 4294967296 ^ (i + j) = V + x * wval (b.take j) * 4294967296 ^ i) (hy : R[i + j]? = some y) (ht : t = c + x * b.getD j 0 + y) :
  wval (R.set (i + j) (t % 4294967296)) + t / 4294967296 * 4294967296 ^ (i + (j + 1)) = V + x * wval (b.take (j + 1)) * 4294967296 ^ i := by
 have hs := wval_set R (i + j) (t % 4294967296) y hy
 rw [wval_take_succ]
 have e : 4294967296 ^ (i + (j + 1)) = 4294967296 ^ (i + j) * 4294967296 := by rw [← Nat.add_assoc, Nat.pow_succ]
 rw [e, Nat.mul_add, Nat.add_mul]
 have e2 : x * (4294967296 ^ j * b.getD j 0) * 4294967296 ^ i = 4294967296 ^ (i + j) * (x * b.getD j 0) := by
  rw [Nat.pow_add]
  simp only [Nat.mul_comm, Nat.mul_left_comm, Nat.mul_assoc]
 rw [e2]
 generalize 4294967296 ^ (i + j) = B at *
 have h1 : 4294967296 * (t / 4294967296) + t % 4294967296 = t := Nat.div_add_mod t 4294967296
 have h2 : B * (t % 4294967296) + t / 4294967296 * (B * 4294967296) = B * t := by
  conv => rhs; rw [← h1]
  rw [Nat.mul_add, Nat.mul_comm (t / 4294967296), Nat.mul_assoc]
  omega
 have h3 : B * t = c * B + B * (x * b.getD j 0) + B * y := by rw [ht, Nat.mul_add, Nat.mul_add, Nat.mul_comm B c]
 omega
theorem mul_last {R a b : List Nat} {i c : Nat} (h : wval R + c * 4294967296 ^ (i + b.length) = wval (a.take i) * wval b + a.getD i 0 * wval (b.take b.length) * 4294967296 ^ i) (hy : R[i + b.length]? = some 0) :
  wval (R.set (i + b.length) c) = wval (a.take (i + 1)) * wval b := by
 have hs := wval_set R (i + b.length) c 0 hy
 rw [List.take_length] at h
 rw [wval_take_succ, Nat.add_mul]
 have e2 : 4294967296 ^ i * a.getD i 0 * wval b = a.getD i 0 * wval b * 4294967296 ^ i := by simp only [Nat.mul_comm, Nat.mul_left_comm, Nat.mul_assoc]
 rw [e2, Nat.mul_comm c] at *
 omega
def bits1 (x : Nat) : Nat := if h : x = 0 then 0 else bits1 (x / 2) + 1
termination_by x
decreasing_by omega
theorem bits1_lt (k : Nat) : ∀ (x : Nat), x < 2 ^ k ↔ bits1 x ≤ k := by
 induction k with
 | zero =>
  intro x
  constructor
  ·intro h
   have : x = 0 := by simpa using h
   subst this
   rw [bits1]
   simp
  ·intro h
   rw [bits1] at h
   split at h
   ·simp [*]
   ·omega
 | succ k ih =>
  intro x
  by_cases h0 : x = 0
  ·subst h0
   constructor
   ·intro _
    rw [bits1]
    simp
   ·intro _
    exact Nat.two_pow_pos _
  ·rw [bits1, dif_neg h0, Nat.pow_succ]
   have := ih (x / 2)
   omega
def bitsW (l : List Nat) : Nat := match l.getLast? with
 | none => 0
 | some t => (l.length - 1) * 32 + bits1 t
theorem bitsW_lt {l : List Nat} (h1 : Ws l) (h2 : Trimmed l) (k : Nat) : wval l < 2 ^ k ↔ bitsW l ≤ k := by
 cases hl : l.getLast? with
 | none =>
  have : l = [] := List.getLast?_eq_none_iff.1 hl
  subst this
  simp [bitsW, wval, Nat.two_pow_pos]
 | some t =>
  have ht : t ≠ 0 := h2 t hl
  obtain ⟨r, rfl⟩ : ∃ r, l = r ++ [t] := by
   obtain ⟨ne, e⟩ := List.getLast?_eq_some_iff.1 hl
   exact ⟨_, e⟩
  have hr : Ws r := fun d hd => h1 d (by simp [hd])
  have hb : bitsW (r ++ [t]) = r.length * 32 + bits1 t := by simp [bitsW]
  rw [hb, wval_app]
  have hw := wval_lt hr
  have ev : wval [t] = t := by simp [wval]
  rw [ev]
  have ep : (4294967296 : Nat) ^ r.length = 2 ^ (r.length * 32) := by
   rw [Nat.mul_comm, Nat.pow_mul]
  rw [ep] at hw ⊢
  by_cases hk : r.length * 32 ≤ k
  ·obtain ⟨m, rfl⟩ : ∃ m, k = r.length * 32 + m := ⟨k - r.length * 32, by omega⟩
   rw [Nat.pow_add]
   generalize 2 ^ (r.length * 32) = B at *
   have hm := bits1_lt m t
   constructor
   ·intro h
    have : t < 2 ^ m := by
     rcases Nat.lt_or_ge t (2 ^ m) with h3 | h3
     ·exact h3
     ·have := Nat.mul_le_mul_left B h3
      omega
    have := hm.1 this
    omega
   ·intro h
    have : t < 2 ^ m := hm.2 (by omega)
    have h4 := Nat.mul_le_mul_left B (show t + 1 ≤ 2 ^ m from this)
    rw [Nat.mul_add] at h4
    omega
  ·have hb1 : 1 ≤ bits1 t := by
    rw [bits1, dif_neg ht]
    omega
   constructor
   ·intro h
    have h5 : 2 ^ k ≤ 2 ^ (r.length * 32) := Nat.pow_le_pow_right (by decide) (by omega)
    have h6 : 2 ^ (r.length * 32) ≤ 2 ^ (r.length * 32) * t := Nat.le_mul_of_pos_right _ (by omega)
    omega
   ·intro h
    omega
set_option maxRecDepth 100000
abbrev wcells (l : List Nat) : List Value := l.map fun x : Nat => Value.int .u32 x
theorem wcells_set (l : List Nat) (k x : Nat) : ((wcells l).toArray).setIfInBounds k (.int .u32 (x : Nat)) = (wcells (l.set k x)).toArray := by
 apply Array.ext'
 simp [List.map_set]
theorem made_words (n : Nat) : madeCells #[Value.int .u32 0] n = (wcells (List.replicate n 0)).toArray := by
 apply Array.ext'
 rw [toList_madeCells_one]
 simp
theorem wds_block {w : World} {q : Nat} {T : TypeId} {l : List Nat} {D : Blocks} (h : w.heap[q]? = some (.cells (wcells l).toArray T (0, 0))) (hD : D q) : Wds D w (.slice (some ⟨q, 0, none⟩) l.length l.length) l := by
 refine ⟨_, l.length, rfl, Nat.le_refl _, (fun e => by cases e), fun _ => ⟨q, 0, rfl, hD, fun i x hi => ?_⟩⟩
 rw [Lib.cell_of_heap h, Nat.zero_add]
 simp [wcells, hi]
theorem wds_at {D : Blocks} {w : World} {A : Option Addr} {n c : Nat} {l : List Nat} (h : Wds D w (.slice A n c) l) {i x : Nat} (hi : l[i]? = some x) : ∃ b off, A = some ⟨b, off, none⟩ ∧ D b ∧ w.cell? ⟨b, off + i, none⟩ = some (.int .u32 (x : Nat)) := by
 obtain ⟨A', c', e, _, _, h3⟩ := h
 injection e with e1 e2 e3
 subst e1
 have hl := (List.getElem?_eq_some_iff.1 hi).1
 obtain ⟨b, off, e', hd, hr⟩ := h3 (by omega)
 exact ⟨b, off, e', hd, hr i x hi⟩
theorem wds_form {D : Blocks} {w : World} {v : Value} {l : List Nat} (h : Wds D w v l) : ∃ A c, v = .slice A l.length c ∧ Wds D w (.slice A l.length c) l := by
 obtain ⟨A, c, rfl, h1⟩ := h
 exact ⟨A, c, rfl, A, c, rfl, h1⟩

def AddInv (a b : List Nat) (q : Nat) (T : TypeId) (L j c : Nat) (w : World) : Prop := ∃ (S : List Nat) (C : Array Value), S.length = j ∧ Ws S ∧ wval S + c * 4294967296 ^ j = wval (a.take j) + wval (b.take j) ∧ w.heap[q]? = some (.cells C T (0, 0)) ∧ C.size = L + 1 ∧ ∀ (i x : Nat), S[i]? = some x → C[i]? = some (.int .u32 (x : Nat))
theorem AddInv.step {a b : List Nat} {q : Nat} {T : TypeId} {L j c t : Nat} {w : World} (h : AddInv a b q T L j c w) (hj : j ≤ L) (ht : t = c + a.getD j 0 + b.getD j 0) : AddInv a b q T L (j + 1) (t / 4294967296) (w.setCell ⟨q, j, none⟩ (.int .u32 ((t % 4294967296 : Nat) : Int))) := by
 obtain ⟨S, C, h1, h2, h3, h4, h5, h6⟩ := h
 refine ⟨S ++ [t % 4294967296], _, by rw [List.length_append, List.length_singleton, h1], ws_snoc h2 (Nat.mod_lt _ (by decide)), add_word h1 h3 ht, block_set h4 j _, by rw [Array.size_setIfInBounds]; exact h5, fun i x hi => ?_⟩
 rcases Nat.lt_trichotomy i j with h7 | h7 | h7
 ·rw [List.getElem?_append_left (by omega)] at hi
  rw [Array.getElem?_setIfInBounds, if_neg (by omega)]
  exact h6 i x hi
 ·subst h7
  rw [List.getElem?_append_right (by omega), h1, Nat.sub_self] at hi
  simp only [List.getElem?_cons_zero, Option.some.injEq] at hi
  rw [Array.getElem?_setIfInBounds, if_pos rfl, if_pos (by omega), hi]
 ·rw [List.getElem?_append_right (by omega), List.getElem?_eq_none (by simp; omega)] at hi
  cases hi
theorem AddInv.last {a b : List Nat} {q : Nat} {T : TypeId} {L c : Nat} {w : World} (h : AddInv a b q T L L c w) (ha : a.length = L) (hb : b.length ≤ L) (hc : c < 4294967296) : ∃ l, Ws l ∧ l.length = L + 1 ∧ wval l = wval a + wval b ∧ (w.setCell ⟨q, L, none⟩ (.int .u32 (c : Nat))).heap[q]? = some (.cells (wcells l).toArray T (0, 0)) := by
 obtain ⟨S, C, h1, h2, h3, h4, h5, h6⟩ := h
 refine ⟨S ++ [c], ws_snoc h2 hc, by simp [h1], ?_, ?_⟩
 ·rw [wval_app, h1]
  rw [List.take_of_length_le (by omega), List.take_of_length_le (by omega)] at h3
  have : wval [c] = c := by simp [wval]
  rw [this, Nat.mul_comm]
  exact h3
 ·rw [block_set h4 L _]
  congr 2
  apply Array.ext'
  apply List.ext_getElem?
  intro i
  rw [Array.getElem?_toList, Array.getElem?_setIfInBounds]
  simp only [List.getElem?_map]
  rcases Nat.lt_trichotomy i L with h7 | h7 | h7
  ·rw [if_neg (by omega), List.getElem?_append_left (by omega)]
   rw [h6 i _ (List.getElem?_eq_getElem (by omega)), List.getElem?_eq_getElem (by omega)]
   rfl
  ·subst h7
   rw [if_pos rfl, if_pos (by omega), List.getElem?_append_right (by omega), h1, Nat.sub_self]
   rfl
  ·rw [if_neg (by omega), List.getElem?_eq_none (by simp; omega), Array.getElem?_eq_none (by omega)]
   rfl
theorem AddInv.cell {a b : List Nat} {q : Nat} {T : TypeId} {L j c : Nat} {w : World} (h : AddInv a b q T L j c w) (i : Nat) (hi : i ≤ L) : (∃ v, w.cell? ⟨q, i, none⟩ = some v) ∧ w.frozen? ⟨q, i, none⟩ = false := by
 obtain ⟨S, C, h1, h2, h3, h4, h5, h6⟩ := h
 exact ⟨⟨_, by rw [Lib.cell_of_heap h4]; exact Array.getElem?_eq_getElem (by omega)⟩, Lib.frozen_of_heap h4 i⟩

set_option maxHeartbeats 4000000 in
theorem badd_ge (D E : Blocks) (va vb : Value) (a b : List Nat) (w : World) (ha : Wds D w va a) (hb : Wds E w vb b) (hl : a.length ≤ 900000) (hlb : b.length ≤ a.length) (hwa : Ws a) (hwb : Ws b) :
  Calls Tryz.prog 153 #[va, vb] w fun e w' => (∃ v', e = .returned v' ∧ Wds (fun k => w.heap.size ≤ k) w' v' (wordsOf (wval a + wval b))) ∧ Below w.heap.size w w' := by
 obtain ⟨Aa, ca, rfl, ha⟩ := wds_form ha
 obtain ⟨Ab, cb, rfl, hb⟩ := wds_form hb
 have HA := Lib.hid ha
 have HB := Lib.hid hb
 obtain ⟨L, hL⟩ : ∃ L, a.length = L := ⟨_, rfl⟩
 obtain ⟨K, hK⟩ : ∃ K, b.length = K := ⟨_, rfl⟩
 have HL := Lib.hid hL
 have HK := Lib.hid hK
 have HWA := Lib.hid hwa
 have HWB := Lib.hid hwb
 rw [hL, hK] at hlb
 rw [hL] at hl
 rw [hL] at HA ⊢
 rw [hK] at HB ⊢
 clear ha hb hL hK hwa hwb
 obtain ⟨i0, z0, hi, hz0, hz1, hz2, -⟩ := rt_words.ex
 obtain ⟨M, hM⟩ : ∃ M, M = madeCells z0.cells (((L + 1 : Nat) : Int).toNat * i0.size) := ⟨_, rfl⟩
 have hMs : M.size = L + 1 := by rw [hM, size_madeCells, hz1]; simp
 have hmk : ∀ W : World, (Instr.makeSlice 183 (.int .i64 ((L : Int) + 1)) (.int .i64 ((L : Int) + 1))).run Tryz.prog W = .ok (.slice (some ⟨W.heap.size, 0, none⟩) (L + 1) (L + 1)) (W.alloc (.cells M 217)) := fun W => by
  have h := run_make (P := Tryz.prog) W 183 217 i0 _ Tryz.underlying183 hi hz0 .i64 .i64 ((L + 1 : Nat) : Int) ((L + 1 : Nat) : Int) (by omega) (by omega) (by rw [hz2]; omega) (by omega)
  rw [← hM] at h
  simpa using h
 have HMS := Lib.hid hMs
 clear hM hi hz0 hz1 hz2 hMs
 go_enter Tryz.func153, Tryz.ntmps153
 go_wp2_with fail
 obtain ⟨W, hW⟩ : ∃ W, w.alloc (.cells M 217) = W := ⟨_, rfl⟩
 have hbW : Below w.heap.size w W := by subst hW; go_grown
 have hblk : W.heap[w.heap.size]? = some (.cells M 217 (0, 0)) := by subst hW; show (w.heap.push _)[w.heap.size]? = _; simp
 try rw [hW]
 clear hW
 have h0 : AddInv a b w.heap.size 217 L 0 0 W := ⟨[], M, rfl, fun d hd => absurd hd (List.not_mem_nil), by simp [wval], hblk, HMS.out, fun i x h => by rw [List.getElem?_nil] at h; cases h⟩
 have H0 := Lib.hid h0
 clear h0 hblk
 go_loopw [6, 7] (fun cv i wr => ∃ (j c : Nat), j ≤ L ∧ i = .int .i64 j ∧ cv = .int .u64 c ∧ c ≤ 1 ∧ Hid (AddInv a b w.heap.size 217 L j c wr) ∧ Below w.heap.size w wr) (fun _ i _ => L - (intOf i).toNat)
 case atStart => exact ⟨0, 0, Nat.zero_le _, rfl, rfl, Nat.zero_le _, H0, hbW⟩
 case round =>
  clear hbW H0
  obtain ⟨j, c, hj, rfl, rfl, hc, hI, hbw⟩ := hrel
  obtain ⟨⟨cv, hc1⟩, hc2⟩ := hI.out.cell j hj
  by_cases hlt : j < L
  ·obtain ⟨x, hx⟩ : ∃ x, a[j]? = some x := ⟨_, List.getElem?_eq_getElem (by have := HL.out; omega)⟩
   obtain ⟨ba, oa, rfl, -, hca⟩ := wds_at HA.out hx
   have hca := cell_keep hca hbw
   have hxl : x < 4294967296 := HWA.out x (mem_of_at hx)
   have HX := Lib.hid (getD_at hx)
   clear hx
   by_cases hlb2 : j < K
   ·obtain ⟨y, hy⟩ : ∃ y, b[j]? = some y := ⟨_, List.getElem?_eq_getElem (by have := HK.out; omega)⟩
    obtain ⟨bb, ob, rfl, -, hcb⟩ := wds_at HB.out hy
    have hcb := cell_keep hcb hbw
    have hyl : y < 4294967296 := HWB.out y (mem_of_at hy)
    have HY := Lib.hid (getD_at hy)
    clear hy
    go_wp2_with fail
    have e1 : ((c : Int) + x + y) % 4294967296 = (((c + x + y) % 4294967296 : Nat) : Int) := by omega
    have e2 : ((c : Int) + x + y) / 4294967296 = (((c + x + y) / 4294967296 : Nat) : Int) := by omega
    rw [e1, e2]
    refine ⟨⟨j + 1, (c + x + y) / 4294967296, by omega, by go_num, rfl, by omega, Lib.hid (hI.out.step hj (by rw [HX.out, HY.out])), hbw.setCell (p := ⟨w.heap.size, j, none⟩) (Nat.le_refl _) _⟩, ?_⟩
    simp [intOf] <;> omega
   ·have HY : Hid (b.getD j 0 = 0) := by show _ = _; simp [List.getD, List.getElem?_eq_none (show b.length ≤ j by have := HK.out; omega)]
    go_wp2_with fail
    have e1 : ((c : Int) + x) % 4294967296 = (((c + x) % 4294967296 : Nat) : Int) := by omega
    have e2 : ((c : Int) + x) / 4294967296 = (((c + x) / 4294967296 : Nat) : Int) := by omega
    rw [e1, e2]
    refine ⟨⟨j + 1, (c + x) / 4294967296, by omega, by go_num, rfl, by omega, Lib.hid (hI.out.step hj (by rw [HX.out, HY.out]; rfl)), hbw.setCell (p := ⟨w.heap.size, j, none⟩) (Nat.le_refl _) _⟩, ?_⟩
    simp [intOf] <;> omega
  ·obtain rfl : j = L := by omega
   go_wp2_with fail
   obtain ⟨l, l1, l2, l3, l4⟩ := hI.out.last (by have := HL.out; omega) (by have := HK.out; omega) (show c < 4294967296 by omega)
   have hv := wds_block (D := fun k => w.heap.size ≤ k) l4 (Nat.le_refl _)
   rw [l2] at hv
   have hbw2 := hbw.setCell (p := ⟨w.heap.size, j, none⟩) (Nat.le_refl _) (.int .u32 (c : Nat))
   refine (btrim_any _ _ l _ hv (by omega)).mono ?_
   rintro e w2 ⟨⟨v, rfl, hv2⟩, rfl⟩
   go_wp2_with fail
   go_ret
   rw [trim_words l1, l3] at hv2
   exact ⟨⟨v, rfl, hv2⟩, hbw2⟩

set_option maxHeartbeats 4000000 in
theorem badd_lt (D E : Blocks) (va vb : Value) (a b : List Nat) (w : World) (ha : Wds D w va a) (hb : Wds E w vb b) (hl : a.length ≤ 900000) (hlb : b.length < a.length) (hwa : Ws a) (hwb : Ws b) :
  Calls Tryz.prog 153 #[vb, va] w fun e w' => (∃ v', e = .returned v' ∧ Wds (fun k => w.heap.size ≤ k) w' v' (wordsOf (wval a + wval b))) ∧ Below w.heap.size w w' := by
 obtain ⟨Aa, ca, rfl, ha⟩ := wds_form ha
 obtain ⟨Ab, cb, rfl, hb⟩ := wds_form hb
 have HA := Lib.hid ha
 have HB := Lib.hid hb
 obtain ⟨L, hL⟩ : ∃ L, a.length = L := ⟨_, rfl⟩
 obtain ⟨K, hK⟩ : ∃ K, b.length = K := ⟨_, rfl⟩
 have HL := Lib.hid hL
 have HK := Lib.hid hK
 have HWA := Lib.hid hwa
 have HWB := Lib.hid hwb
 rw [hL, hK] at hlb
 rw [hL] at hl
 rw [hL] at HA ⊢
 rw [hK] at HB ⊢
 clear ha hb hL hK hwa hwb
 obtain ⟨i0, z0, hi, hz0, hz1, hz2, -⟩ := rt_words.ex
 obtain ⟨M, hM⟩ : ∃ M, M = madeCells z0.cells (((L + 1 : Nat) : Int).toNat * i0.size) := ⟨_, rfl⟩
 have hMs : M.size = L + 1 := by rw [hM, size_madeCells, hz1]; simp
 have hmk : ∀ W : World, (Instr.makeSlice 183 (.int .i64 ((L : Int) + 1)) (.int .i64 ((L : Int) + 1))).run Tryz.prog W = .ok (.slice (some ⟨W.heap.size, 0, none⟩) (L + 1) (L + 1)) (W.alloc (.cells M 217)) := fun W => by
  have h := run_make (P := Tryz.prog) W 183 217 i0 _ Tryz.underlying183 hi hz0 .i64 .i64 ((L + 1 : Nat) : Int) ((L + 1 : Nat) : Int) (by omega) (by omega) (by rw [hz2]; omega) (by omega)
  rw [← hM] at h
  simpa using h
 have HMS := Lib.hid hMs
 clear hM hi hz0 hz1 hz2 hMs
 go_enter Tryz.func153, Tryz.ntmps153
 go_wp2_with fail
 obtain ⟨W, hW⟩ : ∃ W, w.alloc (.cells M 217) = W := ⟨_, rfl⟩
 have hbW : Below w.heap.size w W := by subst hW; go_grown
 have hblk : W.heap[w.heap.size]? = some (.cells M 217 (0, 0)) := by subst hW; show (w.heap.push _)[w.heap.size]? = _; simp
 try rw [hW]
 clear hW
 have h0 : AddInv a b w.heap.size 217 L 0 0 W := ⟨[], M, rfl, fun d hd => absurd hd (List.not_mem_nil), by simp [wval], hblk, HMS.out, fun i x h => by rw [List.getElem?_nil] at h; cases h⟩
 have H0 := Lib.hid h0
 clear h0 hblk
 go_loopw [6, 7] (fun cv i wr => ∃ (j c : Nat), j ≤ L ∧ i = .int .i64 j ∧ cv = .int .u64 c ∧ c ≤ 1 ∧ Hid (AddInv a b w.heap.size 217 L j c wr) ∧ Below w.heap.size w wr) (fun _ i _ => L - (intOf i).toNat)
 case atStart => exact ⟨0, 0, Nat.zero_le _, rfl, rfl, Nat.zero_le _, H0, hbW⟩
 case round =>
  clear hbW H0
  obtain ⟨j, c, hj, rfl, rfl, hc, hI, hbw⟩ := hrel
  obtain ⟨⟨cv, hc1⟩, hc2⟩ := hI.out.cell j hj
  by_cases hlt : j < L
  ·obtain ⟨x, hx⟩ : ∃ x, a[j]? = some x := ⟨_, List.getElem?_eq_getElem (by have := HL.out; omega)⟩
   obtain ⟨ba, oa, rfl, -, hca⟩ := wds_at HA.out hx
   have hca := cell_keep hca hbw
   have hxl : x < 4294967296 := HWA.out x (mem_of_at hx)
   have HX := Lib.hid (getD_at hx)
   clear hx
   by_cases hlb2 : j < K
   ·obtain ⟨y, hy⟩ : ∃ y, b[j]? = some y := ⟨_, List.getElem?_eq_getElem (by have := HK.out; omega)⟩
    obtain ⟨bb, ob, rfl, -, hcb⟩ := wds_at HB.out hy
    have hcb := cell_keep hcb hbw
    have hyl : y < 4294967296 := HWB.out y (mem_of_at hy)
    have HY := Lib.hid (getD_at hy)
    clear hy
    go_wp2_with fail
    have e1 : ((c : Int) + x + y) % 4294967296 = (((c + x + y) % 4294967296 : Nat) : Int) := by omega
    have e2 : ((c : Int) + x + y) / 4294967296 = (((c + x + y) / 4294967296 : Nat) : Int) := by omega
    rw [e1, e2]
    refine ⟨⟨j + 1, (c + x + y) / 4294967296, by omega, by go_num, rfl, by omega, Lib.hid (hI.out.step hj (by rw [HX.out, HY.out])), hbw.setCell (p := ⟨w.heap.size, j, none⟩) (Nat.le_refl _) _⟩, ?_⟩
    simp [intOf] <;> omega
   ·have HY : Hid (b.getD j 0 = 0) := by show _ = _; simp [List.getD, List.getElem?_eq_none (show b.length ≤ j by have := HK.out; omega)]
    go_wp2_with fail
    have e1 : ((c : Int) + x) % 4294967296 = (((c + x) % 4294967296 : Nat) : Int) := by omega
    have e2 : ((c : Int) + x) / 4294967296 = (((c + x) / 4294967296 : Nat) : Int) := by omega
    rw [e1, e2]
    refine ⟨⟨j + 1, (c + x) / 4294967296, by omega, by go_num, rfl, by omega, Lib.hid (hI.out.step hj (by rw [HX.out, HY.out]; rfl)), hbw.setCell (p := ⟨w.heap.size, j, none⟩) (Nat.le_refl _) _⟩, ?_⟩
    simp [intOf] <;> omega
  ·obtain rfl : j = L := by omega
   go_wp2_with fail
   obtain ⟨l, l1, l2, l3, l4⟩ := hI.out.last (by have := HL.out; omega) (by have := HK.out; omega) (show c < 4294967296 by omega)
   have hv := wds_block (D := fun k => w.heap.size ≤ k) l4 (Nat.le_refl _)
   rw [l2] at hv
   have hbw2 := hbw.setCell (p := ⟨w.heap.size, j, none⟩) (Nat.le_refl _) (.int .u32 (c : Nat))
   refine (btrim_any _ _ l _ hv (by omega)).mono ?_
   rintro e w2 ⟨⟨v, rfl, hv2⟩, rfl⟩
   go_wp2_with fail
   go_ret
   rw [trim_words l1, l3] at hv2
   exact ⟨⟨v, rfl, hv2⟩, hbw2⟩

theorem badd_any (D E : Blocks) (va vb : Value) (a b : List Nat) (w : World) (ha : Wds D w va a) (hb : Wds E w vb b) (hl : a.length ≤ 900000) (hlb : b.length ≤ 900000) (hwa : Ws a) (hwb : Ws b) :
  Calls Tryz.prog 153 #[va, vb] w fun e w' => (∃ v', e = .returned v' ∧ Wds (fun k => w.heap.size ≤ k) w' v' (wordsOf (wval a + wval b))) ∧ Below w.heap.size w w' := by
 rcases Nat.lt_or_ge a.length b.length with h | h
 ·rw [Nat.add_comm]
  exact badd_lt E D vb va b a w hb ha hlb h hwb hwa
 ·exact badd_ge D E va vb a b w ha hb hl h hwa hwb
end Go.Proofs.YtpidjanngbaiiaaGreatDoor
namespace Go.Proofs.YtpidjanngbaiiaaGreatDoor
open Go.RowKit Go.Proofs

set_option maxRecDepth 100000
def MulO (a b : List Nat) (q : Nat) (T : TypeId) (i : Nat) (w : World) : Prop := ∃ R : List Nat, R.length = a.length + b.length ∧ Ws R ∧ w.heap[q]? = some (.cells (wcells R).toArray T (0, 0)) ∧ wval R = wval (a.take i) * wval b ∧ ∀ k, i + b.length ≤ k → k < a.length + b.length → R[k]? = some 0
def MulI (a b : List Nat) (q : Nat) (T : TypeId) (i j c : Nat) (w : World) : Prop := ∃ R : List Nat, R.length = a.length + b.length ∧ Ws R ∧ w.heap[q]? = some (.cells (wcells R).toArray T (0, 0)) ∧ wval R + c * 4294967296 ^ (i + j) = wval (a.take i) * wval b + a.getD i 0 * wval (b.take j) * 4294967296 ^ i ∧ ∀ k, i + b.length ≤ k → k < a.length + b.length → R[k]? = some 0
section
variable {a b : List Nat} {q : Nat} {T : TypeId} {i j c : Nat} {w : World}
theorem MulO.start (h : MulO a b q T i w) : MulI a b q T i 0 0 w := by
 obtain ⟨R, h1, h2, h3, h4, h5⟩ := h
 exact ⟨R, h1, h2, h3, by simp [wval, h4], h5⟩
theorem wcell_at {R : List Nat} {k y : Nat} (h3 : w.heap[q]? = some (.cells (wcells R).toArray T (0, 0))) (h : R[k]? = some y) : w.cell? ⟨q, k, none⟩ = some (.int .u32 (y : Nat)) ∧ w.frozen? ⟨q, k, none⟩ = false := by
 refine ⟨?_, Lib.frozen_of_heap h3 k⟩
 rw [Lib.cell_of_heap h3]
 simp [wcells, h]
theorem MulI.at (h : MulI a b q T i j c w) (hi : i < a.length) (hj : j < b.length) : ∃ y, y < 4294967296 ∧ w.cell? ⟨q, i + j, none⟩ = some (.int .u32 (y : Nat)) ∧ w.frozen? ⟨q, i + j, none⟩ = false ∧ ∀ t, t = c + a.getD i 0 * b.getD j 0 + y → MulI a b q T i (j + 1) (t / 4294967296) (w.setCell ⟨q, i + j, none⟩ (.int .u32 ((t % 4294967296 : Nat) : Int))) := by
 obtain ⟨R, h1, h2, h3, h4, h5⟩ := h
 have hy : R[i + j]? = some R[i + j] := List.getElem?_eq_getElem (by omega)
 obtain ⟨k1, k2⟩ := wcell_at h3 hy
 refine ⟨_, h2 _ (mem_of_at hy), k1, k2, fun t ht => ⟨R.set (i + j) (t % 4294967296), by rw [List.length_set]; exact h1, ws_set h2 _ (Nat.mod_lt _ (by decide)), ?_, mul_word h4 hy ht, fun k g1 g2 => ?_⟩⟩
 ·rw [block_set h3, wcells_set]
 ·rw [List.getElem?_set_ne (by omega)]
  exact h5 k g1 g2
theorem MulI.last (h : MulI a b q T i b.length c w) (hi : i < a.length) (hb : 0 < b.length) (hc : c < 4294967296) : (∃ v, w.cell? ⟨q, i + b.length, none⟩ = some v) ∧ w.frozen? ⟨q, i + b.length, none⟩ = false ∧ MulO a b q T (i + 1) (w.setCell ⟨q, i + b.length, none⟩ (.int .u32 (c : Nat))) := by
 obtain ⟨R, h1, h2, h3, h4, h5⟩ := h
 have hy := h5 (i + b.length) (Nat.le_refl _) (by omega)
 obtain ⟨k1, k2⟩ := wcell_at h3 hy
 refine ⟨⟨_, k1⟩, k2, R.set (i + b.length) c, by rw [List.length_set]; exact h1, ws_set h2 _ hc, by rw [block_set h3, wcells_set], mul_last h4 hy, fun k g1 g2 => ?_⟩
 rw [List.getElem?_set_ne (by omega)]
 exact h5 k (by omega) g2
end
set_option maxHeartbeats 4000000 in
theorem bmul_any (D E : Blocks) (va vb : Value) (a b : List Nat) (w : World) (ha : Wds D w va a) (hb : Wds E w vb b) (hl : a.length ≤ 400000) (hlb : b.length ≤ 400000) (hwa : Ws a) (hwb : Ws b) :
  Calls Tryz.prog 154 #[va, vb] w fun e w' => (∃ v', e = .returned v' ∧ Wds (fun k => w.heap.size ≤ k) w' v' (wordsOf (wval a * wval b))) ∧ Below w.heap.size w w' := by
 obtain ⟨Aa, ca, rfl, ha⟩ := wds_form ha
 obtain ⟨Ab, cb, rfl, hb⟩ := wds_form hb
 have HA := Lib.hid ha
 have HB := Lib.hid hb
 obtain ⟨L, hL⟩ : ∃ L, a.length = L := ⟨_, rfl⟩
 obtain ⟨K, hK⟩ : ∃ K, b.length = K := ⟨_, rfl⟩
 have HL := Lib.hid hL
 have HK := Lib.hid hK
 have HWA := Lib.hid hwa
 have HWB := Lib.hid hwb
 rw [hL] at hl HA ⊢
 rw [hK] at hlb HB ⊢
 clear ha hb hL hK hwa hwb
 by_cases h0 : L = 0 ∨ K = 0
 ·have HRES : Hid (wordsOf (wval a * wval b) = []) := Lib.hid (by
   rw [wordsOf_nil]
   rcases h0 with h | h
   ·have : a = [] := List.eq_nil_of_length_eq_zero (by rw [HL.out]; exact h)
    rw [this]; simp [wval]
   ·have : b = [] := List.eq_nil_of_length_eq_zero (by rw [HK.out]; exact h)
    rw [this]; simp [wval])
  by_cases hL0 : L = 0
  ·subst hL0
   go_enter Tryz.func154, Tryz.ntmps154
   go_wp2_with fail
   go_ret
   exact ⟨⟨_, rfl, by rw [HRES.out]; exact Wds.none _ _⟩, Below.refl _ _⟩
  ·have hK0 : K = 0 := by omega
   subst hK0
   have hLz : ((L : Int) == 0) = false := by rw [beq_eq_false_iff_ne]; omega
   go_enter Tryz.func154, Tryz.ntmps154
   go_wp2_with fail
   go_ret
   exact ⟨⟨_, rfl, by rw [HRES.out]; exact Wds.none _ _⟩, Below.refl _ _⟩
 ·have hLz : ((L : Int) == 0) = false := by rw [beq_eq_false_iff_ne]; omega
  have hKz : ((K : Int) == 0) = false := by rw [beq_eq_false_iff_ne]; omega
  have hL1 : 1 ≤ L := by omega
  have hK1 : 1 ≤ K := by omega
  obtain ⟨i0, z0, hi, hz0, hz1, hz2, -⟩ := rt_words.ex
  have hz0' : some z0 = some (.int .u32 0) := by
   have := info_parts (show (Tryz.prog.info? 217).map (fun i => (i.zero, i.size, i.bytes)) = some (some (.int .u32 0), 1, 4) by kernel_rfl)
   obtain ⟨i', k1, k2, -⟩ := this
   rw [hi] at k1
   obtain rfl := Option.some.inj k1
   exact hz0.symm.trans k2
  obtain rfl := Option.some.inj hz0'
  have hmk : ∀ W : World, (Instr.makeSlice 183 (.int .i64 ((L : Int) + (K : Int))) (.int .i64 ((L : Int) + (K : Int)))).run Tryz.prog W = .ok (.slice (some ⟨W.heap.size, 0, none⟩) (L + K) (L + K)) (W.alloc (.cells (wcells (List.replicate (L + K) 0)).toArray 217)) := fun W => by
   have h := run_make (P := Tryz.prog) W 183 217 i0 _ Tryz.underlying183 hi hz0 .i64 .i64 ((L + K : Nat) : Int) ((L + K : Nat) : Int) (by omega) (by omega) (by rw [hz2]; omega) (by omega)
   rw [hz1, Nat.mul_one, Int.toNat_natCast] at h
   rw [show (Value.int IntKind.u32 0).cells = #[.int .u32 0] from rfl, made_words] at h
   simpa using h
  clear hi hz0 hz1 hz2 hz0'
  obtain ⟨M, hM⟩ : ∃ M, (wcells (List.replicate (L + K) 0)).toArray = M := ⟨_, rfl⟩
  have HM := Lib.hid hM
  rw [hM] at hmk
  clear hM
  go_enter Tryz.func154, Tryz.ntmps154
  go_wp2_with fail
  obtain ⟨W, hW⟩ : ∃ W, w.alloc (.cells M 217) = W := ⟨_, rfl⟩
  have hbW : Below w.heap.size w W := by subst hW; go_grown
  have hblk : W.heap[w.heap.size]? = some (.cells M 217 (0, 0)) := by subst hW; show (w.heap.push _)[w.heap.size]? = _; simp
  try rw [hW]
  clear hW
  have h0 : MulO a b w.heap.size 217 0 W := ⟨List.replicate (L + K) 0, by rw [List.length_replicate, HL.out, HK.out], fun d hd => by rw [(List.mem_replicate.1 hd).2]; decide, by rw [HM.out]; exact hblk, by
   have : ∀ n, wval (List.replicate n 0) = 0 := fun n => by induction n with
    | zero => rfl
    | succ n ih => simp [List.replicate_succ, wval, ih]
   rw [this]; simp [wval], fun k _ hk => by rw [List.getElem?_replicate, if_pos (by rw [HL.out, HK.out] at hk; exact hk)]⟩
  have H0 := Lib.hid h0
  clear h0 hblk
  go_loopw [6] (fun iv wr => ∃ i : Nat, i ≤ L ∧ iv = .int .i64 i ∧ Hid (MulO a b w.heap.size 217 i wr) ∧ Below w.heap.size w wr) (fun iv _ => L - (intOf iv).toNat)
  case atStart => exact ⟨0, Nat.zero_le _, rfl, H0, hbW⟩
  case round =>
   clear hbW H0
   obtain ⟨i, hi, rfl, hO, hbw⟩ := hrel
   by_cases hlt : i < L
   ·obtain ⟨x, hx⟩ : ∃ x, a[i]? = some x := ⟨_, List.getElem?_eq_getElem (by have := HL.out; omega)⟩
    obtain ⟨ba, oa, rfl, -, hca0⟩ := wds_at HA.out hx
    have hxl : x < 4294967296 := HWA.out x (mem_of_at hx)
    have HX := Lib.hid (getD_at hx)
    have HI := Lib.hid hO.out.start
    clear hx hO
    go_wp2_with fail
    go_loopw [7, 8] (fun cv jv wq => ∃ (j c : Nat), j ≤ K ∧ jv = .int .i64 j ∧ cv = .int .u64 c ∧ c < 4294967296 ∧ Hid (MulI a b w.heap.size 217 i j c wq) ∧ Below w.heap.size w wq) (fun _ jv _ => K - (intOf jv).toNat)
    case atStart => exact ⟨0, 0, Nat.zero_le _, rfl, rfl, by decide, HI, hbw⟩
    case round =>
     clear HI hbw
     obtain ⟨j, c, hj, rfl, rfl, hc, hI, hbw⟩ := hrel
     by_cases hlt2 : j < K
     ·obtain ⟨z, hz⟩ : ∃ z, b[j]? = some z := ⟨_, List.getElem?_eq_getElem (by have := HK.out; omega)⟩
      obtain ⟨bb, ob, rfl, -, hcb0⟩ := wds_at HB.out hz
      have hzl : z < 4294967296 := HWB.out z (mem_of_at hz)
      have HZ := Lib.hid (getD_at hz)
      obtain ⟨y, hyl, hcy, hfy, hst⟩ := hI.out.at (by have := HL.out; omega) (by have := HK.out; omega)
      have HST := Lib.hid hst
      have hca := cell_keep hca0 hbw
      have hcb := cell_keep hcb0 hbw
      obtain ⟨P, hP⟩ : ∃ P, x * z = P := ⟨_, rfl⟩
      have hPl : P ≤ 18446744065119617025 := by
       rw [← hP]
       exact Nat.mul_le_mul (Nat.le_of_lt_succ hxl) (Nat.le_of_lt_succ hzl)
      have hPz : (x : Int) * (z : Int) = (P : Int) := by rw [← hP, Int.natCast_mul]
      have HP := Lib.hid hP
      clear hz hst hP
      have w1 : IntKind.u64.wrap ((x : Int) * (z : Int)) = (P : Int) := by rw [hPz, Go.IntWalk.u64_in _ (by omega)]
      have w2 : IntKind.u64.wrap ((P : Int) + (y : Int)) = (P : Int) + (y : Int) := Go.IntWalk.u64_in _ (by omega)
      have w3 : IntKind.u64.wrap ((c : Int) + ((P : Int) + (y : Int))) = (c : Int) + ((P : Int) + (y : Int)) := Go.IntWalk.u64_in _ (by omega)
      have w4 : IntKind.i64.wrap ((i : Int) + (j : Int)) = (i : Int) + (j : Int) := Go.IntWalk.i64_in _ (by omega)
      have w5 : 0 ≤ (i : Int) + (j : Int) := by omega
      have w6 : ((i : Int) + (j : Int)).toNat = i + j := by omega
      have w7 : i + j < L + K := by omega
      have w8 : (i : Int) + (j : Int) < ((L + K : Nat) : Int) := by omega
      go_wp2_with fail
      go_quiet (fail)
      have hcy2 : (wr.drewN nq).cell? ⟨w.heap.size, i + j, none⟩ = some (.int .u32 (y : Nat)) := hcy
      have hfy2 : (wr.drewN nq).frozen? ⟨w.heap.size, i + j, none⟩ = false := hfy
      have HST2 : Hid (∀ t, t = c + a.getD i 0 * b.getD j 0 + y → MulI a b w.heap.size 217 i (j + 1) (t / 4294967296) ((wr.drewN nq).setCell ⟨w.heap.size, i + j, none⟩ (.int .u32 ((t % 4294967296 : Nat) : Int)))) := Lib.hid (fun t ht => HST.out t ht)
      have hb2 : Below w.heap.size w (wr.drewN nq) := below_drewN hbw nq
      clear hcy hfy HST hI hbw hca hcb w1 w2 w3
      generalize wr.drewN nq = w2 at hcy2 hfy2 HST2 hb2 ⊢
      go_wp2_with fail
      have e1 : ((c : Int) + ((P : Int) + y)) % 4294967296 = (((c + P + y) % 4294967296 : Nat) : Int) := by omega
      have e2 : ((c : Int) + ((P : Int) + y)) / 4294967296 = (((c + P + y) / 4294967296 : Nat) : Int) := by omega
      rw [e1, e2]
      refine ⟨⟨j + 1, (c + P + y) / 4294967296, by omega, by go_num, rfl, by omega, Lib.hid (HST2.out _ (by rw [HX.out, HZ.out, HP.out])), hb2.setCell (p := ⟨w.heap.size, i + j, none⟩) (Nat.le_refl _) _⟩, ?_⟩
      simp [intOf] <;> omega
     ·obtain rfl : j = K := by omega
      have hlast := hI.out
      rw [← HK.out] at hlast
      obtain ⟨⟨cv, hc1⟩, hc2, hO2⟩ := hlast.last (by have := HL.out; omega) (by have := HK.out; omega) hc
      rw [HK.out] at hc1 hc2 hO2
      have HO2 := Lib.hid hO2
      clear hlast hO2 hI
      have w4 : i + j < L + j := by omega
      go_wp2_with fail
      have e1 : ((c : Nat) : Int) % 4294967296 = (c : Nat) := by omega
      try rw [e1]
      go_roundw
      case rel => exact ⟨i + 1, by omega, by go_num, HO2, hbw.setCell (p := ⟨w.heap.size, i + j, none⟩) (Nat.le_refl _) _⟩
      case measure => simp [intOf] <;> omega
   ·obtain rfl : i = L := by omega
    obtain ⟨R, r1, r2, r3, r4, -⟩ := hO.out
    rw [List.take_of_length_le (by rw [HL.out]; exact Nat.le_refl _)] at r4
    have hv := wds_block (D := fun k => w.heap.size ≤ k) r3 (Nat.le_refl _)
    rw [r1, HL.out, HK.out] at hv
    have HR := Lib.hid r1
    rw [HL.out, HK.out] at HR
    have HR4 := Lib.hid r4
    have HV := Lib.hid hv
    clear r1 r3 r4 hv hO
    go_wp2_with fail
    refine (btrim_any _ _ R _ HV.out (by have := HR.out; omega)).mono ?_
    rintro e w2 ⟨⟨v, rfl, hv2⟩, rfl⟩
    go_wp2_with fail
    go_ret
    rw [trim_words r2, HR4.out] at hv2
    exact ⟨⟨v, rfl, hv2⟩, hbw⟩
end Go.Proofs.YtpidjanngbaiiaaGreatDoor
