/-
  For every expression, every list of names and every list of sorts handed in, of bulk at most 1048576 together, duetlaw.ExprsSays returns true, and what was handed in reads as before: exprs.Check, Write and Sort answer what the reference answers. Conditions: the bulk of what is handed in; the package-level tables that the row lists hold what the row lists, which the card ties to the program's text.
-/
import Derived.Test.YtmklodgcbldndaaDoorCards
import Derived.Test.YtmklodgcbldndaaDoorTie
import Derived.Test.YtmklodgcbldndaaDoorM9
import Derived.MakeChecks
import Derived.ChangeMaps5
import Derived.Deep.DeepWitnessRowRef
import Derived.Lib.LaidIn
namespace Go.Proofs.YtmklodgcbldndaaDoor.exprsSays
open Go.ChangeShapes Go.WideShapes Go.ChangeAt Go.RowKit Go.Joins Go.Lib Go.Deep

set_option maxRecDepth 100000
theorem pow_of {laid : List (String × DataW Unit)} {W : World} (h : laidMet Tryd.prog laid W) (hm : ("internal/strconv.uint64pow10", (Rows.laid_internal_strconv_uint64pow10 : DataW Unit)) ∈ laid) : PowTab W := by
  have e : (Rows.laid_internal_strconv_uint64pow10 : DataW Unit) = Lib.tabData .u64 Lib.pow10Tab := by kernel_rfl
  rw [e] at hm
  obtain ⟨g, t, cs, fuel, p, hg, hty, hvar, hd⟩ := laidMet.reads h hm
  obtain rfl : g = 2 := Option.some.inj (hg.symm.trans (by kernel_rfl))
  obtain rfl : t = 135 := Option.some.inj (hty.symm.trans (by kernel_rfl))
  show Lib.TabIs _ _ _ _ _
  unfold Lib.TabIs
  rw [hvar, ← Lib.cells_of_tab Tryd.underlying135 Tryd.underlying103 (by kernel_rfl) (by kernel_rfl) hd]

set_option maxRecDepth 100000 in
theorem contract (H : Type) (enc : TypeId × Value → H) (W : World) (base : Nat) (args : Array Value) (ds gs : List (DataW H)) (before : List MemPlace)
    (hval : ∀ (j : Nat) t v, Tryd.f3.params[j]? = some t → args[j]? = some v → Value.okWide Tryd.prog W .any base t v)
    (hW : DataW.Whole enc Tryd.prog Tryd.f3.params.toList Rows.exprsSaysSpec.vars false W args.toList ds gs before) (hL : laidMetH Tryd.prog Rows.exprsSaysUptoRow.laid W) (hk : ∀ k, (Rows.OpenSpec.upto Rows.exprsSaysSpec).cond = some k → k H (ds ++ gs) = true) :
    Calls Tryd.prog 3 args W fun e W' => ∃ v, e = .returned v ∧ Rows.exprsSaysSpec.post enc Tryd.prog Tryd.f3 false true false false W args v W' := by
  have hL' : laidMet Tryd.prog Rows.exprsSaysUptoRow.laid W := (MakeChecks.laidMetH_plain _ _ _ (by kernel_rfl)) ▸ hL
  have hP : PowTab W := pow_of hL' (by simp [Rows.exprsSaysUptoRow])
  have hT : Tabs W := tabs_of hL' (by simp [Rows.exprsSaysUptoRow, Rows.laid_unicode_utf8_first]) (by simp [Rows.exprsSaysUptoRow]; first | rfl | exact Or.inl rfl | exact Or.inr rfl | (right; right; right; left; rfl))
  have hW' := hW
  obtain ⟨p, q, hA0, hV, rfl, hfz, hnd⟩ := hW'
  have hA : DataW.TrodAll enc Tryd.prog W 0 (fun _ => true) true Tryd.f3.params.toList args.toList ds p := hA0
  rw [Tryd.params3] at hA hval
  obtain ⟨v0, vs0, d0, ds0, p0, q0, hargs, rfl, rfl, h0, r0⟩ := trodAll_cons hA
  obtain ⟨v1, vs1, d1, ds1, p1, q1, hargs1, rfl, rfl, h1, r1⟩ := trodAll_cons r0
  obtain ⟨v2, vs2, d2, ds2, p2, q2, hargs2, rfl, rfl, h2, r2⟩ := trodAll_cons r1
  obtain ⟨rfl, rfl, rfl⟩ := trodAll_nil r2
  subst hargs1 hargs2
  obtain rfl : args = #[v0, v1, v2] := by cases args; simp_all
  obtain ⟨t, ht, hf⟩ := open_ex (hval 0 26 v0 rfl rfl) h0
  obtain ⟨F, hF, hF1, hF2⟩ := open_words_b (hval 1 27 v1 rfl rfl) h1
  obtain ⟨S, hS, hS1⟩ := open_nums_b (hval 2 28 v2 rfl rfl) h2
  have hbulk : Rows.uptoBulkAll [d0, d1, d2] ≤ 1048576 := by
    have := hk _ rfl
    simp only [Rows.uptoSmall, decide_eq_true_eq] at this
    refine Nat.le_trans ?_ this
    simp only [List.cons_append, List.nil_append, Rows.uptoBulkAll]
    omega
  simp only [Rows.uptoBulkAll] at hbulk
  have hfit : ExFit 1048576 t := hf.mono (by omega)
  refine law_post laidOut (by kernel_rfl) rfl rfl Tryd.underlying4 hW rfl ?_
  exact esays_any t v0 v1 v2 F S W ht hfit hF hS (by omega) (by omega) hT hP

/-- The cells of a table of numbers. -/
def numCells : DataW Unit → List Value
  | .agg l => l.map fun | .lit (.int k n) => .int k n | _ => .nilIface
  | _ => []
/-- A world for a witness: the variables holding what their initialisers lay. -/
noncomputable def laidWorld (os : Os) : World :=
  let w0 := World.holding Tryd.prog os ⟨#[], #[], []⟩
  let put (h : Array Obj) (g : Nat) (cs : Array Value) : Array Obj := h.modify g fun
    | .cells _ t frozen => .cells cs t frozen
    | o => o
  let h1 := put w0.heap 0 ((List.range 256).map fun c => Value.int .u8 (firstT c)).toArray
  let h2 := put h1 1 ((List.range 16).flatMap fun i => [Value.int .u8 (accLo i), Value.int .u8 (accHi i)]).toArray
  let h3 := put h2 2 (numCells Rows.laid_internal_strconv_uint64pow10).toArray
  let h4 := put h3 6 (numCells Rows.laid_math_bits_deBruijn32tab).toArray
  let h5 := put h4 7 (numCells Rows.laid_math_bits_deBruijn64tab).toArray
  { w0 with heap := h5 }

def noG : Value := .agg #[.int .i64 0, .string ⟨#[]⟩, .int .i64 0, .int .i64 0, .string ⟨#[]⟩, .slice none 0 0]
theorem laid_met (os : Os) : laidMet Tryd.prog Rows.exprsSaysUptoRow.laid ((laidWorld os).forCall (fun _ _ => 0) ⟨#[], #[noG, .slice none 0 0, .slice none 0 0], []⟩).memory :=
  laidMet_of_run' 8 (by kernel_rfl) (by kernel_rfl)
theorem reads (os : Os) {H : Type} (enc : TypeId × Value → H) : ∃ places, DataW.whole enc Tryd.prog ((laidWorld os).forCall (fun _ _ => 0) ⟨#[], #[noG, .slice none 0 0, .slice none 0 0], []⟩).memory Tryd.f3.params.toList Rows.exprsSaysSpec.vars false #[noG, .slice none 0 0, .slice none 0 0].toList 8 = some ([.agg [.lit (.int .i64 0), .lit (.string []), .agg [.lit (.int .i64 0), .lit (.int .i64 0), .lit (.string [])], .nil], .nil, .nil], [], places) :=
  ⟨[], by kernel_rfl⟩

set_option maxRecDepth 100000 in
theorem lifted (os : Os) (started : os.Started) (H : Type) (enc : TypeId × Value → H) (F : Stop.Interp) :
    ReturnsInHanded {} Tryd.checked os 3 .any ((Rows.OpenSpec.upto Rows.exprsSaysSpec).preRow enc Tryd.prog Tryd.f3 Rows.exprsSaysUptoRow.domain false Rows.exprsSaysUptoRow.laid) (((Rows.OpenSpec.upto Rows.exprsSaysSpec).at F).post enc Tryd.prog Tryd.f3 false true false false) := by
  obtain ⟨places, hx⟩ := reads os enc
  refine returnsInHanded_of_row (C := Tryd.checked) (s := Rows.OpenSpec.upto Rows.exprsSaysSpec) own started (by kernel_rfl) Tryd.func3
    (witness_row_atRef (enc := enc) (C := Tryd.checked) false (laidWorld os) #[noG, .slice none 0 0, .slice none 0 0] rfl (by kernel_rfl) (by kernel_rfl) (by kernel_rfl)
      (OpenSpec.preRow_of_cond 8 hx (by kernel_rfl) (fun k hk => by cases hk; simp [Rows.uptoSmall, Rows.uptoBulkAll, Rows.uptoBulk]) (by kernel_rfl) (laid_met os))) ?_
  intro W base args ds gs before hval hW _ hk _ hL _ _
  exact contract H enc W base args ds gs before hval hW hL hk

theorem fact_name : Tryd.pinned.checked.prog.funcNamed "duet/duetlaw.ExprsSays" = some 3 := by kernel_rfl
theorem fact_joined : joinedFacts Tryd.pinned.checked.prog 3 Tryd.f3 (Rows.OpenSpec.upto Rows.exprsSaysSpec).bare Rows.exprsSaysUptoRow = true := by kernel_rfl
theorem fact_instance : Tryd.f3.isInstance Tryd.pinned.checked.prog Rows.exprsSaysUptoRow.origin Rows.exprsSaysUptoRow.targs := of_decide_eq_true (by kernel_rfl)
theorem fact_wrapper : Tryd.f3.isWrapper Tryd.pinned.checked.prog Rows.exprsSaysUptoRow.wrapper Rows.exprsSaysUptoRow.mainSum := by unfold Func.isWrapper; first | (rw [if_pos (by decide +kernel)]; kernel_rfl) | (rw [if_neg (by decide +kernel)]; exact ⟨rfl, rfl⟩)
theorem said : Rows.ExprsSaysUptoSaid :=
  OpenClaim.holds_of_cond 3 Tryd.f3 rfl rfl rfl rfl rfl rfl rfl ⟨rfl, rfl, rfl, rfl, rfl⟩ rfl rfl rfl rfl rfl fact_name Tryd.func3 fact_joined
    fact_instance fact_wrapper
    (fun os started H enc _ F => by rw [OpenClaim.pre_eq_preRow]; exact lifted os started H enc F)

/-- No parameter wants a stand-in; the program's looks are as the card has them. -/
theorem plain (f : FuncId) (fn : Func) (hf : Tryd.pinned.checked.prog.funcNamed "duet/duetlaw.ExprsSays" = some f) (hfn : Tryd.pinned.checked.prog.funcs[f]? = some fn) :
    true = Tryd.pinned.checked.prog.looks [] ∧ ∀ (j : Nat) t, fn.params[j]? = some t → Tryd.pinned.checked.prog.wantsStandIn t = false := by
  obtain rfl : f = 3 := Option.some.inj ((show Tryd.prog.funcNamed "duet/duetlaw.ExprsSays" = some 3 by kernel_rfl).symm.trans hf) |>.symm
  obtain rfl : fn = Tryd.f3 := (Option.some.inj (Tryd.func3.symm.trans hfn)).symm
  refine ⟨by kernel_rfl, fun j t ht => ?_⟩
  rw [Tryd.params3] at ht
  have hm : t = 26 ∨ t = 27 ∨ t = 28 := by simpa using Array.mem_of_getElem? ht
  rcases hm with rfl | rfl | rfl
  · exact (show Tryd.prog.wantsStandIn 26 = false by kernel_rfl)
  · exact (show Tryd.prog.wantsStandIn 27 = false by kernel_rfl)
  · exact (show Tryd.prog.wantsStandIn 28 = false by kernel_rfl)

/-- THE CARD. -/
theorem card : Rows.ExprsSaysUptoCardSaid :=
  Claim7.holds_tied_plain_at .later [] _ _ _ _ said (fun _ h => by cases h) (by kernel_rfl) (fun _ h => by cases h) exprsSaysUpto_row_tie rfl ⟨rfl, rfl⟩ (by kernel_rfl) rfl plain (by kernel_rfl)
#print axioms card
end Go.Proofs.YtmklodgcbldndaaDoor.exprsSays
