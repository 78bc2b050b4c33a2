/-
  For every value and every text handed in, of bulk at most 1048576 together, duetlaw.ValuesSays returns true, and what was handed in reads as before: values.Check, Write and Read answer what the reference answers. Conditions: the bulk of what is handed in; the package-level tables that the row lists hold what the row lists, strconv's two errors among them, which the card ties to the program's text.
-/
import Derived.Test.YtmklodgcbldndaaDoorCards
import Derived.Test.YtmklodgcbldndaaDoorTie
import Derived.Test.YtmklodgcbldndaaDoorM7
import Derived.Test.YtmklodgcbldndaaDoorM8
import Derived.MakeChecks
import Derived.ChangeMaps5
import Derived.Deep.DeepWitnessRowRef
import Derived.Lib.LaidIn
import Derived.Stop.LaidErr
namespace Go.Proofs.YtmklodgcbldndaaDoor.valuesSays
open Go.ChangeShapes Go.WideShapes Go.ChangeAt Go.RowKit Go.Joins Go.Lib Go.Deep

set_option maxRecDepth 100000
theorem pow_of {laid : List (String × DataW Unit)} {W : World} (h : laidMet Tryd.prog laid W) (hm : ("internal/strconv.uint64pow10", (Rows.laid_internal_strconv_uint64pow10 : DataW Unit)) ∈ laid) : PowTab W := by
  have e : (Rows.laid_internal_strconv_uint64pow10 : DataW Unit) = Lib.tabData .u64 Lib.pow10Tab := by kernel_rfl
  rw [e] at hm
  obtain ⟨g, t, cs, fuel, p, hg, hty, hvar, hd⟩ := laidMet.reads h hm
  obtain rfl : g = 2 := Option.some.inj (hg.symm.trans (by kernel_rfl))
  obtain rfl : t = 135 := Option.some.inj (hty.symm.trans (by kernel_rfl))
  show Lib.TabIs _ _ _ _ _
  unfold Lib.TabIs
  rw [hvar, ← Lib.cells_of_tab Tryd.underlying135 Tryd.underlying103 (by kernel_rfl) (by kernel_rfl) hd]

theorem name_err (u : TypeId) (h : Tryd.prog.typeName? 3 u = some "*errors.errorString") : u = 149 :=
  typeName_ptr_named (nm := "errors.errorString") (by rw [show "*" ++ "errors.errorString" = "*errors.errorString" by decide]; kernel_rfl) (by kernel_rfl) (by decide) u (by rw [show "*" ++ "errors.errorString" = "*errors.errorString" by decide]; exact h)
theorem errs_of {W : World} (h : laidMet Tryd.prog Rows.valuesSaysUptoRow.laid W) : ErrVars W := by
  have h4 := laidMet.tail (laidMet.tail (laidMet.tail (laidMet.tail h)))
  obtain ⟨a0, s0, hv0, -, -, -⟩ := laid_sentinel h4 (show Tryd.prog.globalNamed "strconv.ErrRange" = some 4 by kernel_rfl) (show (Tryd.prog.globals[4]?).map (·.type) = some 62 by kernel_rfl) Tryd.underlying62 name_err Tryd.underlying149 Tryd.underlying151 rfl rfl Tryd.underlying9 (show Tryd.prog.cellsOf 151 = 1 by kernel_rfl) (show Tryd.prog.cellsOf 9 = 1 by kernel_rfl)
  obtain ⟨a1, s1, hv1, -, -, -⟩ := laid_sentinel (laidMet.tail h4) (show Tryd.prog.globalNamed "strconv.ErrSyntax" = some 3 by kernel_rfl) (show (Tryd.prog.globals[3]?).map (·.type) = some 62 by kernel_rfl) Tryd.underlying62 name_err Tryd.underlying149 Tryd.underlying151 rfl rfl Tryd.underlying9 (show Tryd.prog.cellsOf 151 = 1 by kernel_rfl) (show Tryd.prog.cellsOf 9 = 1 by kernel_rfl)
  refine ⟨⟨_, (World.var?_cell (show Tryd.prog.globalNamed "strconv.ErrSyntax" = some 3 by kernel_rfl) hv1 0).trans rfl, .inr ⟨_, _, rfl⟩⟩, ⟨_, (World.var?_cell (show Tryd.prog.globalNamed "strconv.ErrRange" = some 4 by kernel_rfl) hv0 0).trans rfl, .inr ⟨_, _, rfl⟩⟩⟩
/-- A value that came in, with its bulk. -/
theorem open_value {H : Type} {enc : TypeId × Value → H} {W : World} {r : Reach} {b0 : Nat} {v : Value} {d : DataW H} {p : List MemPlace} (hv : Value.okWide Tryd.prog W r b0 23 v) (h : DataW.Trod enc Tryd.prog W 0 (fun _ => true) true 23 v d p) :
    ∃ (s n : Int) (t : Str), v = mkV s n t ∧ (Lit.int .i64 n).wf = true ∧ t.length ≤ Rows.uptoBulk d := by
  obtain ⟨cs, rfl, hc⟩ := okWide_struct Tryd.underlying23 hv
  obtain ⟨fuel, h⟩ := h
  obtain ⟨s, n, t, e, -, h2, h3⟩ := open_val_cells h
  refine ⟨s, n, t, ?_, h2, h3⟩
  have : cs.toList = _ := e
  unfold mkV
  rw [← this]

set_option maxRecDepth 100000 in
theorem contract (H : Type) (enc : TypeId × Value → H) (W : World) (base : Nat) (args : Array Value) (ds gs : List (DataW H)) (before : List MemPlace)
    (hval : ∀ (j : Nat) t v, Tryd.f4.params[j]? = some t → args[j]? = some v → Value.okWide Tryd.prog W .any base t v)
    (hW : DataW.Whole enc Tryd.prog Tryd.f4.params.toList Rows.valuesSaysSpec.vars false W args.toList ds gs before) (hL : laidMetH Tryd.prog Rows.valuesSaysUptoRow.laid W) (hk : ∀ k, (Rows.OpenSpec.upto Rows.valuesSaysSpec).cond = some k → k H (ds ++ gs) = true) :
    Calls Tryd.prog 4 args W fun e W' => ∃ v, e = .returned v ∧ Rows.valuesSaysSpec.post enc Tryd.prog Tryd.f4 false true false false W args v W' := by
  have hL' : laidMet Tryd.prog Rows.valuesSaysUptoRow.laid W := (MakeChecks.laidMetH_plain _ _ _ (by kernel_rfl)) ▸ hL
  have hE : ErrVars W := errs_of hL'
  have hP : PowTab W := pow_of hL' (by simp [Rows.valuesSaysUptoRow])
  have hT : Tabs W := tabs_of hL' (by simp [Rows.valuesSaysUptoRow, Rows.laid_unicode_utf8_first]) (by simp [Rows.valuesSaysUptoRow]; first | rfl | exact Or.inl rfl | exact Or.inr rfl | (right; right; right; left; rfl) | (right; right; right; right; right; right; rfl))
  have hW' := hW
  obtain ⟨p, q, hA0, hV, rfl, hfz, hnd⟩ := hW'
  have hA : DataW.TrodAll enc Tryd.prog W 0 (fun _ => true) true Tryd.f4.params.toList args.toList ds p := hA0
  rw [Tryd.params4] at hA hval
  obtain ⟨v0, vs0, d0, ds0, p0, q0, hargs, rfl, rfl, h0, r0⟩ := trodAll_cons hA
  obtain ⟨v1, vs1, d1, ds1, p1, q1, hargs1, rfl, rfl, h1, r1⟩ := trodAll_cons r0
  obtain ⟨rfl, rfl, rfl⟩ := trodAll_nil r1
  subst hargs1
  obtain rfl : args = #[v0, v1] := by cases args; simp_all
  obtain ⟨s, n, t, rfl, hwf, ht⟩ := open_value (hval 0 23 v0 rfl rfl) h0
  obtain ⟨x, rfl, rfl, rfl, -⟩ := Go.ChangeMaps.open_string (Tryd.underlying9) (hval 1 9 v1 rfl rfl) h1
  have hbulk : Rows.uptoBulkAll [d0, .lit (.string x.data.toList)] ≤ 1048576 := by
    have := hk _ rfl
    simp only [Rows.uptoSmall, decide_eq_true_eq] at this
    refine Nat.le_trans ?_ this
    simp only [List.cons_append, List.nil_append, Rows.uptoBulkAll]
    omega
  simp only [Rows.uptoBulkAll] at hbulk
  simp only [Rows.uptoBulk] at hbulk
  have hxl : x.data.toList.length ≤ 1048576 := by omega
  have hwf' : -9223372036854775808 ≤ n ∧ n ≤ 9223372036854775807 := by
    have h : (decide (-9223372036854775808 ≤ n) && decide (n ≤ 9223372036854775807)) = true := hwf
    simpa using h
  rw [str_data x]
  refine law_post laidOut (by kernel_rfl) rfl rfl Tryd.underlying4 hW rfl ?_
  exact vsays_any s n t x.data.toList W (by omega) hxl hwf'.1 hwf'.2 hT hP hE

/-- The cells of a table of numbers. -/
def numCells : DataW Unit → List Value
  | .agg l => l.map fun | .lit (.int k n) => .int k n | _ => .nilIface
  | _ => []
/-- A world for a witness: the variables holding what their initialisers lay. -/
noncomputable def laidWorld (os : Os) : World :=
  let w0 := World.holding Tryd.prog os ⟨#[], #[], []⟩
  let put (h : Array Obj) (g : Nat) (cs : Array Value) : Array Obj := h.modify g fun
    | .cells _ t frozen => .cells cs t frozen
    | o => o
  let h1 := put w0.heap 0 ((List.range 256).map fun c => Value.int .u8 (firstT c)).toArray
  let h2 := put h1 1 ((List.range 16).flatMap fun i => [Value.int .u8 (accLo i), Value.int .u8 (accHi i)]).toArray
  let h3 := put h2 2 (numCells Rows.laid_internal_strconv_uint64pow10).toArray
  let h4 := put h3 6 (numCells Rows.laid_math_bits_deBruijn32tab).toArray
  let h5 := put h4 7 (numCells Rows.laid_math_bits_deBruijn64tab).toArray
  let k := h5.size
  let h6 := (h5.push (.cells #[.string ⟨#[118, 97, 108, 117, 101, 32, 111, 117, 116, 32, 111, 102, 32, 114, 97, 110, 103, 101]⟩] 151)).push (.cells #[.string ⟨#[105, 110, 118, 97, 108, 105, 100, 32, 115, 121, 110, 116, 97, 120]⟩] 151)
  let h7 := put h6 4 #[.iface 149 (.pointer (some ⟨k, 0, none⟩))]
  let h8 := put h7 3 #[.iface 149 (.pointer (some ⟨k + 1, 0, none⟩))]
  { w0 with heap := h8 }

def noG : Value := .agg #[.int .i64 0, .int .i64 0, .string ⟨#[]⟩]
theorem laid_met (os : Os) : laidMet Tryd.prog Rows.valuesSaysUptoRow.laid ((laidWorld os).forCall (fun _ _ => 0) ⟨#[], #[noG, .string ⟨#[]⟩], []⟩).memory :=
  laidMet_of_run' 8 (by kernel_rfl) (by kernel_rfl)
theorem reads (os : Os) {H : Type} (enc : TypeId × Value → H) : ∃ places, DataW.whole enc Tryd.prog ((laidWorld os).forCall (fun _ _ => 0) ⟨#[], #[noG, .string ⟨#[]⟩], []⟩).memory Tryd.f4.params.toList Rows.valuesSaysSpec.vars false #[noG, .string ⟨#[]⟩].toList 8 = some ([.agg [.lit (.int .i64 0), .lit (.int .i64 0), .lit (.string [])], .lit (.string [])], [], places) :=
  ⟨[], by kernel_rfl⟩

set_option maxRecDepth 100000 in
theorem lifted (os : Os) (started : os.Started) (H : Type) (enc : TypeId × Value → H) (F : Stop.Interp) :
    ReturnsInHanded {} Tryd.checked os 4 .any ((Rows.OpenSpec.upto Rows.valuesSaysSpec).preRow enc Tryd.prog Tryd.f4 Rows.valuesSaysUptoRow.domain false Rows.valuesSaysUptoRow.laid) (((Rows.OpenSpec.upto Rows.valuesSaysSpec).at F).post enc Tryd.prog Tryd.f4 false true false false) := by
  obtain ⟨places, hx⟩ := reads os enc
  refine returnsInHanded_of_row (C := Tryd.checked) (s := Rows.OpenSpec.upto Rows.valuesSaysSpec) own started (by kernel_rfl) Tryd.func4
    (witness_row_atRef (enc := enc) (C := Tryd.checked) false (laidWorld os) #[noG, .string ⟨#[]⟩] rfl (by kernel_rfl) (by kernel_rfl) (by kernel_rfl)
      (OpenSpec.preRow_of_cond 8 hx (by kernel_rfl) (fun k hk => by cases hk; simp [Rows.uptoSmall, Rows.uptoBulkAll, Rows.uptoBulk]) (by kernel_rfl) (laid_met os))) ?_
  intro W base args ds gs before hval hW _ hk _ hL _ _
  exact contract H enc W base args ds gs before hval hW hL hk

theorem fact_name : Tryd.pinned.checked.prog.funcNamed "duet/duetlaw.ValuesSays" = some 4 := by kernel_rfl
theorem fact_joined : joinedFacts Tryd.pinned.checked.prog 4 Tryd.f4 (Rows.OpenSpec.upto Rows.valuesSaysSpec).bare Rows.valuesSaysUptoRow = true := by kernel_rfl
theorem fact_instance : Tryd.f4.isInstance Tryd.pinned.checked.prog Rows.valuesSaysUptoRow.origin Rows.valuesSaysUptoRow.targs := of_decide_eq_true (by kernel_rfl)
theorem fact_wrapper : Tryd.f4.isWrapper Tryd.pinned.checked.prog Rows.valuesSaysUptoRow.wrapper Rows.valuesSaysUptoRow.mainSum := by unfold Func.isWrapper; first | (rw [if_pos (by decide +kernel)]; kernel_rfl) | (rw [if_neg (by decide +kernel)]; exact ⟨rfl, rfl⟩)
theorem said : Rows.ValuesSaysUptoSaid :=
  OpenClaim.holds_of_cond 4 Tryd.f4 rfl rfl rfl rfl rfl rfl rfl ⟨rfl, rfl, rfl, rfl, rfl⟩ rfl rfl rfl rfl rfl fact_name Tryd.func4 fact_joined
    fact_instance fact_wrapper
    (fun os started H enc _ F => by rw [OpenClaim.pre_eq_preRow]; exact lifted os started H enc F)

/-- No parameter wants a stand-in; the program's looks are as the card has them. -/
theorem plain (f : FuncId) (fn : Func) (hf : Tryd.pinned.checked.prog.funcNamed "duet/duetlaw.ValuesSays" = some f) (hfn : Tryd.pinned.checked.prog.funcs[f]? = some fn) :
    true = Tryd.pinned.checked.prog.looks [] ∧ ∀ (j : Nat) t, fn.params[j]? = some t → Tryd.pinned.checked.prog.wantsStandIn t = false := by
  obtain rfl : f = 4 := Option.some.inj ((show Tryd.prog.funcNamed "duet/duetlaw.ValuesSays" = some 4 by kernel_rfl).symm.trans hf) |>.symm
  obtain rfl : fn = Tryd.f4 := (Option.some.inj (Tryd.func4.symm.trans hfn)).symm
  refine ⟨by kernel_rfl, fun j t ht => ?_⟩
  rw [Tryd.params4] at ht
  have hm : t = 23 ∨ t = 9 := by simpa using Array.mem_of_getElem? ht
  rcases hm with rfl | rfl
  · exact (show Tryd.prog.wantsStandIn 23 = false by kernel_rfl)
  · exact (show Tryd.prog.wantsStandIn 9 = false by kernel_rfl)

/-- THE CARD. -/
theorem card : Rows.ValuesSaysUptoCardSaid :=
  Claim7.holds_tied_plain_at .later [] _ _ _ _ said (fun _ h => by cases h) (by kernel_rfl) (fun _ h => by cases h) valuesSaysUpto_row_tie rfl ⟨rfl, rfl⟩ (by kernel_rfl) rfl plain (by kernel_rfl)
#print axioms card
end Go.Proofs.YtmklodgcbldndaaDoor.valuesSays
