/-
  For every text and every place handed in, of bulk at most 1048576, duetlaw.ExprsReads returns true, and what was handed in reads as before: exprs.IsName, Parse and Begin answer what the reference answers. Conditions: the bulk of what is handed in; the package-level tables that the row lists hold what the row lists, strconv's two errors among them, which the card ties to the program's text.
-/
import Derived.Test.YtpidjanngbaiiaaGreatDoorCards
import Derived.Test.YtpidjanngbaiiaaGreatDoorTie
import Derived.Test.YtpidjanngbaiiaaGreatDoorM25
import Derived.Test.YtpidjanngbaiiaaGreatDoorM2
import Derived.MakeChecks
import Derived.ChangeMaps5
import Derived.Deep.DeepWitnessRowRef
import Derived.Lib.LaidIn
import Derived.Stop.LaidErr
namespace Go.Proofs.YtpidjanngbaiiaaGreatDoor.exprsReads
open Go.ChangeShapes Go.WideShapes Go.ChangeAt Go.RowKit Go.Joins Go.Lib Go.Deep

set_option maxRecDepth 100000
theorem pow_of {laid : List (String × DataW Unit)} {W : World} (h : laidMet Tryz.prog laid W) (hm : ("internal/strconv.uint64pow10", (Rows.laid_internal_strconv_uint64pow10 : DataW Unit)) ∈ laid) : PowTab W := by
 have e : (Rows.laid_internal_strconv_uint64pow10 : DataW Unit) = Lib.tabData .u64 Lib.pow10Tab := by kernel_rfl
 rw [e] at hm
 obtain ⟨g, t, cs, fuel, p, hg, hty, hvar, hd⟩ := laidMet.reads h hm
 obtain rfl : g = 8 := Option.some.inj (hg.symm.trans (by kernel_rfl))
 obtain rfl : t = 248 := Option.some.inj (hty.symm.trans (by kernel_rfl))
 show Lib.TabIs _ _ _ _ _
 unfold Lib.TabIs
 rw [hvar, ← Lib.cells_of_tab Tryz.underlying248 Tryz.underlying64 (by kernel_rfl) (by kernel_rfl) hd]

theorem name_err (u : TypeId) (h : Tryz.prog.typeName? 3 u = some "*errors.errorString") : u = 252 :=
 typeName_ptr_named (nm := "errors.errorString") (by rw [show "*" ++ "errors.errorString" = "*errors.errorString" by decide]; kernel_rfl) (by kernel_rfl) (by decide) u (by rw [show "*" ++ "errors.errorString" = "*errors.errorString" by decide]; exact h)
theorem errs_of {W : World} (h : laidMet Tryz.prog Rows.exprsReadsUptoRow.laid W) : ErrVars W := by
 have h4 := laidMet.tail (laidMet.tail (laidMet.tail (laidMet.tail h)))
 obtain ⟨a0, s0, hv0, -, -, -⟩ := laid_sentinel h4 (show Tryz.prog.globalNamed "strconv.ErrRange" = some 7 by kernel_rfl) (show (Tryz.prog.globals[7]?).map (·.type) = some 94 by kernel_rfl) Tryz.underlying94 name_err Tryz.underlying252 Tryz.underlying254 rfl rfl Tryz.underlying9 (show Tryz.prog.cellsOf 254 = 1 by kernel_rfl) (show Tryz.prog.cellsOf 9 = 1 by kernel_rfl)
 obtain ⟨a1, s1, hv1, -, -, -⟩ := laid_sentinel (laidMet.tail h4) (show Tryz.prog.globalNamed "strconv.ErrSyntax" = some 6 by kernel_rfl) (show (Tryz.prog.globals[6]?).map (·.type) = some 94 by kernel_rfl) Tryz.underlying94 name_err Tryz.underlying252 Tryz.underlying254 rfl rfl Tryz.underlying9 (show Tryz.prog.cellsOf 254 = 1 by kernel_rfl) (show Tryz.prog.cellsOf 9 = 1 by kernel_rfl)
 refine ⟨⟨_, (World.var?_cell (show Tryz.prog.globalNamed "strconv.ErrSyntax" = some 6 by kernel_rfl) hv1 0).trans rfl, .inr ⟨_, _, rfl⟩⟩, ⟨_, (World.var?_cell (show Tryz.prog.globalNamed "strconv.ErrRange" = some 7 by kernel_rfl) hv0 0).trans rfl, .inr ⟨_, _, rfl⟩⟩⟩
set_option maxRecDepth 100000 in
theorem contract (H : Type) (enc : TypeId × Value → H) (W : World) (base : Nat) (args : Array Value) (ds gs : List (DataW H)) (before : List MemPlace)
  (hval : ∀ (j : Nat) t v, Tryz.f5.params[j]? = some t → args[j]? = some v → Value.okWide Tryz.prog W .any base t v)
  (hW : DataW.Whole enc Tryz.prog Tryz.f5.params.toList Rows.exprsReadsSpec.vars false W args.toList ds gs before) (hL : laidMetH Tryz.prog Rows.exprsReadsUptoRow.laid W) (hk : ∀ k, (Rows.OpenSpec.upto Rows.exprsReadsSpec).cond = some k → k H (ds ++ gs) = true) :
  Calls Tryz.prog 5 args W fun e W' => ∃ v, e = .returned v ∧ Rows.exprsReadsSpec.post enc Tryz.prog Tryz.f5 false true false false W args v W' := by
 have hL' : laidMet Tryz.prog Rows.exprsReadsUptoRow.laid W := (MakeChecks.laidMetH_plain _ _ _ (by kernel_rfl)) ▸ hL
 have hE : ErrVars W := errs_of hL'
 have hP : PowTab W := pow_of hL' (by simp [Rows.exprsReadsUptoRow])
 have hT : Tabs W := tabs_of hL' (by simp [Rows.exprsReadsUptoRow, Rows.laid_unicode_utf8_first]) (by simp [Rows.exprsReadsUptoRow]; first | rfl | exact Or.inl rfl | exact Or.inr rfl | (right; right; right; left; rfl) | (right; right; right; right; right; right; rfl))
 have hW' := hW
 obtain ⟨p, q, hA0, hV, rfl, hfz, hnd⟩ := hW'
 have hA : DataW.TrodAll enc Tryz.prog W 0 (fun _ => true) true Tryz.f5.params.toList args.toList ds p := hA0
 rw [Tryz.params5] at hA hval
 obtain ⟨v0, vs0, d0, ds0, p0, q0, hargs, rfl, rfl, h0, r0⟩ := trodAll_cons hA
 obtain ⟨v1, vs1, d1, ds1, p1, q1, hargs1, rfl, rfl, h1, r1⟩ := trodAll_cons r0
 obtain ⟨rfl, rfl, rfl⟩ := trodAll_nil r1
 subst hargs1
 obtain rfl : args = #[v0, v1] := by cases args; simp_all
 obtain ⟨x, rfl, rfl, rfl, -⟩ := Go.ChangeMaps.open_string (Tryz.underlying9) (hval 0 9 v0 rfl rfl) h0
 obtain ⟨n, rfl, rfl, rfl, -⟩ := Go.ChangeShapes.open_int (Tryz.underlying3) (hval 1 3 v1 rfl rfl) h1
 have hbulk : Rows.uptoBulkAll ([.lit (.string x.data.toList), .lit (.int .i64 n)] : List (DataW H)) ≤ 1048576 := by
  have := hk _ rfl
  simp only [Rows.uptoSmall, decide_eq_true_eq] at this
  refine Nat.le_trans ?_ this
  simp only [List.cons_append, List.nil_append, Rows.uptoBulkAll]
  omega
 simp only [Rows.uptoBulkAll] at hbulk
 simp only [Rows.uptoBulk] at hbulk
 have hxl : x.data.toList.length ≤ 1048576 := by omega
 rw [str_data x]
 refine law_post laidOut (by kernel_rfl) rfl rfl Tryz.underlying4 hW rfl ?_
 exact esreads_any x.data.toList n W hxl ⟨hT, hE, hP⟩

def numCells : DataW Unit → List Value
 | .agg l => l.map fun | .lit (.int k n) => .int k n | _ => .nilIface
 | _ => []
noncomputable def laidWorld (os : Os) : World :=
 let w0 := World.holding Tryz.prog os ⟨#[], #[], []⟩
 let put (h : Array Obj) (g : Nat) (cs : Array Value) : Array Obj := h.modify g fun
  | .cells _ t frozen => .cells cs t frozen
  | o => o
 let h1 := put w0.heap 3 ((List.range 256).map fun c => Value.int .u8 (firstT c)).toArray
 let h2 := put h1 4 ((List.range 16).flatMap fun i => [Value.int .u8 (accLo i), Value.int .u8 (accHi i)]).toArray
 let h3 := put h2 8 (numCells Rows.laid_internal_strconv_uint64pow10).toArray
 let h4 := put h3 9 (numCells Rows.laid_math_bits_deBruijn32tab).toArray
 let h5 := put h4 10 (numCells Rows.laid_math_bits_deBruijn64tab).toArray
 let k := h5.size
 let h6 := (h5.push (.cells #[.string ⟨#[118, 97, 108, 117, 101, 32, 111, 117, 116, 32, 111, 102, 32, 114, 97, 110, 103, 101]⟩] 254)).push (.cells #[.string ⟨#[105, 110, 118, 97, 108, 105, 100, 32, 115, 121, 110, 116, 97, 120]⟩] 254)
 let h7 := put h6 7 #[.iface 252 (.pointer (some ⟨k, 0, none⟩))]
 let h8 := put h7 6 #[.iface 252 (.pointer (some ⟨k + 1, 0, none⟩))]
 { w0 with heap := h8 }

theorem laid_met (os : Os) : laidMet Tryz.prog Rows.exprsReadsUptoRow.laid ((laidWorld os).forCall (fun _ _ => 0) ⟨#[], #[.string ⟨#[]⟩, .int .i64 0], []⟩).memory :=
 laidMet_of_run' 8 (by kernel_rfl) (by kernel_rfl)
theorem reads (os : Os) {H : Type} (enc : TypeId × Value → H) : ∃ places, DataW.whole enc Tryz.prog ((laidWorld os).forCall (fun _ _ => 0) ⟨#[], #[.string ⟨#[]⟩, .int .i64 0], []⟩).memory Tryz.f5.params.toList Rows.exprsReadsSpec.vars false #[.string ⟨#[]⟩, .int .i64 0].toList 8 = some ([.lit (.string []), .lit (.int .i64 0)], [], places) :=
 ⟨[], by kernel_rfl⟩

set_option maxRecDepth 100000 in
theorem lifted (os : Os) (started : os.Started) (H : Type) (enc : TypeId × Value → H) (F : Stop.Interp) :
  ReturnsInHanded {} Tryz.checked os 5 .any ((Rows.OpenSpec.upto Rows.exprsReadsSpec).preRow enc Tryz.prog Tryz.f5 Rows.exprsReadsUptoRow.domain false Rows.exprsReadsUptoRow.laid) (((Rows.OpenSpec.upto Rows.exprsReadsSpec).at F).post enc Tryz.prog Tryz.f5 false true false false) := by
 obtain ⟨places, hx⟩ := reads os enc
 refine returnsInHanded_of_row (C := Tryz.checked) (s := Rows.OpenSpec.upto Rows.exprsReadsSpec) own started (by kernel_rfl) Tryz.func5
  (witness_row_atRef (enc := enc) (C := Tryz.checked) false (laidWorld os) #[.string ⟨#[]⟩, .int .i64 0] rfl (by kernel_rfl) (by kernel_rfl) (by kernel_rfl)
   (OpenSpec.preRow_of_cond 8 hx (by kernel_rfl) (fun k hk => by cases hk; simp [Rows.uptoSmall, Rows.uptoBulkAll, Rows.uptoBulk]) (by kernel_rfl) (laid_met os))) ?_
 intro W base args ds gs before hval hW _ hk _ hL _ _
 exact contract H enc W base args ds gs before hval hW hL hk

theorem fact_name : Tryz.pinned.checked.prog.funcNamed "duet/duetlaw.ExprsReads" = some 5 := by kernel_rfl
theorem fact_joined : joinedFacts Tryz.pinned.checked.prog 5 Tryz.f5 (Rows.OpenSpec.upto Rows.exprsReadsSpec).bare Rows.exprsReadsUptoRow = true := by kernel_rfl
theorem fact_instance : Tryz.f5.isInstance Tryz.pinned.checked.prog Rows.exprsReadsUptoRow.origin Rows.exprsReadsUptoRow.targs := of_decide_eq_true (by kernel_rfl)
theorem fact_wrapper : Tryz.f5.isWrapper Tryz.pinned.checked.prog Rows.exprsReadsUptoRow.wrapper Rows.exprsReadsUptoRow.mainSum := by unfold Func.isWrapper; first | (rw [if_pos (by decide +kernel)]; kernel_rfl) | (rw [if_neg (by decide +kernel)]; exact ⟨rfl, rfl⟩)
theorem said : Rows.ExprsReadsUptoSaid :=
 OpenClaim.holds_of_cond 5 Tryz.f5 rfl rfl rfl rfl rfl rfl rfl ⟨rfl, rfl, rfl, rfl, rfl⟩ rfl rfl rfl rfl rfl fact_name Tryz.func5 fact_joined
  fact_instance fact_wrapper
  (fun os started H enc _ F => by rw [OpenClaim.pre_eq_preRow]; exact lifted os started H enc F)

theorem plain (f : FuncId) (fn : Func) (hf : Tryz.pinned.checked.prog.funcNamed "duet/duetlaw.ExprsReads" = some f) (hfn : Tryz.pinned.checked.prog.funcs[f]? = some fn) :
  true = Tryz.pinned.checked.prog.looks [] ∧ ∀ (j : Nat) t, fn.params[j]? = some t → Tryz.pinned.checked.prog.wantsStandIn t = false := by
 obtain rfl : f = 5 := Option.some.inj ((show Tryz.prog.funcNamed "duet/duetlaw.ExprsReads" = some 5 by kernel_rfl).symm.trans hf) |>.symm
 obtain rfl : fn = Tryz.f5 := (Option.some.inj (Tryz.func5.symm.trans hfn)).symm
 refine ⟨by kernel_rfl, fun j t ht => ?_⟩
 rw [Tryz.params5] at ht
 have hm : t = 9 ∨ t = 3 := by simpa using Array.mem_of_getElem? ht
 rcases hm with rfl | rfl
 ·exact (show Tryz.prog.wantsStandIn 9 = false by kernel_rfl)
 ·exact (show Tryz.prog.wantsStandIn 3 = false by kernel_rfl)

theorem card : Rows.ExprsReadsUptoCardSaid :=
 Claim7.holds_tied_plain_at .later [] _ _ _ _ said (fun _ h => by cases h) (by kernel_rfl) (fun _ h => by cases h) exprsReadsUpto_row_tie rfl ⟨rfl, rfl⟩ (by kernel_rfl) rfl plain (by kernel_rfl)
#print axioms card
end Go.Proofs.YtpidjanngbaiiaaGreatDoor.exprsReads
