/-
  For every conversation and every two lists of words handed in, of bulk at most 1048576 together, duetlaw.GlobalSays returns true, and what was handed in reads as before: global.Check, Write, Roles and Rename answer what the reference answers. Conditions: the bulk of what is handed in; the package-level tables that the row lists hold what the row lists, which the card ties to the program's text.
-/
import Derived.Test.YtgnkncfnkjeinaaDoorCards
import Derived.Test.YtgnkncfnkjeinaaDoorTie
import Derived.Test.YtgnkncfnkjeinaaDoorGsZ
import Derived.Test.YtgnkncfnkjeinaaDoorM28
import Derived.Test.YtgnkncfnkjeinaaDoorM3
import Derived.MakeChecks
import Derived.ChangeMaps5
import Derived.Deep.DeepWitnessRowRef
import Derived.Lib.LaidIn
namespace Go.Proofs.YtgnkncfnkjeinaaDoor.globalSays
open Go.ChangeShapes Go.WideShapes Go.ChangeAt Go.RowKit Go.Joins Go.Lib Go.Deep

set_option maxRecDepth 100000
theorem sorts_of {laid : List (String × DataW Unit)} {W : World} (h : laidMet Tryd.prog laid W) (hm : ("duet/global.sorts", (Rows.laid_duet_global_sorts : DataW Unit)) ∈ laid) : GSorts W := by
  obtain ⟨g, t, cs, fuel, p, hg, hty, hvar, hd⟩ := laidMet.reads h hm
  obtain rfl : g = 1 := Option.some.inj (hg.symm.trans (by kernel_rfl))
  obtain rfl : t = 22 := Option.some.inj (hty.symm.trans (by kernel_rfl))
  rcases open_strs Tryd.underlying22 Tryd.underlying9 cellsStr hd with ⟨_, e⟩ | ⟨a, len, cap, m, Sx, hcs, -, hl, hm2, hmm, he, hx⟩
  · simp [Rows.laid_duet_global_sorts] at e
  · have h0 := World.var?_cell hg hvar 0
    rw [← Array.getElem?_toList, hcs] at h0
    have hmc : m = (if (fun _ : Nat => true) a.block then cap else len) := hmm
    simp only [Rows.laid_duet_global_sorts, Prod.mk.injEq, DataW.slice.injEq] at he
    obtain ⟨⟨he1, -⟩, -⟩ := he
    have hlen : len = 4 := by
      have := congrArg List.length he1
      simpa using this.symm
    subst hlen
    have each : ∀ i s, ([[], [105, 110, 116], [98, 111, 111, 108], [116, 101, 120, 116]] : List Str)[i]? = some s → (Sx i).data.toList = s := by
      intro i s hi
      have hi4 : i < 4 := (List.getElem?_eq_some_iff.1 hi).1
      match i, hi, hi4 with
      | 0, hi, _ | 1, hi, _ | 2, hi, _ | 3, hi, _ =>
        simp only [List.range, List.range.loop, List.map, List.cons.injEq, DataW.lit.injEq, Lit.string.injEq] at he1
        obtain ⟨k0, k1, k2, k3, -⟩ := he1
        simp at hi
        subst hi
        first | exact k0.symm | exact k1.symm | exact k2.symm | exact k3.symm
    have h4m : 4 ≤ m := by rw [hmc]; simpa using hl
    obtain ⟨b, off, spot⟩ := a
    have hspot : spot = none := by simpa [Addr.add] using World.cell?_spot (hx 0 (by omega)).1
    subst hspot
    refine ⟨b, off, cap, h0, hl, fun i s hi => ?_⟩
    have hi4 : i < 4 := (List.getElem?_eq_some_iff.1 hi).1
    have h1 := (hx i (by omega)).1
    rw [Go.WideShapes.add_plain] at h1
    rw [h1, ← each i s hi, mk_data]

set_option maxRecDepth 100000 in
theorem contract (H : Type) (enc : TypeId × Value → H) (W : World) (base : Nat) (args : Array Value) (ds gs : List (DataW H)) (before : List MemPlace)
    (hval : ∀ (j : Nat) t v, Tryd.f6.params[j]? = some t → args[j]? = some v → Value.okWide Tryd.prog W .any base t v)
    (hW : DataW.Whole enc Tryd.prog Tryd.f6.params.toList Rows.globalSaysSpec.vars false W args.toList ds gs before) (hL : laidMetH Tryd.prog Rows.globalSaysUptoRow.laid W) (hk : ∀ k, (Rows.OpenSpec.upto Rows.globalSaysSpec).cond = some k → k H (ds ++ gs) = true) :
    Calls Tryd.prog 6 args W fun e W' => ∃ v, e = .returned v ∧ Rows.globalSaysSpec.post enc Tryd.prog Tryd.f6 false true false false W args v W' := by
  have hL' : laidMet Tryd.prog Rows.globalSaysUptoRow.laid W := (MakeChecks.laidMetH_plain _ _ _ (by kernel_rfl)) ▸ hL
  have hS : GSorts W := sorts_of hL' (by simp [Rows.globalSaysUptoRow])
  have hW' := hW
  obtain ⟨p, q, hA0, hV, rfl, hfz, hnd⟩ := hW'
  have hA : DataW.TrodAll enc Tryd.prog W 0 (fun _ => true) true Tryd.f6.params.toList args.toList ds p := hA0
  rw [Tryd.params6] at hA hval
  obtain ⟨v0, vs0, d0, ds0, p0, q0, hargs, rfl, rfl, h0, r0⟩ := trodAll_cons hA
  obtain ⟨v1, vs1, d1, ds1, p1, q1, hargs1, rfl, rfl, h1, r1⟩ := trodAll_cons r0
  obtain ⟨v2, vs2, d2, ds2, p2, q2, hargs2, rfl, rfl, h2, r2⟩ := trodAll_cons r1
  obtain ⟨rfl, rfl, rfl⟩ := trodAll_nil r2
  subst hargs1 hargs2
  obtain rfl : args = #[v0, v1, v2] := by cases args; simp_all
  obtain ⟨t, ht, hf⟩ := open_gl (hval 0 52 v0 rfl rfl) h0
  obtain ⟨F, hF, hF1, hF2⟩ := open_words (hval 1 22 v1 rfl rfl) h1
  obtain ⟨T, hT, hT1, hT2⟩ := open_words (hval 2 22 v2 rfl rfl) h2
  have hbulk : Rows.uptoBulkAll [d0, d1, d2] ≤ 1048576 := by
    have := hk _ rfl
    simp only [Rows.uptoSmall, decide_eq_true_eq] at this
    refine Nat.le_trans ?_ this
    simp only [List.cons_append, List.nil_append, Rows.uptoBulkAll]
    omega
  have hfit : GFit t := hf.fit (by simp only [Rows.uptoBulkAll] at hbulk; omega)
  unfold maxLen at hF1 hT1
  refine law_post laidOut (by kernel_rfl) rfl rfl Tryd.underlying4 hW rfl ?_
  by_cases hE : glErr t = 0
  · by_cases hl : F.length = T.length
    · exact gsays_eq F T t v0 v1 v2 W ht hfit hF hT hF1 hT1 hS hT2 hF2 hE hl
    · exact gsays_len F T t v0 v1 v2 W ht hfit hF hT hF1 hT1 hS hE hl
  · exact gsays_bad F T t v0 v1 v2 W ht hfit hF hT hF1 hT1 hS _ rfl hE

/-- A world for a witness: the settled one with one block more, the words of global.sorts; the three variables holding what their initialisers lay. -/
noncomputable def laidWorld (os : Os) : World :=
  let N := (World.settled Tryd.prog os).heap.size
  let w0 := World.holding Tryd.prog os ⟨#[.cells #[.string ⟨#[]⟩, .string ⟨#[105, 110, 116]⟩, .string ⟨#[98, 111, 111, 108]⟩, .string ⟨#[116, 101, 120, 116]⟩] 9], #[], []⟩
  let put (h : Array Obj) (g : Nat) (cs : Array Value) : Array Obj := h.modify g fun
    | .cells _ t frozen => .cells cs t frozen
    | o => o
  let h1 := put w0.heap 3 ((List.range 256).map fun c => Value.int .u8 (firstT c)).toArray
  let h2 := put h1 4 ((List.range 16).flatMap fun i => [Value.int .u8 (accLo i), Value.int .u8 (accHi i)]).toArray
  let h3 := put h2 1 #[.slice (some ⟨N, 0, none⟩) 4 4]
  { w0 with heap := h3 }

def noG : Value := .agg #[.int .i64 1, .string ⟨#[]⟩, .string ⟨#[]⟩, .int .i64 0, .string ⟨#[]⟩, .slice none 0 0, .slice none 0 0]
theorem laid_met (os : Os) : laidMet Tryd.prog Rows.globalSaysUptoRow.laid ((laidWorld os).forCall (fun _ _ => 0) ⟨#[], #[noG, .slice none 0 0, .slice none 0 0], []⟩).memory :=
  laidMet_of_run' 8 (by kernel_rfl) (by kernel_rfl)
theorem reads (os : Os) {H : Type} (enc : TypeId × Value → H) : ∃ places, DataW.whole enc Tryd.prog ((laidWorld os).forCall (fun _ _ => 0) ⟨#[], #[noG, .slice none 0 0, .slice none 0 0], []⟩).memory Tryd.f6.params.toList Rows.globalSaysSpec.vars false #[noG, .slice none 0 0, .slice none 0 0].toList 8 = some ([.agg [.lit (.int .i64 1), .lit (.string []), .lit (.string []), .lit (.int .i64 0), .lit (.string []), .nil, .nil], .nil, .nil], [], places) :=
  ⟨[], by kernel_rfl⟩

set_option maxRecDepth 100000 in
theorem lifted (os : Os) (started : os.Started) (H : Type) (enc : TypeId × Value → H) (F : Stop.Interp) :
    ReturnsInHanded {} Tryd.checked os 6 .any ((Rows.OpenSpec.upto Rows.globalSaysSpec).preRow enc Tryd.prog Tryd.f6 Rows.globalSaysUptoRow.domain false Rows.globalSaysUptoRow.laid) (((Rows.OpenSpec.upto Rows.globalSaysSpec).at F).post enc Tryd.prog Tryd.f6 false true false false) := by
  obtain ⟨places, hx⟩ := reads os enc
  refine returnsInHanded_of_row (C := Tryd.checked) (s := Rows.OpenSpec.upto Rows.globalSaysSpec) own started (by kernel_rfl) Tryd.func6
    (witness_row_atRef (enc := enc) (C := Tryd.checked) false (laidWorld os) #[noG, .slice none 0 0, .slice none 0 0] rfl (by kernel_rfl) (by kernel_rfl) (by kernel_rfl)
      (OpenSpec.preRow_of_cond 8 hx (by kernel_rfl) (fun k hk => by cases hk; simp [Rows.uptoSmall, Rows.uptoBulkAll, Rows.uptoBulk]) (by kernel_rfl) (laid_met os))) ?_
  intro W base args ds gs before hval hW _ hk _ hL _ _
  exact contract H enc W base args ds gs before hval hW hL hk

theorem fact_name : Tryd.pinned.checked.prog.funcNamed "duet/duetlaw.GlobalSays" = some 6 := by kernel_rfl
theorem fact_joined : joinedFacts Tryd.pinned.checked.prog 6 Tryd.f6 (Rows.OpenSpec.upto Rows.globalSaysSpec).bare Rows.globalSaysUptoRow = true := by kernel_rfl
theorem fact_instance : Tryd.f6.isInstance Tryd.pinned.checked.prog Rows.globalSaysUptoRow.origin Rows.globalSaysUptoRow.targs := of_decide_eq_true (by kernel_rfl)
theorem fact_wrapper : Tryd.f6.isWrapper Tryd.pinned.checked.prog Rows.globalSaysUptoRow.wrapper Rows.globalSaysUptoRow.mainSum := by unfold Func.isWrapper; first | (rw [if_pos (by decide +kernel)]; kernel_rfl) | (rw [if_neg (by decide +kernel)]; exact ⟨rfl, rfl⟩)
theorem said : Rows.GlobalSaysUptoSaid :=
  OpenClaim.holds_of_cond 6 Tryd.f6 rfl rfl rfl rfl rfl rfl rfl ⟨rfl, rfl, rfl, rfl, rfl⟩ rfl rfl rfl rfl rfl fact_name Tryd.func6 fact_joined
    fact_instance fact_wrapper
    (fun os started H enc _ F => by rw [OpenClaim.pre_eq_preRow]; exact lifted os started H enc F)

/-- No parameter wants a stand-in; the program's looks are as the card has them. -/
theorem plain (f : FuncId) (fn : Func) (hf : Tryd.pinned.checked.prog.funcNamed "duet/duetlaw.GlobalSays" = some f) (hfn : Tryd.pinned.checked.prog.funcs[f]? = some fn) :
    true = Tryd.pinned.checked.prog.looks [] ∧ ∀ (j : Nat) t, fn.params[j]? = some t → Tryd.pinned.checked.prog.wantsStandIn t = false := by
  obtain rfl : f = 6 := Option.some.inj ((show Tryd.prog.funcNamed "duet/duetlaw.GlobalSays" = some 6 by kernel_rfl).symm.trans hf) |>.symm
  obtain rfl : fn = Tryd.f6 := (Option.some.inj (Tryd.func6.symm.trans hfn)).symm
  refine ⟨by kernel_rfl, fun j t ht => ?_⟩
  rw [Tryd.params6] at ht
  have hm : t = 52 ∨ t = 22 := by simpa using Array.mem_of_getElem? ht
  rcases hm with rfl | rfl
  · exact (show Tryd.prog.wantsStandIn 52 = false by kernel_rfl)
  · exact (show Tryd.prog.wantsStandIn 22 = false by kernel_rfl)

/-- THE CARD. -/
theorem card : Rows.GlobalSaysUptoCardSaid :=
  Claim7.holds_tied_plain_at .later [] _ _ _ _ said (fun _ h => by cases h) (by kernel_rfl) (fun _ h => by cases h) globalSaysUpto_row_tie rfl ⟨rfl, rfl⟩ (by kernel_rfl) rfl plain (by kernel_rfl)
#print axioms card
end Go.Proofs.YtgnkncfnkjeinaaDoor.globalSays
