/-
  For every type handed in, duetlaw.TypesSays returns true, and what was handed in reads as before: types.Check, Write, Size and Unfold answer what the reference answers. Conditions: none on the argument; the package-level tables that the row lists (unicode/utf8's two, types.sorts) hold what the row lists, which the card ties to the program's text.
-/
import Derived.Test.YtcacembpegoghaaDoorCards
import Derived.Test.YtcacembpegoghaaDoorTie
import Derived.Test.YtcacembpegoghaaDoorTyV
import Derived.Test.YtcacembpegoghaaDoorLaw
import Derived.MakeChecks
import Derived.Deep.DeepWitnessRowRef
import Derived.Lib.LaidIn
namespace Go.Proofs.YtcacembpegoghaaDoor.typesSays
open Go.ChangeShapes Go.WideShapes Go.ChangeAt Go.RowKit Go.Joins Go.Lib Go.Deep

set_option maxRecDepth 100000
theorem sorts_of {laid : List (String × DataW Unit)} {W : World} (h : laidMet Tryd.prog laid W) (hm : ("duet/types.sorts", (Rows.laid_duet_types_sorts : DataW Unit)) ∈ laid) : Sorts W := by
  obtain ⟨g, t, cs, fuel, p, hg, hty, hvar, hd⟩ := laidMet.reads h hm
  obtain rfl : g = 1 := Option.some.inj (hg.symm.trans (by kernel_rfl))
  obtain rfl : t = 39 := Option.some.inj (hty.symm.trans (by kernel_rfl))
  rcases open_strs Tryd.underlying39 Tryd.underlying9 cellsStr hd with ⟨_, e⟩ | ⟨a, len, cap, m, Sx, hcs, -, hl, hm2, hmm, he, hx⟩
  · simp [Rows.laid_duet_types_sorts] at e
  · have h0 := World.var?_cell hg hvar 0
    rw [← Array.getElem?_toList, hcs] at h0
    have hmc : m = (if (fun _ : Nat => true) a.block then cap else len) := hmm
    simp only [Rows.laid_duet_types_sorts, Prod.mk.injEq, DataW.slice.injEq] at he
    obtain ⟨⟨he1, -⟩, -⟩ := he
    have hlen : len = 4 := by
      have := congrArg List.length he1
      simpa using this.symm
    subst hlen
    have each : ∀ i s, ([[], [105, 110, 116], [98, 111, 111, 108], [116, 101, 120, 116]] : List Str)[i]? = some s → (Sx i).data.toList = s := by
      intro i s hi
      have hi4 : i < 4 := (List.getElem?_eq_some_iff.1 hi).1
      match i, hi, hi4 with
      | 0, hi, _ | 1, hi, _ | 2, hi, _ | 3, hi, _ =>
        simp only [List.range, List.range.loop, List.map, List.cons.injEq, DataW.lit.injEq, Lit.string.injEq] at he1
        obtain ⟨k0, k1, k2, k3, -⟩ := he1
        simp at hi
        subst hi
        first | exact k0.symm | exact k1.symm | exact k2.symm | exact k3.symm
    have h4m : 4 ≤ m := by rw [hmc]; simpa using hl
    obtain ⟨b, off, spot⟩ := a
    have hspot : spot = none := by simpa [Addr.add] using World.cell?_spot (hx 0 (by omega)).1
    subst hspot
    refine ⟨b, off, cap, h0, hl, fun i s hi => ?_⟩
    have hi4 : i < 4 := (List.getElem?_eq_some_iff.1 hi).1
    have h1 := (hx i (by omega)).1
    rw [Go.WideShapes.add_plain] at h1
    rw [h1, ← each i s hi, mk_data]

set_option maxRecDepth 100000 in
theorem contract (H : Type) (enc : TypeId × Value → H) (W : World) (base : Nat) (args : Array Value) (ds gs : List (DataW H)) (before : List MemPlace)
    (hval : ∀ (j : Nat) t v, Tryd.f6.params[j]? = some t → args[j]? = some v → Value.okWide Tryd.prog W .any base t v)
    (hW : DataW.Whole enc Tryd.prog Tryd.f6.params.toList Rows.typesSaysSpec.vars false W args.toList ds gs before) (hL : laidMetH Tryd.prog Rows.typesSaysRow.laid W) :
    Calls Tryd.prog 6 args W fun e W' => ∃ v, e = .returned v ∧ Rows.typesSaysSpec.post enc Tryd.prog Tryd.f6 false true false false W args v W' := by
  have hL' : laidMet Tryd.prog Rows.typesSaysRow.laid W := (MakeChecks.laidMetH_plain _ _ _ (by kernel_rfl)) ▸ hL
  have hS : Sorts W := sorts_of hL' (by simp [Rows.typesSaysRow])
  have hW' := hW
  obtain ⟨p, q, hA0, hV, rfl, hfz, hnd⟩ := hW'
  have hA : DataW.TrodAll enc Tryd.prog W 0 (fun _ => true) true Tryd.f6.params.toList args.toList ds p := hA0
  rw [Tryd.params6] at hA hval
  obtain ⟨v0, vs0, d0, ds0, p0, q0, hargs, rfl, rfl, h0, r0⟩ := trodAll_cons hA
  obtain ⟨rfl, rfl, rfl⟩ := trodAll_nil r0
  obtain rfl : args = #[v0] := by cases args; simp_all
  obtain ⟨t, ht, hf⟩ := open_type (hval 0 51 v0 rfl rfl) h0
  exact law_post laidOut (by kernel_rfl) rfl rfl Tryd.underlying4 hW rfl (says_any t v0 W ht hf hS)

/-- A world for a witness: the settled one with one block more, the words of types.sorts; the three variables holding what their initialisers lay. -/
noncomputable def laidWorld (os : Os) : World :=
  let N := (World.settled Tryd.prog os).heap.size
  let w0 := World.holding Tryd.prog os ⟨#[.cells #[.string ⟨#[]⟩, .string ⟨#[105, 110, 116]⟩, .string ⟨#[98, 111, 111, 108]⟩, .string ⟨#[116, 101, 120, 116]⟩] 9], #[], []⟩
  let put (h : Array Obj) (g : Nat) (cs : Array Value) : Array Obj := h.modify g fun
    | .cells _ t frozen => .cells cs t frozen
    | o => o
  let h1 := put w0.heap 2 ((List.range 256).map fun c => Value.int .u8 (firstT c)).toArray
  let h2 := put h1 3 ((List.range 16).flatMap fun i => [Value.int .u8 (accLo i), Value.int .u8 (accHi i)]).toArray
  let h3 := put h2 1 #[.slice (some ⟨N, 0, none⟩) 4 4]
  { w0 with heap := h3 }
def noT : Value := .agg #[.int .i64 1, .int .i64 0, .string ⟨#[]⟩, .slice none 0 0, .slice none 0 0]

theorem laid_met (os : Os) : laidMet Tryd.prog Rows.typesSaysRow.laid ((laidWorld os).forCall (fun _ _ => 0) ⟨#[], #[noT], []⟩).memory :=
  laidMet_of_run' 8 (by kernel_rfl) (by kernel_rfl)
theorem reads (os : Os) {H : Type} (enc : TypeId × Value → H) : ∃ ds places, DataW.whole enc Tryd.prog ((laidWorld os).forCall (fun _ _ => 0) ⟨#[], #[noT], []⟩).memory Tryd.f6.params.toList Rows.typesSaysSpec.vars false #[noT].toList 8 = some (ds, [], places) :=
  ⟨[.agg [.lit (.int .i64 1), .lit (.int .i64 0), .lit (.string []), .nil, .nil]], [], by kernel_rfl⟩

set_option maxRecDepth 100000 in
theorem lifted (os : Os) (started : os.Started) (H : Type) (enc : TypeId × Value → H) (F : Stop.Interp) :
    ReturnsInHanded {} Tryd.checked os 6 .any ((OpenSpec.ofChange Rows.typesSaysSpec).preRow enc Tryd.prog Tryd.f6 Rows.typesSaysRow.domain false Rows.typesSaysRow.laid) (((OpenSpec.ofChange Rows.typesSaysSpec).at F).post enc Tryd.prog Tryd.f6 false true false false) := by
  obtain ⟨ds, places, hx⟩ := reads os enc
  refine returnsInHanded_of_row (C := Tryd.checked) (s := OpenSpec.ofChange Rows.typesSaysSpec) own started (by kernel_rfl) Tryd.func6
    (witness_row_atRef (enc := enc) (C := Tryd.checked) false (laidWorld os) #[noT] rfl (by kernel_rfl) (by kernel_rfl) (by kernel_rfl)
      (OpenSpec.preRow_of_cond 8 hx (by kernel_rfl) (fun k hk => by cases hk) (by kernel_rfl) (laid_met os))) ?_
  intro W base args ds gs before hval hW _ _ _ hL _ _
  exact contract H enc W base args ds gs before hval hW hL

theorem fact_name : Tryd.pinned.checked.prog.funcNamed "duet/duetlaw.TypesSays" = some 6 := by kernel_rfl
theorem fact_joined : joinedFacts Tryd.pinned.checked.prog 6 Tryd.f6 (OpenSpec.ofChange Rows.typesSaysSpec).bare Rows.typesSaysRow = true := by kernel_rfl
theorem fact_instance : Tryd.f6.isInstance Tryd.pinned.checked.prog Rows.typesSaysRow.origin Rows.typesSaysRow.targs := of_decide_eq_true (by kernel_rfl)
theorem fact_wrapper : Tryd.f6.isWrapper Tryd.pinned.checked.prog Rows.typesSaysRow.wrapper Rows.typesSaysRow.mainSum := by unfold Func.isWrapper; first | (rw [if_pos (by decide +kernel)]; kernel_rfl) | (rw [if_neg (by decide +kernel)]; exact ⟨rfl, rfl⟩)
theorem said : Rows.TypesSaysSaid :=
  OpenClaim.holds_of_cond 6 Tryd.f6 rfl rfl rfl rfl rfl rfl rfl ⟨rfl, rfl, rfl, rfl, rfl⟩ rfl rfl rfl rfl rfl fact_name Tryd.func6 fact_joined
    fact_instance fact_wrapper
    (fun os started H enc _ F => by rw [OpenClaim.pre_eq_preRow]; exact lifted os started H enc F)

/-- No parameter wants a stand-in; the program's looks are as the card has them. -/
theorem plain (f : FuncId) (fn : Func) (hf : Tryd.pinned.checked.prog.funcNamed "duet/duetlaw.TypesSays" = some f) (hfn : Tryd.pinned.checked.prog.funcs[f]? = some fn) :
    true = Tryd.pinned.checked.prog.looks [] ∧ ∀ (j : Nat) t, fn.params[j]? = some t → Tryd.pinned.checked.prog.wantsStandIn t = false := by
  obtain rfl : f = 6 := Option.some.inj ((show Tryd.prog.funcNamed "duet/duetlaw.TypesSays" = some 6 by kernel_rfl).symm.trans hf) |>.symm
  obtain rfl : fn = Tryd.f6 := (Option.some.inj (Tryd.func6.symm.trans hfn)).symm
  refine ⟨by kernel_rfl, fun j t ht => ?_⟩
  rw [Tryd.params6] at ht
  obtain rfl : t = 51 := by simpa using Array.mem_of_getElem? ht
  exact (show Tryd.prog.wantsStandIn 51 = false by kernel_rfl)

/-- THE CARD. -/
theorem card : Rows.TypesSaysCardSaid :=
  Claim7.holds_tied_plain_at .later [] _ _ _ _ said (fun _ h => by cases h) (by kernel_rfl) (fun _ h => by cases h) typesSays_row_tie rfl ⟨rfl, rfl⟩ (by kernel_rfl) rfl plain (by kernel_rfl)
#print axioms card
end Go.Proofs.YtcacembpegoghaaDoor.typesSays
