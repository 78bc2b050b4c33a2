/-
  For every text handed in, duetlaw.GlobalReads returns true, and what was handed in reads as before: global.IsRole and Parse answer what the reference answers. Conditions: none on the arguments; the package-level tables that the row lists (unicode/utf8's two, global.sorts) hold what the row lists, which the card ties to the program's text.
-/
import Derived.Test.YtcacembpegoghaaDoorCards
import Derived.Test.YtcacembpegoghaaDoorTie
import Derived.Test.YtcacembpegoghaaDoorGlZ
import Derived.Test.YtcacembpegoghaaDoorLaw
import Derived.MakeChecks
import Derived.ChangeMaps5
import Derived.Deep.DeepWitnessRowRef
import Derived.Lib.LaidIn
namespace Go.Proofs.YtcacembpegoghaaDoor.globalReads
open Go.ChangeShapes Go.WideShapes Go.ChangeAt Go.RowKit Go.Joins Go.Lib Go.Deep

set_option maxRecDepth 100000
theorem sorts_of {laid : List (String × DataW Unit)} {W : World} (h : laidMet Tryd.prog laid W) (hm : ("duet/global.sorts", (Rows.laid_duet_global_sorts : DataW Unit)) ∈ laid) : GSorts W := by
  obtain ⟨g, t, cs, fuel, p, hg, hty, hvar, hd⟩ := laidMet.reads h hm
  obtain rfl : g = 0 := Option.some.inj (hg.symm.trans (by kernel_rfl))
  obtain rfl : t = 39 := Option.some.inj (hty.symm.trans (by kernel_rfl))
  rcases open_strs Tryd.underlying39 Tryd.underlying9 cellsStr hd with ⟨_, e⟩ | ⟨a, len, cap, m, Sx, hcs, -, hl, hm2, hmm, he, hx⟩
  · simp [Rows.laid_duet_global_sorts] at e
  · have h0 := World.var?_cell hg hvar 0
    rw [← Array.getElem?_toList, hcs] at h0
    have hmc : m = (if (fun _ : Nat => true) a.block then cap else len) := hmm
    simp only [Rows.laid_duet_global_sorts, Prod.mk.injEq, DataW.slice.injEq] at he
    obtain ⟨⟨he1, -⟩, -⟩ := he
    have hlen : len = 4 := by
      have := congrArg List.length he1
      simpa using this.symm
    subst hlen
    have each : ∀ i s, ([[], [105, 110, 116], [98, 111, 111, 108], [116, 101, 120, 116]] : List Str)[i]? = some s → (Sx i).data.toList = s := by
      intro i s hi
      have hi4 : i < 4 := (List.getElem?_eq_some_iff.1 hi).1
      match i, hi, hi4 with
      | 0, hi, _ | 1, hi, _ | 2, hi, _ | 3, hi, _ =>
        simp only [List.range, List.range.loop, List.map, List.cons.injEq, DataW.lit.injEq, Lit.string.injEq] at he1
        obtain ⟨k0, k1, k2, k3, -⟩ := he1
        simp at hi
        subst hi
        first | exact k0.symm | exact k1.symm | exact k2.symm | exact k3.symm
    have h4m : 4 ≤ m := by rw [hmc]; simpa using hl
    obtain ⟨b, off, spot⟩ := a
    have hspot : spot = none := by simpa [Addr.add] using World.cell?_spot (hx 0 (by omega)).1
    subst hspot
    refine ⟨b, off, cap, h0, hl, fun i s hi => ?_⟩
    have hi4 : i < 4 := (List.getElem?_eq_some_iff.1 hi).1
    have h1 := (hx i (by omega)).1
    rw [Go.WideShapes.add_plain] at h1
    rw [h1, ← each i s hi, mk_data]

set_option maxRecDepth 100000 in
theorem contract (H : Type) (enc : TypeId × Value → H) (W : World) (base : Nat) (args : Array Value) (ds gs : List (DataW H)) (before : List MemPlace)
    (hval : ∀ (j : Nat) t v, Tryd.f4.params[j]? = some t → args[j]? = some v → Value.okWide Tryd.prog W .any base t v)
    (hW : DataW.Whole enc Tryd.prog Tryd.f4.params.toList Rows.globalReadsSpec.vars false W args.toList ds gs before) (hL : laidMetH Tryd.prog Rows.globalReadsRow.laid W) :
    Calls Tryd.prog 4 args W fun e W' => ∃ v, e = .returned v ∧ Rows.globalReadsSpec.post enc Tryd.prog Tryd.f4 false true false false W args v W' := by
  have hL' : laidMet Tryd.prog Rows.globalReadsRow.laid W := (MakeChecks.laidMetH_plain _ _ _ (by kernel_rfl)) ▸ hL
  have hS : GSorts W := sorts_of hL' (by simp [Rows.globalReadsRow])
  have hW' := hW
  obtain ⟨p, q, hA0, hV, rfl, hfz, hnd⟩ := hW'
  have hA : DataW.TrodAll enc Tryd.prog W 0 (fun _ => true) true Tryd.f4.params.toList args.toList ds p := hA0
  rw [Tryd.params4] at hA hval
  obtain ⟨v0, vs0, d0, ds0, p0, q0, hargs, rfl, rfl, h0, r0⟩ := trodAll_cons hA
  obtain ⟨rfl, rfl, rfl⟩ := trodAll_nil r0
  obtain rfl : args = #[v0] := by cases args; simp_all
  obtain ⟨s, rfl, rfl, rfl, hs⟩ := Go.ChangeMaps.open_string (Tryd.underlying9) (hval 0 9 v0 rfl rfl) h0
  have hl : s.data.toList.length ≤ maxLen := by simpa using hs
  have key := greads_any s.data.toList W hS hl
  rw [mk_data] at key
  exact law_post laidOut (by kernel_rfl) rfl rfl Tryd.underlying4 hW rfl key

/-- A world for a witness: the settled one with one block more, the words of global.sorts; the three variables holding what their initialisers lay. -/
noncomputable def laidWorld (os : Os) : World :=
  let N := (World.settled Tryd.prog os).heap.size
  let w0 := World.holding Tryd.prog os ⟨#[.cells #[.string ⟨#[]⟩, .string ⟨#[105, 110, 116]⟩, .string ⟨#[98, 111, 111, 108]⟩, .string ⟨#[116, 101, 120, 116]⟩] 9], #[], []⟩
  let put (h : Array Obj) (g : Nat) (cs : Array Value) : Array Obj := h.modify g fun
    | .cells _ t frozen => .cells cs t frozen
    | o => o
  let h1 := put w0.heap 2 ((List.range 256).map fun c => Value.int .u8 (firstT c)).toArray
  let h2 := put h1 3 ((List.range 16).flatMap fun i => [Value.int .u8 (accLo i), Value.int .u8 (accHi i)]).toArray
  let h3 := put h2 0 #[.slice (some ⟨N, 0, none⟩) 4 4]
  { w0 with heap := h3 }

theorem laid_met (os : Os) : laidMet Tryd.prog Rows.globalReadsRow.laid ((laidWorld os).forCall (fun _ _ => 0) ⟨#[], #[.string ⟨#[]⟩], []⟩).memory :=
  laidMet_of_run' 8 (by kernel_rfl) (by kernel_rfl)
theorem reads (os : Os) {H : Type} (enc : TypeId × Value → H) : ∃ ds places, DataW.whole enc Tryd.prog ((laidWorld os).forCall (fun _ _ => 0) ⟨#[], #[.string ⟨#[]⟩], []⟩).memory Tryd.f4.params.toList Rows.globalReadsSpec.vars false #[.string ⟨#[]⟩].toList 8 = some (ds, [], places) :=
  ⟨[.lit (.string [])], [], by kernel_rfl⟩

set_option maxRecDepth 100000 in
theorem lifted (os : Os) (started : os.Started) (H : Type) (enc : TypeId × Value → H) (F : Stop.Interp) :
    ReturnsInHanded {} Tryd.checked os 4 .any ((OpenSpec.ofChange Rows.globalReadsSpec).preRow enc Tryd.prog Tryd.f4 Rows.globalReadsRow.domain false Rows.globalReadsRow.laid) (((OpenSpec.ofChange Rows.globalReadsSpec).at F).post enc Tryd.prog Tryd.f4 false true false false) := by
  obtain ⟨ds, places, hx⟩ := reads os enc
  refine returnsInHanded_of_row (C := Tryd.checked) (s := OpenSpec.ofChange Rows.globalReadsSpec) own started (by kernel_rfl) Tryd.func4
    (witness_row_atRef (enc := enc) (C := Tryd.checked) false (laidWorld os) #[.string ⟨#[]⟩] rfl (by kernel_rfl) (by kernel_rfl) (by kernel_rfl)
      (OpenSpec.preRow_of_cond 8 hx (by kernel_rfl) (fun k hk => by cases hk) (by kernel_rfl) (laid_met os))) ?_
  intro W base args ds gs before hval hW _ _ _ hL _ _
  exact contract H enc W base args ds gs before hval hW hL

theorem fact_name : Tryd.pinned.checked.prog.funcNamed "duet/duetlaw.GlobalReads" = some 4 := by kernel_rfl
theorem fact_joined : joinedFacts Tryd.pinned.checked.prog 4 Tryd.f4 (OpenSpec.ofChange Rows.globalReadsSpec).bare Rows.globalReadsRow = true := by kernel_rfl
theorem fact_instance : Tryd.f4.isInstance Tryd.pinned.checked.prog Rows.globalReadsRow.origin Rows.globalReadsRow.targs := of_decide_eq_true (by kernel_rfl)
theorem fact_wrapper : Tryd.f4.isWrapper Tryd.pinned.checked.prog Rows.globalReadsRow.wrapper Rows.globalReadsRow.mainSum := by unfold Func.isWrapper; first | (rw [if_pos (by decide +kernel)]; kernel_rfl) | (rw [if_neg (by decide +kernel)]; exact ⟨rfl, rfl⟩)
theorem said : Rows.GlobalReadsSaid :=
  OpenClaim.holds_of_cond 4 Tryd.f4 rfl rfl rfl rfl rfl rfl rfl ⟨rfl, rfl, rfl, rfl, rfl⟩ rfl rfl rfl rfl rfl fact_name Tryd.func4 fact_joined
    fact_instance fact_wrapper
    (fun os started H enc _ F => by rw [OpenClaim.pre_eq_preRow]; exact lifted os started H enc F)

/-- No parameter wants a stand-in; the program's looks are as the card has them. -/
theorem plain (f : FuncId) (fn : Func) (hf : Tryd.pinned.checked.prog.funcNamed "duet/duetlaw.GlobalReads" = some f) (hfn : Tryd.pinned.checked.prog.funcs[f]? = some fn) :
    true = Tryd.pinned.checked.prog.looks [] ∧ ∀ (j : Nat) t, fn.params[j]? = some t → Tryd.pinned.checked.prog.wantsStandIn t = false := by
  obtain rfl : f = 4 := Option.some.inj ((show Tryd.prog.funcNamed "duet/duetlaw.GlobalReads" = some 4 by kernel_rfl).symm.trans hf) |>.symm
  obtain rfl : fn = Tryd.f4 := (Option.some.inj (Tryd.func4.symm.trans hfn)).symm
  refine ⟨by kernel_rfl, fun j t ht => ?_⟩
  rw [Tryd.params4] at ht
  have hm : t = 9 := by simpa using Array.mem_of_getElem? ht
  subst hm
  exact (show Tryd.prog.wantsStandIn 9 = false by kernel_rfl)

/-- THE CARD. -/
theorem card : Rows.GlobalReadsCardSaid :=
  Claim7.holds_tied_plain_at .later [] _ _ _ _ said (fun _ h => by cases h) (by kernel_rfl) (fun _ h => by cases h) globalReads_row_tie rfl ⟨rfl, rfl⟩ (by kernel_rfl) rfl plain (by kernel_rfl)
#print axioms card
end Go.Proofs.YtcacembpegoghaaDoor.globalReads
