/-
  For every list of events and every text handed in, of bulk at most 1048576 together, duetlaw.WiresSays returns true, and what was handed in reads as before: wires.Write and Read answer what the reference answers. Conditions: the bulk of what is handed in; the package-level tables that the row lists (unicode/utf8's two, types.sorts) hold what the row lists, which the card ties to the program's text.
-/
import Derived.Test.YtpidjanngbaiiaaGreatDoorCards
import Derived.Test.YtpidjanngbaiiaaGreatDoorTie
import Derived.Test.YtpidjanngbaiiaaGreatDoorM27
import Derived.Test.YtpidjanngbaiiaaGreatDoorM3
import Derived.MakeChecks
import Derived.ChangeMaps5
import Derived.Deep.DeepWitnessRowRef
import Derived.Lib.LaidIn
namespace Go.Proofs.YtpidjanngbaiiaaGreatDoor.wiresSays
open Go.ChangeShapes Go.WideShapes Go.ChangeAt Go.RowKit Go.Joins Go.Lib Go.Deep

set_option maxRecDepth 100000
theorem sorts_of {laid : List (String × DataW Unit)} {W : World} (h : laidMet Tryz.prog laid W) (hm : ("duet/types.sorts", (Rows.laid_duet_types_sorts : DataW Unit)) ∈ laid) : Sorts W := by
 obtain ⟨g, t, cs, fuel, p, hg, hty, hvar, hd⟩ := laidMet.reads h hm
 obtain rfl : g = 2 := Option.some.inj (hg.symm.trans (by kernel_rfl))
 obtain rfl : t = 27 := Option.some.inj (hty.symm.trans (by kernel_rfl))
 rcases open_strs Tryz.underlying27 Tryz.underlying9 cellsStr hd with ⟨_, e⟩ | ⟨a, len, cap, m, Sx, hcs, -, hl, hm2, hmm, he, hx⟩
 ·simp [Rows.laid_duet_types_sorts] at e
 ·have h0 := World.var?_cell hg hvar 0
  rw [← Array.getElem?_toList, hcs] at h0
  have hmc : m = (if (fun _ : Nat => true) a.block then cap else len) := hmm
  simp only [Rows.laid_duet_types_sorts, Prod.mk.injEq, DataW.slice.injEq] at he
  obtain ⟨⟨he1, -⟩, -⟩ := he
  have hlen : len = 4 := by
   have := congrArg List.length he1
   simpa using this.symm
  subst hlen
  have each : ∀ i s, ([[], [105, 110, 116], [98, 111, 111, 108], [116, 101, 120, 116]] : List Str)[i]? = some s → (Sx i).data.toList = s := by
   intro i s hi
   have hi4 : i < 4 := (List.getElem?_eq_some_iff.1 hi).1
   match i, hi, hi4 with
   | 0, hi, _ | 1, hi, _ | 2, hi, _ | 3, hi, _ =>
    simp only [List.range, List.range.loop, List.map, List.cons.injEq, DataW.lit.injEq, Lit.string.injEq] at he1
    obtain ⟨k0, k1, k2, k3, -⟩ := he1
    simp at hi
    subst hi
    first | exact k0.symm | exact k1.symm | exact k2.symm | exact k3.symm
  have h4m : 4 ≤ m := by rw [hmc]; simpa using hl
  obtain ⟨b, off, spot⟩ := a
  have hspot : spot = none := by simpa [Addr.add] using World.cell?_spot (hx 0 (by omega)).1
  subst hspot
  refine ⟨b, off, cap, h0, hl, fun i s hi => ?_⟩
  have hi4 : i < 4 := (List.getElem?_eq_some_iff.1 hi).1
  have h1 := (hx i (by omega)).1
  rw [Go.WideShapes.add_plain] at h1
  rw [h1, ← each i s hi, mk_data]

set_option maxRecDepth 100000 in
theorem contract (H : Type) (enc : TypeId × Value → H) (W : World) (base : Nat) (args : Array Value) (ds gs : List (DataW H)) (before : List MemPlace)
  (hval : ∀ (j : Nat) t v, Tryz.f3.params[j]? = some t → args[j]? = some v → Value.okWide Tryz.prog W .any base t v)
  (hW : DataW.Whole enc Tryz.prog Tryz.f3.params.toList Rows.wiresSaysSpec.vars false W args.toList ds gs before) (hL : laidMetH Tryz.prog Rows.wiresSaysUptoRow.laid W) (hk : ∀ k, (Rows.OpenSpec.upto Rows.wiresSaysSpec).cond = some k → k H (ds ++ gs) = true) :
  Calls Tryz.prog 3 args W fun e W' => ∃ v, e = .returned v ∧ Rows.wiresSaysSpec.post enc Tryz.prog Tryz.f3 false true false false W args v W' := by
 have hL' : laidMet Tryz.prog Rows.wiresSaysUptoRow.laid W := (MakeChecks.laidMetH_plain _ _ _ (by kernel_rfl)) ▸ hL
 have hS : Sorts W := sorts_of hL' (by simp [Rows.wiresSaysUptoRow])
 have hT : Tabs W := tabs_of hL' (by simp [Rows.wiresSaysUptoRow, Rows.laid_unicode_utf8_first]) (by simp [Rows.wiresSaysUptoRow]; first | rfl | exact Or.inl rfl)
 have hW' := hW
 obtain ⟨p, q, hA0, hV, rfl, hfz, hnd⟩ := hW'
 have hA : DataW.TrodAll enc Tryz.prog W 0 (fun _ => true) true Tryz.f3.params.toList args.toList ds p := hA0
 rw [Tryz.params3] at hA hval
 obtain ⟨v0, vs0, d0, ds0, p0, q0, hargs, rfl, rfl, h0, r0⟩ := trodAll_cons hA
 obtain ⟨v1, vs1, d1, ds1, p1, q1, hargs1, rfl, rfl, h1, r1⟩ := trodAll_cons r0
 obtain ⟨rfl, rfl, rfl⟩ := trodAll_nil r1
 subst hargs1
 obtain rfl : args = #[v0, v1] := by cases args; simp_all
 obtain ⟨x, rfl, rfl, rfl, -⟩ := Go.ChangeMaps.open_string (Tryz.underlying9) (hval 1 9 v1 rfl rfl) h1
 have hbulk : Rows.uptoBulkAll [d0, .lit (.string x.data.toList)] ≤ 1048576 := by
  have := hk _ rfl
  simp only [Rows.uptoSmall, decide_eq_true_eq] at this
  refine Nat.le_trans ?_ this
  simp only [List.cons_append, List.nil_append, Rows.uptoBulkAll]
  omega
 simp only [Rows.uptoBulkAll, Rows.uptoBulk] at hbulk
 obtain ⟨es, he, hel, hef⟩ := open_evs (hval 0 22 v0 rfl rfl) h0 (by omega)
 have hx : (Value.string x) = .string ⟨x.data.toList.toArray⟩ := by rw [mk_data]
 rw [hx]
 refine law_post laidOut (by kernel_rfl) rfl rfl Tryz.underlying4 hW rfl ?_
 exact wiresSays_any es x.data.toList v0 W he hef hel (by omega) hT hS

noncomputable def laidWorld (os : Os) : World :=
 let N := (World.settled Tryz.prog os).heap.size
 let w0 := World.holding Tryz.prog os ⟨#[.cells #[.string ⟨#[]⟩, .string ⟨#[105, 110, 116]⟩, .string ⟨#[98, 111, 111, 108]⟩, .string ⟨#[116, 101, 120, 116]⟩] 9], #[], []⟩
 let put (h : Array Obj) (g : Nat) (cs : Array Value) : Array Obj := h.modify g fun
  | .cells _ t frozen => .cells cs t frozen
  | o => o
 let h1 := put w0.heap 3 ((List.range 256).map fun c => Value.int .u8 (firstT c)).toArray
 let h2 := put h1 4 ((List.range 16).flatMap fun i => [Value.int .u8 (accLo i), Value.int .u8 (accHi i)]).toArray
 let h3 := put h2 2 #[.slice (some ⟨N, 0, none⟩) 4 4]
 { w0 with heap := h3 }

theorem laid_met (os : Os) : laidMet Tryz.prog Rows.wiresSaysUptoRow.laid ((laidWorld os).forCall (fun _ _ => 0) ⟨#[], #[.slice none 0 0, .string ⟨#[]⟩], []⟩).memory :=
 laidMet_of_run' 8 (by kernel_rfl) (by kernel_rfl)
theorem reads (os : Os) {H : Type} (enc : TypeId × Value → H) : ∃ places, DataW.whole enc Tryz.prog ((laidWorld os).forCall (fun _ _ => 0) ⟨#[], #[.slice none 0 0, .string ⟨#[]⟩], []⟩).memory Tryz.f3.params.toList Rows.wiresSaysSpec.vars false #[.slice none 0 0, .string ⟨#[]⟩].toList 8 = some ([.nil, .lit (.string [])], [], places) :=
 ⟨[], by kernel_rfl⟩

set_option maxRecDepth 100000 in
theorem lifted (os : Os) (started : os.Started) (H : Type) (enc : TypeId × Value → H) (F : Stop.Interp) :
  ReturnsInHanded {} Tryz.checked os 3 .any ((Rows.OpenSpec.upto Rows.wiresSaysSpec).preRow enc Tryz.prog Tryz.f3 Rows.wiresSaysUptoRow.domain false Rows.wiresSaysUptoRow.laid) (((Rows.OpenSpec.upto Rows.wiresSaysSpec).at F).post enc Tryz.prog Tryz.f3 false true false false) := by
 obtain ⟨places, hx⟩ := reads os enc
 refine returnsInHanded_of_row (C := Tryz.checked) (s := Rows.OpenSpec.upto Rows.wiresSaysSpec) own started (by kernel_rfl) Tryz.func3
  (witness_row_atRef (enc := enc) (C := Tryz.checked) false (laidWorld os) #[.slice none 0 0, .string ⟨#[]⟩] rfl (by kernel_rfl) (by kernel_rfl) (by kernel_rfl)
   (OpenSpec.preRow_of_cond 8 hx (by kernel_rfl) (fun k hk => by cases hk; simp [Rows.uptoSmall, Rows.uptoBulkAll, Rows.uptoBulk]) (by kernel_rfl) (laid_met os))) ?_
 intro W base args ds gs before hval hW _ hk _ hL _ _
 exact contract H enc W base args ds gs before hval hW hL hk

theorem fact_name : Tryz.pinned.checked.prog.funcNamed "duet/duetlaw.WiresSays" = some 3 := by kernel_rfl
theorem fact_joined : joinedFacts Tryz.pinned.checked.prog 3 Tryz.f3 (Rows.OpenSpec.upto Rows.wiresSaysSpec).bare Rows.wiresSaysUptoRow = true := by kernel_rfl
theorem fact_instance : Tryz.f3.isInstance Tryz.pinned.checked.prog Rows.wiresSaysUptoRow.origin Rows.wiresSaysUptoRow.targs := of_decide_eq_true (by kernel_rfl)
theorem fact_wrapper : Tryz.f3.isWrapper Tryz.pinned.checked.prog Rows.wiresSaysUptoRow.wrapper Rows.wiresSaysUptoRow.mainSum := by unfold Func.isWrapper; first | (rw [if_pos (by decide +kernel)]; kernel_rfl) | (rw [if_neg (by decide +kernel)]; exact ⟨rfl, rfl⟩)
theorem said : Rows.WiresSaysUptoSaid :=
 OpenClaim.holds_of_cond 3 Tryz.f3 rfl rfl rfl rfl rfl rfl rfl ⟨rfl, rfl, rfl, rfl, rfl⟩ rfl rfl rfl rfl rfl fact_name Tryz.func3 fact_joined
  fact_instance fact_wrapper
  (fun os started H enc _ F => by rw [OpenClaim.pre_eq_preRow]; exact lifted os started H enc F)

theorem plain (f : FuncId) (fn : Func) (hf : Tryz.pinned.checked.prog.funcNamed "duet/duetlaw.WiresSays" = some f) (hfn : Tryz.pinned.checked.prog.funcs[f]? = some fn) :
  true = Tryz.pinned.checked.prog.looks [] ∧ ∀ (j : Nat) t, fn.params[j]? = some t → Tryz.pinned.checked.prog.wantsStandIn t = false := by
 obtain rfl : f = 3 := Option.some.inj ((show Tryz.prog.funcNamed "duet/duetlaw.WiresSays" = some 3 by kernel_rfl).symm.trans hf) |>.symm
 obtain rfl : fn = Tryz.f3 := (Option.some.inj (Tryz.func3.symm.trans hfn)).symm
 refine ⟨by kernel_rfl, fun j t ht => ?_⟩
 rw [Tryz.params3] at ht
 have hm : t = 22 ∨ t = 9 := by simpa using Array.mem_of_getElem? ht
 rcases hm with rfl | rfl
 ·exact (show Tryz.prog.wantsStandIn 22 = false by kernel_rfl)
 ·exact (show Tryz.prog.wantsStandIn 9 = false by kernel_rfl)

theorem card : Rows.WiresSaysUptoCardSaid :=
 Claim7.holds_tied_plain_at .later [] _ _ _ _ said (fun _ h => by cases h) (by kernel_rfl) (fun _ h => by cases h) wiresSaysUpto_row_tie rfl ⟨rfl, rfl⟩ (by kernel_rfl) rfl plain (by kernel_rfl)
#print axioms card
end Go.Proofs.YtpidjanngbaiiaaGreatDoor.wiresSays
