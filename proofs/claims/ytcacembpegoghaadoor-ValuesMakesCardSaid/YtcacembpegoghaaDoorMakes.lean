/-
  For every two values handed in, duetlaw.ValuesMakes returns true, and what was handed in reads as before: values.Order, Length, Joined and Turned answer what the reference answers. Conditions: none on the arguments; the two package-level tables of unicode/utf8 that the row lists hold what the row lists, which the card ties to the program's text.
-/
import Derived.Test.YtcacembpegoghaaDoorCards
import Derived.Test.YtcacembpegoghaaDoorTie
import Derived.Test.YtcacembpegoghaaDoorVal14
import Derived.Test.YtcacembpegoghaaDoorOpenV
namespace Go.Proofs.YtcacembpegoghaaDoor.makes
open Go.ChangeShapes Go.WideShapes Go.ChangeAt Go.RowKit Go.Joins Go.Lib

theorem makes_any (s n s' n' : Int) (t t' : List UInt8) (w : World) (hs : t.length ≤ 9223372036854775807) (hs' : t'.length ≤ 9223372036854775807) (hT : Tabs w) :
    Calls Tryd.prog 3 #[mkV s n t, mkV s' n' t'] w fun e w' => e = .returned (.bool true) ∧ Below w.heap.size w w' := by
  by_cases h1 : chk s n t = 0
  · by_cases h3 : s = 3
    · subst h3
      have hn : n = 0 := (chkT_zero (s := 3) (n := n) (t := t) (by simp [chkT, h1])).2.1
      subst hn
      by_cases h2 : chk s' n' t' = 0
      · by_cases h4 : s' = 3
        · subst h4
          have hn : n' = 0 := (chkT_zero (s := 3) (n := n') (t := t') (by simp [chkT, h2])).2.1
          subst hn
          exact makes_3c t t' w hT h1 h2
        · exact makes_3b s' n' t t' w hs' hT h1 h2 h4
      · exact makes_3a s' n' t t' w hs' hT h1 h2
    · by_cases h2 : chk s' n' t' = 0
      · exact makes_2b s n s' n' t t' w hs hs' hT h1 h3 h2
      · exact makes_2a s n s' n' t t' w hs hs' hT h1 h3 h2
  · exact makes_1 s n s' n' t t' w hs hs' hT h1

set_option maxRecDepth 100000 in
theorem contract (H : Type) (enc : TypeId × Value → H) (W : World) (base : Nat) (args : Array Value) (ds gs : List (DataW H)) (before : List MemPlace)
    (hval : ∀ (j : Nat) t v, Tryd.f3.params[j]? = some t → args[j]? = some v → Value.okWide Tryd.prog W .any base t v)
    (hW : DataW.Whole enc Tryd.prog Tryd.f3.params.toList Rows.valuesMakesSpec.vars false W args.toList ds gs before) (hL : laidMetH Tryd.prog Rows.valuesMakesRow.laid W) :
    Calls Tryd.prog 3 args W fun e W' => ∃ v, e = .returned v ∧ Rows.valuesMakesSpec.post enc Tryd.prog Tryd.f3 false true false false W args v W' := by
  have hL' : laidMet Tryd.prog Rows.valuesMakesRow.laid W := (MakeChecks.laidMetH_plain _ _ _ (by kernel_rfl)) ▸ hL
  have hT : Tabs W := tabs_of hL' (by simp [Rows.valuesMakesRow, Rows.laid_unicode_utf8_first]) (by
    have : (Rows.laid_unicode_utf8_acceptRanges : DataW Unit) = acceptData := by kernel_rfl
    rw [← this]; simp [Rows.valuesMakesRow])
  have hW' := hW
  obtain ⟨p, q, hA0, hV, rfl, hfz, hnd⟩ := hW'
  have hA : DataW.TrodAll enc Tryd.prog W 0 (fun _ => true) true Tryd.f3.params.toList args.toList ds p := hA0
  rw [Tryd.params3] at hA hval
  obtain ⟨v0, vs0, d0, ds0, p0, q0, hargs, rfl, rfl, h0, r0⟩ := trodAll_cons hA
  obtain ⟨v1, vs1, d1, ds1, p1, q1, rfl, rfl, rfl, h1, r1⟩ := trodAll_cons r0
  obtain ⟨rfl, rfl, rfl⟩ := trodAll_nil r1
  obtain rfl : args = #[v0, v1] := by cases args; simp_all
  obtain ⟨s, n, t, rfl, ht⟩ := open_value (hval 0 23 v0 rfl rfl) h0
  obtain ⟨s', n', t', rfl, ht'⟩ := open_value (hval 1 23 v1 rfl rfl) h1
  unfold maxLen at ht ht'
  exact law_post laidOut (by kernel_rfl) rfl rfl Tryd.underlying4 hW rfl (makes_any s n s' n' t t' W ht ht' hT)

theorem laid_met (os : Os) : laidMet Tryd.prog Rows.valuesMakesRow.laid ((tabWorld os).forCall (fun _ _ => 0) ⟨#[], #[mkV 1 0 [], mkV 1 0 []], []⟩).memory :=
  laidMet_of_run' 8 (by kernel_rfl) (by kernel_rfl)
theorem reads (os : Os) {H : Type} (enc : TypeId × Value → H) : ∃ ds places, DataW.whole enc Tryd.prog ((tabWorld os).forCall (fun _ _ => 0) ⟨#[], #[mkV 1 0 [], mkV 1 0 []], []⟩).memory Tryd.f3.params.toList Rows.valuesMakesSpec.vars false #[mkV 1 0 [], mkV 1 0 []].toList 8 = some (ds, [], places) :=
  ⟨[.agg [.lit (.int .i64 1), .lit (.int .i64 0), .lit (.string [])], .agg [.lit (.int .i64 1), .lit (.int .i64 0), .lit (.string [])]], [], by kernel_rfl⟩

set_option maxRecDepth 100000 in
theorem lifted (os : Os) (started : os.Started) (H : Type) (enc : TypeId × Value → H) (F : Stop.Interp) :
    ReturnsInHanded {} Tryd.checked os 3 .any ((OpenSpec.ofChange Rows.valuesMakesSpec).preRow enc Tryd.prog Tryd.f3 Rows.valuesMakesRow.domain false Rows.valuesMakesRow.laid) (((OpenSpec.ofChange Rows.valuesMakesSpec).at F).post enc Tryd.prog Tryd.f3 false true false false) := by
  obtain ⟨ds, places, hx⟩ := reads os enc
  refine returnsInHanded_of_row (C := Tryd.checked) (s := OpenSpec.ofChange Rows.valuesMakesSpec) own started (by kernel_rfl) Tryd.func3
    (witness_row_at (enc := enc) (C := Tryd.checked) false (tabWorld os) #[mkV 1 0 [], mkV 1 0 []] rfl (by kernel_rfl) (by kernel_rfl) (by kernel_rfl)
      (OpenSpec.preRow_of_cond 8 hx (by kernel_rfl) (fun k hk => by cases hk) (by kernel_rfl) (laid_met os))) ?_
  intro W base args ds gs before hval hW _ _ _ hL _ _
  exact contract H enc W base args ds gs before hval hW hL

theorem said : Rows.ValuesMakesSaid :=
  OpenClaim.holds_of_cond 3 Tryd.f3 rfl rfl rfl rfl rfl rfl rfl ⟨rfl, rfl, rfl, rfl, rfl⟩ rfl rfl rfl rfl rfl (by kernel_rfl) Tryd.func3 (by kernel_rfl)
    (of_decide_eq_true (by kernel_rfl)) (by unfold Func.isWrapper; first | (rw [if_pos (by decide +kernel)]; kernel_rfl) | (rw [if_neg (by decide +kernel)]; exact ⟨rfl, rfl⟩))
    (fun os started H enc _ F => by rw [OpenClaim.pre_eq_preRow]; exact lifted os started H enc F)

/-- No parameter wants a stand-in; the program's looks are as the card has them. -/
theorem plain (f : FuncId) (fn : Func) (hf : Tryd.pinned.checked.prog.funcNamed "duet/duetlaw.ValuesMakes" = some f) (hfn : Tryd.pinned.checked.prog.funcs[f]? = some fn) :
    true = Tryd.pinned.checked.prog.looks [] ∧ ∀ (j : Nat) t, fn.params[j]? = some t → Tryd.pinned.checked.prog.wantsStandIn t = false := by
  obtain rfl : f = 3 := Option.some.inj ((show Tryd.prog.funcNamed "duet/duetlaw.ValuesMakes" = some 3 by kernel_rfl).symm.trans hf) |>.symm
  obtain rfl : fn = Tryd.f3 := (Option.some.inj (Tryd.func3.symm.trans hfn)).symm
  refine ⟨by kernel_rfl, fun j t ht => ?_⟩
  rw [Tryd.params3] at ht
  obtain rfl : t = 23 := by simpa using Array.mem_of_getElem? ht
  exact (show Tryd.prog.wantsStandIn 23 = false by kernel_rfl)

/-- THE CARD. -/
theorem card : Rows.ValuesMakesCardSaid :=
  Claim7.holds_tied_plain_at .later [] _ _ _ _ said (fun _ h => by cases h) (by kernel_rfl) (fun _ h => by cases h) valuesMakes_row_tie rfl ⟨rfl, rfl⟩ (by kernel_rfl) rfl plain (by kernel_rfl)
#print axioms card
end Go.Proofs.YtcacembpegoghaaDoor.makes
