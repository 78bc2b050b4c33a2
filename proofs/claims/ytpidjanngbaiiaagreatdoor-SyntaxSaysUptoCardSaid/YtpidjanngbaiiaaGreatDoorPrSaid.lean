/-
  For every program handed in, of bulk at most 1048576, duetlaw.SyntaxSays returns true, and what was handed in reads as before: syntax.Shape and Write answer what the reference answers. Conditions: the bulk of what is handed in; the package-level tables that the row lists hold what the row lists, which the card ties to the program's text.
-/
import Derived.Test.YtpidjanngbaiiaaGreatDoorCards
import Derived.Test.YtpidjanngbaiiaaGreatDoorTie
import Derived.Test.YtpidjanngbaiiaaGreatDoorM25
import Derived.Test.YtpidjanngbaiiaaGreatDoorM3
import Derived.MakeChecks
import Derived.ChangeMaps5
import Derived.Deep.DeepWitnessRowRef
import Derived.Lib.LaidIn
namespace Go.Proofs.YtpidjanngbaiiaaGreatDoor.syntaxSays
open Go.ChangeShapes Go.WideShapes Go.ChangeAt Go.RowKit Go.Joins Go.Lib Go.Deep
set_option maxRecDepth 100000
set_option maxHeartbeats 32000000

theorem pow_of {laid : List (String × DataW Unit)} {W : World} (h : laidMet Tryz.prog laid W) (hm : ("internal/strconv.uint64pow10", (Rows.laid_internal_strconv_uint64pow10 : DataW Unit)) ∈ laid) : ql W := by
 have e : (Rows.laid_internal_strconv_uint64pow10 : DataW Unit) = Lib.tabData .u64 Lib.pow10Tab:=by kernel_rfl
 rw [e] at hm
 obtain ⟨g,t,cs,fuel,p,hg,hty,hvar,hd⟩:=laidMet.reads h hm
 obtain rfl : g = 8:=Option.some.inj (hg.symm.trans (by kernel_rfl))
 obtain rfl : t = 248:=Option.some.inj (hty.symm.trans (by kernel_rfl))
 show Lib.TabIs _ _ _ _ _
 unfold Lib.TabIs
 rw [hvar,← Lib.cells_of_tab Tryz.underlying248 Tryz.underlying64 (by kernel_rfl) (by kernel_rfl) hd]

theorem sorts_of {laid : List (String × DataW Unit)} {W : World} (h : laidMet Tryz.prog laid W) (hm : ("duet/types.sorts", (Rows.laid_duet_types_sorts : DataW Unit)) ∈ laid) : oN W := by
 obtain ⟨g,t,cs,fuel,p,hg,hty,hvar,hd⟩:=laidMet.reads h hm
 obtain rfl : g = 2:=Option.some.inj (hg.symm.trans (by kernel_rfl))
 obtain rfl : t = 27:=Option.some.inj (hty.symm.trans (by kernel_rfl))
 rcases open_strs Tryz.underlying27 Tryz.underlying9 qH hd with ⟨_,e⟩ | ⟨a,len,cap,m,Sx,hcs,-,hl,hm2,hmm,he,hx⟩
 ·simp [Rows.laid_duet_types_sorts] at e
 ·have h0:=World.var?_cell hg hvar 0
  rw [← Array.getElem?_toList,hcs] at h0
  have hmc : m = (if (fun _ : Nat => true) a.block then cap else len):=hmm
  simp only [Rows.laid_duet_types_sorts,Prod.mk.injEq,DataW.slice.injEq] at he
  obtain ⟨⟨he1,-⟩,-⟩:=he
  have hlen : len = 4:=by
   have:=congrArg List.length he1
   simpa using this.symm
  subst hlen
  have each : ∀ i s,([[],[105,110,116],[98,111,111,108],[116,101,120,116]] : List Str)[i]? = some s → (Sx i).data.toList = s:=by
   intro i s hi
   have hi4 : i < 4:=(List.getElem?_eq_some_iff.1 hi).1
   have h1 : (([[],[105,110,116],[98,111,111,108],[116,101,120,116]] : List Str).map fun s => (DataW.lit (.string s) : DataW Unit))[i]? = some (.lit (.string s)):=by rw [List.getElem?_map,hi]; rfl
   have h2 : (([[],[105,110,116],[98,111,111,108],[116,101,120,116]] : List Str).map fun s => (DataW.lit (.string s) : DataW Unit)) = (List.range 4).map _:=he1
   rw [h2,List.getElem?_map,List.getElem?_range hi4] at h1
   simpa using h1
  have UF : 4 ≤ m:=by rw [hmc]; simpa using hl
  obtain ⟨b,off,spot⟩:=a
  have hspot : spot = none:=by simpa [Addr.add] using World.cell?_spot (hx 0 (by omega)).1
  subst hspot
  refine ⟨b,off,cap,h0,hl,fun i s hi => ?_⟩
  have hi4 : i < 4:=(List.getElem?_eq_some_iff.1 hi).1
  have h1:=(hx i (by omega)).1
  rw [Go.WideShapes.add_plain] at h1
  rw [h1,← each i s hi,mk_data]
theorem psorts_of {laid : List (String × DataW Unit)} {W : World} (h : laidMet Tryz.prog laid W) (hm : ("duet/syntax.sorts", (Rows.laid_duet_syntax_sorts : DataW Unit)) ∈ laid) : xh W := by
 obtain ⟨g,t,cs,fuel,p,hg,hty,hvar,hd⟩:=laidMet.reads h hm
 obtain rfl : g = 0:=Option.some.inj (hg.symm.trans (by kernel_rfl))
 obtain rfl : t = 27:=Option.some.inj (hty.symm.trans (by kernel_rfl))
 rcases open_strs Tryz.underlying27 Tryz.underlying9 qH hd with ⟨_,e⟩ | ⟨a,len,cap,m,Sx,hcs,-,hl,hm2,hmm,he,hx⟩
 ·simp [Rows.laid_duet_syntax_sorts] at e
 ·have h0:=World.var?_cell hg hvar 0
  rw [← Array.getElem?_toList,hcs] at h0
  have hmc : m = (if (fun _ : Nat => true) a.block then cap else len):=hmm
  simp only [Rows.laid_duet_syntax_sorts,Prod.mk.injEq,DataW.slice.injEq] at he
  obtain ⟨⟨he1,-⟩,-⟩:=he
  have hlen : len = 4:=by
   have:=congrArg List.length he1
   simpa using this.symm
  subst hlen
  have each : ∀ i s,([[],[105,110,116],[98,111,111,108],[116,101,120,116]] : List Str)[i]? = some s → (Sx i).data.toList = s:=by
   intro i s hi
   have hi4 : i < 4:=(List.getElem?_eq_some_iff.1 hi).1
   have h1 : (([[],[105,110,116],[98,111,111,108],[116,101,120,116]] : List Str).map fun s => (DataW.lit (.string s) : DataW Unit))[i]? = some (.lit (.string s)):=by rw [List.getElem?_map,hi]; rfl
   have h2 : (([[],[105,110,116],[98,111,111,108],[116,101,120,116]] : List Str).map fun s => (DataW.lit (.string s) : DataW Unit)) = (List.range 4).map _:=he1
   rw [h2,List.getElem?_map,List.getElem?_range hi4] at h1
   simpa using h1
  have UF : 4 ≤ m:=by rw [hmc]; simpa using hl
  obtain ⟨b,off,spot⟩:=a
  have hspot : spot = none:=by simpa [Addr.add] using World.cell?_spot (hx 0 (by omega)).1
  subst hspot
  refine ⟨b,off,cap,h0,hl,fun i s hi => ?_⟩
  have hi4 : i < 4:=(List.getElem?_eq_some_iff.1 hi).1
  have h1:=(hx i (by omega)).1
  rw [Go.WideShapes.add_plain] at h1
  rw [h1,← each i s hi,mk_data]
theorem pwords_of {laid : List (String × DataW Unit)} {W : World} (h : laidMet Tryz.prog laid W) (hm : ("duet/syntax.words", (Rows.laid_duet_syntax_words : DataW Unit)) ∈ laid) : rW W := by
 obtain ⟨g,t,cs,fuel,p,hg,hty,hvar,hd⟩:=laidMet.reads h hm
 obtain rfl : g = 1:=Option.some.inj (hg.symm.trans (by kernel_rfl))
 obtain rfl : t = 27:=Option.some.inj (hty.symm.trans (by kernel_rfl))
 rcases open_strs Tryz.underlying27 Tryz.underlying9 qH hd with ⟨_,e⟩ | ⟨a,len,cap,m,Sx,hcs,-,hl,hm2,hmm,he,hx⟩
 ·simp [Rows.laid_duet_syntax_words] at e
 ·have h0:=World.var?_cell hg hvar 0
  rw [← Array.getElem?_toList,hcs] at h0
  have hmc : m = (if (fun _ : Nat => true) a.block then cap else len):=hmm
  simp only [Rows.laid_duet_syntax_words,Prod.mk.injEq,DataW.slice.injEq] at he
  obtain ⟨⟨he1,-⟩,-⟩:=he
  have hlen : len = 14:=by
   have:=congrArg List.length he1
   simpa using this.symm
  subst hlen
  have each : ∀ i s,([[100,101,102],[115,116,111,112],[115,101,110,100],[114,101,99,118],[103,105,118,101],[116,97,107,101],[112,105,99,107],[99,97,115,101],[101,110,100],[115,112,97,119,110],[105,102],[101,108,115,101],[108,101,116],[112,114,105,110,116]] : List Str)[i]? = some s → (Sx i).data.toList = s:=by
   intro i s hi
   have hi4 : i < 14:=(List.getElem?_eq_some_iff.1 hi).1
   have h1 : (([[100,101,102],[115,116,111,112],[115,101,110,100],[114,101,99,118],[103,105,118,101],[116,97,107,101],[112,105,99,107],[99,97,115,101],[101,110,100],[115,112,97,119,110],[105,102],[101,108,115,101],[108,101,116],[112,114,105,110,116]] : List Str).map fun s => (DataW.lit (.string s) : DataW Unit))[i]? = some (.lit (.string s)):=by rw [List.getElem?_map,hi]; rfl
   have h2 : (([[100,101,102],[115,116,111,112],[115,101,110,100],[114,101,99,118],[103,105,118,101],[116,97,107,101],[112,105,99,107],[99,97,115,101],[101,110,100],[115,112,97,119,110],[105,102],[101,108,115,101],[108,101,116],[112,114,105,110,116]] : List Str).map fun s => (DataW.lit (.string s) : DataW Unit)) = (List.range 14).map _:=he1
   rw [h2,List.getElem?_map,List.getElem?_range hi4] at h1
   simpa using h1
  have UF : 14 ≤ m:=by rw [hmc]; simpa using hl
  obtain ⟨b,off,spot⟩:=a
  have hspot : spot = none:=by simpa [Addr.add] using World.cell?_spot (hx 0 (by omega)).1
  subst hspot
  refine ⟨b,off,cap,h0,hl,fun i s hi => ?_⟩
  have hi4 : i < 14:=(List.getElem?_eq_some_iff.1 hi).1
  have h1:=(hx i (by omega)).1
  rw [Go.WideShapes.add_plain] at h1
  rw [h1,← each i s hi,mk_data]

theorem contract (H : Type) (enc : TypeId × Value → H) (W : World) (base : Nat) (args : Array Value) (ds gs : List (DataW H)) (before : List MemPlace)
  (hval : ∀ (j : Nat) t v,Tryz.f4.params[j]? = some t → args[j]? = some v → Value.okWide Tryz.prog W .any base t v)
  (hW : DataW.Whole enc Tryz.prog Tryz.f4.params.toList Rows.syntaxSaysSpec.vars false W args.toList ds gs before) (hL : laidMetH Tryz.prog Rows.syntaxSaysUptoRow.laid W) (hk : ∀ k,(Rows.OpenSpec.upto Rows.syntaxSaysSpec).cond = some k → k H (ds ++ gs) = true) :
  Calls Tryz.prog 4 args W fun e W' => ∃ v,e = .returned v ∧ Rows.syntaxSaysSpec.post enc Tryz.prog Tryz.f4 false true false false W args v W':=by
 have hL' : laidMet Tryz.prog Rows.syntaxSaysUptoRow.laid W:=(MakeChecks.laidMetH_plain _ _ _ (by kernel_rfl)) ▸ hL
 have hS : oN W:=sorts_of hL' (by simp [Rows.syntaxSaysUptoRow])
 have DV : xh W:=psorts_of hL' (by simp [Rows.syntaxSaysUptoRow])
 have hWd : rW W:=pwords_of hL' (by simp [Rows.syntaxSaysUptoRow])
 have hP : ql W:=pow_of hL' (by simp [Rows.syntaxSaysUptoRow])
 have hT : Tabs W:=tabs_of hL' (by simp [Rows.syntaxSaysUptoRow,Rows.laid_unicode_utf8_first]) (by simp [Rows.syntaxSaysUptoRow]; first | rfl | exact Or.inl rfl | exact Or.inr rfl | (right; left; rfl) | (right; right; left; rfl) | (right; right; right; left; rfl) | (right; right; right; right; left; rfl) | (right; right; right; right; right; left; rfl) | (right; right; right; right; right; right; left; rfl) | (right; right; right; right; right; right; right; left; rfl) | (right; right; rfl) | (right; right; right; rfl) | (right; right; right; right; rfl) | (right; right; right; right; right; rfl) | (right; right; right; right; right; right; rfl) | (right; right; right; right; right; right; right; rfl))
 have hW':=hW
 obtain ⟨p,q,hA0,hV,rfl,hfz,hnd⟩:=hW'
 have hA : DataW.TrodAll enc Tryz.prog W 0 (fun _ => true) true Tryz.f4.params.toList args.toList ds p:=hA0
 rw [Tryz.params4] at hA hval
 obtain ⟨v0,vs0,d0,ds0,p0,q0,hargs,rfl,rfl,h0,r0⟩:=trodAll_cons hA
 obtain ⟨rfl,rfl,rfl⟩:=trodAll_nil r0
 obtain rfl : args = #[v0]:=by cases args; simp_all
 have hbulk : Rows.uptoBulkAll [d0] ≤ 1048576:=by
  have:=hk _ rfl
  simp only [Rows.uptoSmall,decide_eq_true_eq] at this
  refine Nat.le_trans ?_ this
  simp only [List.cons_append,List.nil_append,Rows.uptoBulkAll]
  omega
 simp only [Rows.uptoBulkAll] at hbulk
 obtain ⟨l,u,rfl,hl,hll,hlf⟩:=open_prog (hval 0 45 v0 rfl rfl) h0
 refine law_post laidOut (by kernel_rfl) rfl rfl Tryz.underlying4 hW rfl ?_
 exact syntaxSays_any l u W hl (fun d hd => (hlf d hd).mono (by omega)) (by omega) hT hWd hP hS DV

def numCells : DataW Unit → List Value
 | .agg l => l.map fun | .lit (.int k n) => .int k n | _ => .nilIface
 | _ => []
noncomputable def laidWorld (os : Os) : World :=
 let N:=(World.settled Tryz.prog os).heap.size
 let w0:=World.holding Tryz.prog os ⟨#[.cells #[.string ⟨#[]⟩,.string ⟨#[105,110,116]⟩,.string ⟨#[98,111,111,108]⟩,.string ⟨#[116,101,120,116]⟩] 9,.cells #[.string ⟨#[]⟩,.string ⟨#[105,110,116]⟩,.string ⟨#[98,111,111,108]⟩,.string ⟨#[116,101,120,116]⟩] 9,.cells #[.string ⟨#[100,101,102]⟩,.string ⟨#[115,116,111,112]⟩,.string ⟨#[115,101,110,100]⟩,.string ⟨#[114,101,99,118]⟩,.string ⟨#[103,105,118,101]⟩,.string ⟨#[116,97,107,101]⟩,.string ⟨#[112,105,99,107]⟩,.string ⟨#[99,97,115,101]⟩,.string ⟨#[101,110,100]⟩,.string ⟨#[115,112,97,119,110]⟩,.string ⟨#[105,102]⟩,.string ⟨#[101,108,115,101]⟩,.string ⟨#[108,101,116]⟩,.string ⟨#[112,114,105,110,116]⟩] 9],#[],[]⟩
 let put (h : Array Obj) (g : Nat) (cs : Array Value) : Array Obj:=h.modify g fun
  | .cells _ t frozen => .cells cs t frozen
  | o => o
 let h1:=put w0.heap 3 ((List.range 256).map fun c => Value.int .u8 (firstT c)).toArray
 let h2:=put h1 4 ((List.range 16).flatMap fun i => [Value.int .u8 (accLo i),Value.int .u8 (accHi i)]).toArray
 let h3:=put h2 8 (numCells Rows.laid_internal_strconv_uint64pow10).toArray
 let h4:=put h3 9 (numCells Rows.laid_math_bits_deBruijn32tab).toArray
 let h5:=put h4 10 (numCells Rows.laid_math_bits_deBruijn64tab).toArray
 let h6:=put h5 2 #[.slice (some ⟨N,0,none⟩) 4 4]
 let h7:=put h6 0 #[.slice (some ⟨N + 1,0,none⟩) 4 4]
 let h8:=put h7 1 #[.slice (some ⟨N + 2,0,none⟩) 14 14]
 { w0 with heap:=h8 }

theorem laid_met (os : Os) : laidMet Tryz.prog Rows.syntaxSaysUptoRow.laid ((laidWorld os).forCall (fun _ _ => 0) ⟨#[],#[.agg #[.slice none 0 0]],[]⟩).memory :=
 laidMet_of_run' 8 (by kernel_rfl) (by kernel_rfl)
theorem reads (os : Os) {H : Type} (enc : TypeId × Value → H) : ∃ places,DataW.whole enc Tryz.prog ((laidWorld os).forCall (fun _ _ => 0) ⟨#[],#[.agg #[.slice none 0 0]],[]⟩).memory Tryz.f4.params.toList Rows.syntaxSaysSpec.vars false #[.agg #[.slice none 0 0]].toList 8 = some ([.agg [.nil]],[],places) :=
 ⟨[],by kernel_rfl⟩

theorem lifted (os : Os) (started : os.Started) (H : Type) (enc : TypeId × Value → H) (F : Stop.Interp) :
  ReturnsInHanded {} Tryz.checked os 4 .any ((Rows.OpenSpec.upto Rows.syntaxSaysSpec).preRow enc Tryz.prog Tryz.f4 Rows.syntaxSaysUptoRow.domain false Rows.syntaxSaysUptoRow.laid) (((Rows.OpenSpec.upto Rows.syntaxSaysSpec).at F).post enc Tryz.prog Tryz.f4 false true false false):=by
 obtain ⟨places,hx⟩:=reads os enc
 refine returnsInHanded_of_row (C:=Tryz.checked) (s:=Rows.OpenSpec.upto Rows.syntaxSaysSpec) own started (by kernel_rfl) Tryz.func4
  (witness_row_atRef (enc:=enc) (C:=Tryz.checked) false (laidWorld os) #[.agg #[.slice none 0 0]] rfl (by kernel_rfl) (by kernel_rfl) (by kernel_rfl)
   (OpenSpec.preRow_of_cond 8 hx (by kernel_rfl) (fun k hk => by cases hk; simp [Rows.uptoSmall,Rows.uptoBulkAll,Rows.uptoBulk]) (by kernel_rfl) (laid_met os))) ?_
 intro W base args ds gs before hval hW _ hk _ hL _ _
 exact contract H enc W base args ds gs before hval hW hL hk

theorem fact_name : Tryz.pinned.checked.prog.funcNamed "duet/duetlaw.SyntaxSays" = some 4 := by kernel_rfl
theorem fact_joined : joinedFacts Tryz.pinned.checked.prog 4 Tryz.f4 (Rows.OpenSpec.upto Rows.syntaxSaysSpec).bare Rows.syntaxSaysUptoRow = true:=by kernel_rfl
theorem fact_instance : Tryz.f4.isInstance Tryz.pinned.checked.prog Rows.syntaxSaysUptoRow.origin Rows.syntaxSaysUptoRow.targs:=of_decide_eq_true (by kernel_rfl)
theorem fact_wrapper : Tryz.f4.isWrapper Tryz.pinned.checked.prog Rows.syntaxSaysUptoRow.wrapper Rows.syntaxSaysUptoRow.mainSum:=by unfold Func.isWrapper; first | (rw [if_pos (by decide +kernel)]; kernel_rfl) | (rw [if_neg (by decide +kernel)]; exact ⟨rfl,rfl⟩)
theorem said : Rows.SyntaxSaysUptoSaid :=
 OpenClaim.holds_of_cond 4 Tryz.f4 rfl rfl rfl rfl rfl rfl rfl ⟨rfl,rfl,rfl,rfl,rfl⟩ rfl rfl rfl rfl rfl fact_name Tryz.func4 fact_joined
  fact_instance fact_wrapper
  (fun os started H enc _ F => by rw [OpenClaim.pre_eq_preRow]; exact lifted os started H enc F)

theorem plain (f : FuncId) (fn : Func) (hf : Tryz.pinned.checked.prog.funcNamed "duet/duetlaw.SyntaxSays" = some f) (hfn : Tryz.pinned.checked.prog.funcs[f]? = some fn) :
  true = Tryz.pinned.checked.prog.looks [] ∧ ∀ (j : Nat) t,fn.params[j]? = some t → Tryz.pinned.checked.prog.wantsStandIn t = false:=by
 obtain rfl : f = 4 := Option.some.inj ((show Tryz.prog.funcNamed "duet/duetlaw.SyntaxSays" = some 4 by kernel_rfl).symm.trans hf) |>.symm
 obtain rfl : fn = Tryz.f4:=(Option.some.inj (Tryz.func4.symm.trans hfn)).symm
 refine ⟨by kernel_rfl,fun j t ht => ?_⟩
 rw [Tryz.params4] at ht
 have hm : t = 45:=by simpa using Array.mem_of_getElem? ht
 subst hm
 exact (show Tryz.prog.wantsStandIn 45 = false by kernel_rfl)

theorem card : Rows.SyntaxSaysUptoCardSaid :=
 Claim7.holds_tied_plain_at .later [] _ _ _ _ said (fun _ h => by cases h) (by kernel_rfl) (fun _ h => by cases h) syntaxSaysUpto_row_tie rfl ⟨rfl,rfl⟩ (by kernel_rfl) rfl plain (by kernel_rfl)
#print axioms card
end Go.Proofs.YtpidjanngbaiiaaGreatDoor.syntaxSays
