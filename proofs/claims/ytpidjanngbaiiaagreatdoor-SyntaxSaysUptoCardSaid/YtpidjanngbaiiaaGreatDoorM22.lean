/-
  BgT VlX ExX PrU0
-/
import Derived.Test.YtpidjanngbaiiaaGreatDoorM21
import Derived.Laws.IdiomStrings
import Derived.Test.YtpidjanngbaiiaaGreatDoorM11
import Derived.Test.YtpidjanngbaiiaaGreatDoorM12
import Derived.Test.YtpidjanngbaiiaaGreatDoorM14
import Derived.Test.YtpidjanngbaiiaaGreatDoorM13
namespace Go.Proofs.YtpidjanngbaiiaaGreatDoor
open Go.RowKit Go.Proofs
set_option maxRecDepth 100000
set_option maxHeartbeats 32000000

structure BL (w : World) (p : Nat) (n : Int) : Prop where
 c0 : w.cell? ⟨p,0,none⟩ = some (.bool (decide (n < 0)))
 ex : ∃ v,w.cell? ⟨p,1,none⟩ = some v ∧ DR All w v (wordsOf n.natAbs)
theorem BL.below {w w' : World} {p : Nat} {n : Int} (h : BL w p n) (hb : Below w.heap.size w w') : BL w' p n:=by
 obtain ⟨v,h1,h2⟩:=h.ex
 exact ⟨ae h.c0 hb,v,ae h1 hb,h2.below hb⟩
theorem Ce {w : World} {base : Nat} {E : TypeId} {v : Value} {l : List UInt8} (h : w.ownsRow base E 1 v l.length (Lib.byteCells l)) (h0 : 1 ≤ l.length) : ∃ g cap,v = .slice (some ⟨g,0,none⟩) l.length cap ∧ base ≤ g ∧ l.length ≤ cap ∧ (∀ i x,l[i]? = some x → w.cell? ⟨g,i,none⟩ = some (.int .u8 (x.toNat : Int))) ∧ (∀ j,w.frozen? ⟨g,j,none⟩ = false):=by
 have hcells:=fun g => h.cells (g:=g)
 rcases h.2 with ⟨rfl,h1⟩ | ⟨g,cap,cur,rfl,hg,hb,hn,_⟩
 ·omega
 ·refine ⟨g,cap,rfl,hg,hn,fun i x hi => ?_,fun j => Lib.frozen_of_heap hb j⟩
  have:=hcells g rfl i (.int .u8 (x.toNat : Int)) (by simp [Lib.byteCells,hi])
  rw [Go.WideShapes.add_plain,Nat.zero_add] at this
  exact this
theorem Dw : oD Tryz.prog 62 5 1 1:=.mk' (z:=.int .u8 0) Tryz.underlying62 (by kernel_rfl) rfl (by decide)
theorem u8_small {r : Nat} (h : r < 10) : ((UInt8.ofNat (48 + r)).toNat : Int) = 48 + (r : Int):=by
 rw [UInt8.toNat_ofNat']
 omega
theorem bigText_any (p : Nat) (n0 : Int) (w : World) (h : BL w p n0) (hn : n0.natAbs < 100000000000000000000) :
  Calls Tryz.prog 157 #[.pointer (some ⟨p,0,none⟩),.int .i64 10] w fun e w' => e = .returned (.string ⟨(Lib.itoa n0).toArray⟩) ∧ Below w.heap.size w w':=by
 obtain ⟨c0,v,c1,hv⟩:=h
 obtain ⟨NG,SK⟩ : ∃ b,decide (n0 < 0) = b:=⟨_,rfl⟩
 rw [SK] at c0
 obtain ⟨N,hN⟩ : ∃ N,n0.natAbs = N:=⟨_,rfl⟩
 rw [hN] at hv hn
 have hlen : (wordsOf N).length ≤ 3:=Bi (by omega)
 obtain ⟨A,cap,rfl,hc,hz,h3⟩:=id hv
 have HV:=zH hv
 clear h3 hv
 by_cases h0 : N = 0
 ·have hn0 : n0 = 0:=by omega
  have hl0 : (wordsOf N).length = 0:=by rw [qY.2 h0]; rfl
  rw [hl0] at c1
  subst hn0
  clear hl0 h0 hN SK hlen hc hz HV
  go_enter Tryz.func157,Tryz.ntmps157
  go_wp2_with fail
  go_ret
  exact ⟨by rw [itoa_zero]; rfl,Below.refl _ _⟩
 ·have hpos : 0 < (wordsOf N).length:=List.length_pos_iff.2 (fun e => h0 (qY.1 e))
  obtain ⟨L,hL⟩ : ∃ L,(wordsOf N).length = L:=⟨_,rfl⟩
  rw [hL] at c1 hpos hlen
  have HL:=zH hL
  have Gn:=zH hN
  have Un:=zH SK
  have H0:=zH h0
  have hdl : (vV N).length ≤ 20:=FB (by omega)
  have Ui:=zH hdl
  rw [hL] at HV
  clear hL hN SK h0 hdl hc hz
  go_enter Tryz.func157,Tryz.ntmps157
  go_wp2_with fail
  refine (btwin_any All _ (wordsOf N) w HV.out (by have:=HL.out; omega)).mono ?_
  rintro e w1 ⟨⟨v1,rfl,hv1⟩,hb1⟩
  have k0:=ae c0 hb1
  have BA : w.heap.size ≤ w1.heap.size:=hb1.size
  go_wp2_with fail
  go_loopg [5,6] N (fun gm bv av wr => ∃ (m : Nat) (dg : List UInt8),m ≤ gm ∧ m ≤ N ∧ Hid (vV N = dg ++ vV m) ∧ wr.ownsRow w1.heap.size 5 1 bv dg.length (Lib.byteCells dg) ∧ DR (fun k => some k ≠ bv.ownBlock) wr av (wordsOf m) ∧ wr.cell? ⟨p,0,none⟩ = some (.bool NG) ∧ Below w.heap.size w wr ∧ w1.heap.size ≤ wr.heap.size)
  case atStart => exact ⟨N,[],Nat.le_refl _,Nat.le_refl _,rfl,World.ownsRow_nil _ _ _ _,hv1.keep (Same.refl _ _) (fun b _ _ => by simp [Value.ownBlock]),k0,hb1,Nat.le_refl _⟩
  case round =>
   clear k0 hv1
   obtain ⟨m,dg,hmg,hmN,hdg,hown,hav,k0,hbw,hsz⟩:=hrel
   have NH:=zH hav
   obtain ⟨A2,c2,rfl,hc2,hz2,-⟩:=hav
   have hdgl : dg.length ≤ 20:=by have:=Ui.out; rw [hdg.out,List.length_append] at this; omega
   by_cases hm : m = 0
   ·have hw0 : (wordsOf m).length = 0:=by rw [qY.2 hm]; rfl
    rw [hw0]
    have Oy : vV N = dg:=by have:=hdg.out; rw [hm] at this; rw [this]; simp [vV]
    have Uh:=zH Oy
    have hdg1 : 1 ≤ dg.length:=by rw [← Oy,show vV N = UInt8.ofNat (48 + N % 10) :: vV (N / 10) by rw [vV,dif_neg H0.out]]; simp
    obtain ⟨A3,c3,rfl⟩:=bg hown
    clear hw0 hdg hm hc2 hz2 NH Oy
    cases NG with
    | false =>
     have uK : Hid (Lib.itoa n0 = dg.reverse):=by
      have h1:=of_decide_eq_false Un.out
      show _ = _
      rw [← Au n0 (by have:=Gn.out; have:=H0.out; omega),if_neg h1,Gn.out,Uh.out]
     have Qc : 1 ≤ dg.length ∧ dg.length ≤ 25:=⟨hdg1,by omega⟩
     have hown':=hown
     obtain ⟨g,cap,hsl,hg0,hcap,hcells,hfz⟩:=Ce hown' Qc.1
     obtain ⟨hA3,hc3⟩ : A3 = some ⟨g,0,none⟩ ∧ c3 = cap:=by injection hsl with e1 _ e3; exact ⟨e1,e3⟩
     subst hA3
     subst hc3
     have hg0 : w.heap.size ≤ g:=Nat.le_trans BA hg0
     have PI:=zH hfz
     have NI:=zH hcells
     clear hown hown' hfz hcells hsl
     obtain ⟨n,hn⟩ : ∃ n,dg.length = n:=⟨_,rfl⟩
     have HN:=zH hn
     rw [hn]
     have OJ : 1 ≤ n ∧ n ≤ 25:=by rw [← hn]; exact Qc
     obtain ⟨hn1,hn2⟩:=OJ
     clear hn
     go_wp2_with fail
     go_loopw [8,9] (fun i j wr => ∃ k : Nat,2 * k ≤ n + 1 ∧ i = .int .i64 k ∧ j = .int .i64 ((n : Int) - 1 - k) ∧ Hid (∀ m : Nat,m < n → wr.cell? ⟨g,m,none⟩ = some (.int .u8 ((if m < k ∨ n ≤ m + k then (dg.getD (n - 1 - m) 0) else dg.getD m 0).toNat : Int))) ∧ Hid (∀ j,wr.frozen? ⟨g,j,none⟩ = false) ∧ Below w.heap.size w wr) (fun _ j _ => ((intOf j) + 1).toNat)
     case atStart =>
      refine ⟨0,by omega,rfl,by first | (simp; done) | (congr 1; have:=HN.out; simp at this; omega),fun m hm => ?_,PI,hbw⟩
      have hm' : m < dg.length:=by have:=HN.out; omega
      rw [if_neg (by omega)]
      have:=NI.out m dg[m] (List.getElem?_eq_getElem hm')
      rw [this]
      rw [List.getD,List.getElem?_eq_getElem hm']
      rfl
     case round =>
      clear PI NI hbw
      obtain ⟨k,hk,rfl,rfl,hcl,hfz,hbw⟩:=hrel
      by_cases hlt : 2 * k + 1 < n
      ·obtain ⟨J,hJ⟩ : ∃ J : Nat,J + k + 1 = n:=⟨n - 1 - k,by omega⟩
       rw [show ((n : Int) - 1 - k) = (J : Int) by omega]
       have TT : (k : Int) < (J : Int):=by omega
       have q0:=hcl.out k (by omega)
       rw [if_neg (by omega)] at q0
       have q1:=hcl.out J (by omega)
       rw [if_neg (by omega)] at q1
       obtain ⟨xk,hxk⟩ : ∃ x,dg.getD k 0 = x:=⟨_,rfl⟩
       obtain ⟨xJ,OU⟩ : ∃ x,dg.getD J 0 = x:=⟨_,rfl⟩
       rw [hxk] at q0
       rw [OU] at q1
       have Sj:=zH hxk
       have TC:=zH OU
       have q2:=hfz.out k
       have q3:=hfz.out J
       have hne : (⟨g,k,none⟩ : Addr) ≠ ⟨g,J,none⟩:=fun e => by injection e with _ e; omega
       have q5 : (wr.setCell ⟨g,k,none⟩ (.int .u8 (xJ.toNat : Int))).cell? ⟨g,J,none⟩ = some (.int .u8 (xJ.toNat : Int)):=(World.cell?_setCell_other _ _ _ _ hne).trans q1
       have hJn : J < n:=by omega
       have HJ:=zH hJ
       clear hJ hxk OU
       go_wp2_with fail
       go_roundw
       case rel =>
        have hJ:=HJ.out
        refine ⟨k + 1,by omega,by go_num,by congr 1; omega,fun m hm => ?_,fun j => by rw [World.frozen?_setCell,World.frozen?_setCell]; exact hfz.out j,(hbw.setCell (p:=⟨g,k,none⟩) hg0 _).setCell (p:=⟨g,J,none⟩) hg0 _⟩
        by_cases h1 : m = J
        ·subst h1
         rw [World.cell?_setCell_same' _ _ _ (by rw [q5]; rfl),if_pos (by omega),show n - 1 - m = k by omega,Sj.out]
        ·rw [World.cell?_setCell_other _ _ _ _ (fun e => h1 (by injection e with _ e; exact e.symm))]
         by_cases h2 : m = k
         ·subst h2
          rw [World.cell?_setCell_same' _ _ _ (by rw [q0]; rfl),if_pos (by omega),show n - 1 - m = J by omega,TC.out]
         ·rw [World.cell?_setCell_other _ _ _ _ (fun e => h2 (by injection e with _ e; exact e.symm)),hcl.out m hm]
          by_cases h3 : m < k ∨ n ≤ m + k
          ·rw [if_pos h3,if_pos (by omega)]
          ·rw [if_neg h3,if_neg (by omega)]
       case measure => simp [intOf] <;> omega
      ·have TT : ¬ (k : Int) < (n : Int) - 1 - k:=by omega
       have hrl : dg.reverse.length = n:=by rw [List.length_reverse]; exact HN.out
       have hconv:=run_convert_bytes_back (P:=Tryz.prog) wr 62 9 5 ⟨g,0,none⟩ c3 dg.reverse Tryz.underlying62 Tryz.underlying5 Tryz.underlying9 (fun j hj => by
        rw [Go.WideShapes.add_plain,Nat.zero_add]
        have hjn : j < n:=by omega
        rw [hcl.out j hjn]
        have hfl:=HN.out
        have e : dg.reverse[j] = dg.getD (n - 1 - j) 0:=by
         rw [List.getElem_reverse]
         simp only [hfl,List.getD,List.getElem?_eq_getElem (show n - 1 - j < dg.length by omega),Option.getD_some]
        rw [e]
        by_cases h3 : j < k ∨ n ≤ j + k
        ·rw [if_pos h3]
        ·rw [if_neg h3,show n - 1 - j = j by omega])
       rw [hrl] at hconv
       clear hcl hfz hrl
       go_wp2_with fail
       go_ret
       exact ⟨by rw [uK.out]; first | rfl | (rw [List.reverse_append]; rfl),hbw⟩
    | true =>
     have uK : Hid (Lib.itoa n0 = (dg ++ [45]).reverse):=by
      have h1:=of_decide_eq_true Un.out
      show _ = _
      rw [← Au n0 (by have:=Gn.out; have:=H0.out; omega),if_pos h1,Gn.out,Uh.out]
     have Qc : 1 ≤ (dg ++ [45]).length ∧ (dg ++ [45]).length ≤ 25:=by rw [List.length_append]; simp; omega
     go_wp2_with (at_builtin; go_must (refine pK Dw wr (.int .u8 45) rfl (.tmp 53) (.tmp 54) rfl w1.heap.size (.slice A3 dg.length c3) dg.length (Lib.byteCells dg) rfl hown rfl rfl (by omega) (by omega) hsz ?_; intro v4 w4 o1 o2 o3 o4; obtain ⟨A4,c4,rfl⟩:=bg o1))
     have OE : dg.length + 1 = (dg ++ [45]).length:=by rw [List.length_append]; rfl
     have hown' : w4.ownsRow w1.heap.size 5 1 (.slice A4 (dg ++ [45]).length c4) (dg ++ [45]).length (Lib.byteCells (dg ++ [45])):=by
      rw [← OE]
      have e : Lib.byteCells (dg ++ [45]) = Lib.byteCells dg ++ [.int .u8 45]:=by simp [Lib.byteCells]
      rw [e]
      exact o1
     have xg : Below w.heap.size w w4:=hbw.trans (o4.mono BA)
     rw [OE]
     clear o1 o2 o3 o4 hbw k0 OE hsz
     obtain ⟨g,cap,hsl,hg0,hcap,hcells,hfz⟩:=Ce hown' Qc.1
     obtain ⟨hA3,hc3⟩ : A4 = some ⟨g,0,none⟩ ∧ c4 = cap:=by injection hsl with e1 _ e3; exact ⟨e1,e3⟩
     subst hA3
     subst hc3
     have hg0 : w.heap.size ≤ g:=Nat.le_trans BA hg0
     have PI:=zH hfz
     have NI:=zH hcells
     clear hown hown' hfz hcells hsl
     obtain ⟨n,hn⟩ : ∃ n,(dg ++ [45]).length = n:=⟨_,rfl⟩
     have HN:=zH hn
     rw [hn]
     have OJ : 1 ≤ n ∧ n ≤ 25:=by rw [← hn]; exact Qc
     obtain ⟨hn1,hn2⟩:=OJ
     clear hn
     go_wp2_with fail
     go_loopw [8,9] (fun i j wr => ∃ k : Nat,2 * k ≤ n + 1 ∧ i = .int .i64 k ∧ j = .int .i64 ((n : Int) - 1 - k) ∧ Hid (∀ m : Nat,m < n → wr.cell? ⟨g,m,none⟩ = some (.int .u8 ((if m < k ∨ n ≤ m + k then ((dg ++ [45]).getD (n - 1 - m) 0) else (dg ++ [45]).getD m 0).toNat : Int))) ∧ Hid (∀ j,wr.frozen? ⟨g,j,none⟩ = false) ∧ Below w.heap.size w wr) (fun _ j _ => ((intOf j) + 1).toNat)
     case atStart =>
      refine ⟨0,by omega,rfl,by first | (simp; done) | (congr 1; have:=HN.out; simp at this; omega),fun m hm => ?_,PI,xg⟩
      have hm' : m < (dg ++ [45]).length:=by have:=HN.out; omega
      rw [if_neg (by omega)]
      have:=NI.out m (dg ++ [45])[m] (List.getElem?_eq_getElem hm')
      rw [this]
      rw [List.getD,List.getElem?_eq_getElem hm']
      rfl
     case round =>
      clear PI NI xg
      obtain ⟨k,hk,rfl,rfl,hcl,hfz,hbw⟩:=hrel
      by_cases hlt : 2 * k + 1 < n
      ·obtain ⟨J,hJ⟩ : ∃ J : Nat,J + k + 1 = n:=⟨n - 1 - k,by omega⟩
       rw [show ((n : Int) - 1 - k) = (J : Int) by omega]
       have TT : (k : Int) < (J : Int):=by omega
       have q0:=hcl.out k (by omega)
       rw [if_neg (by omega)] at q0
       have q1:=hcl.out J (by omega)
       rw [if_neg (by omega)] at q1
       obtain ⟨xk,hxk⟩ : ∃ x,(dg ++ [45]).getD k 0 = x:=⟨_,rfl⟩
       obtain ⟨xJ,OU⟩ : ∃ x,(dg ++ [45]).getD J 0 = x:=⟨_,rfl⟩
       rw [hxk] at q0
       rw [OU] at q1
       have Sj:=zH hxk
       have TC:=zH OU
       have q2:=hfz.out k
       have q3:=hfz.out J
       have hne : (⟨g,k,none⟩ : Addr) ≠ ⟨g,J,none⟩:=fun e => by injection e with _ e; omega
       have q5 : (wr.setCell ⟨g,k,none⟩ (.int .u8 (xJ.toNat : Int))).cell? ⟨g,J,none⟩ = some (.int .u8 (xJ.toNat : Int)):=(World.cell?_setCell_other _ _ _ _ hne).trans q1
       have hJn : J < n:=by omega
       have HJ:=zH hJ
       clear hJ hxk OU
       go_wp2_with fail
       go_roundw
       case rel =>
        have hJ:=HJ.out
        refine ⟨k + 1,by omega,by go_num,by congr 1; omega,fun m hm => ?_,fun j => by rw [World.frozen?_setCell,World.frozen?_setCell]; exact hfz.out j,(hbw.setCell (p:=⟨g,k,none⟩) hg0 _).setCell (p:=⟨g,J,none⟩) hg0 _⟩
        by_cases h1 : m = J
        ·subst h1
         rw [World.cell?_setCell_same' _ _ _ (by rw [q5]; rfl),if_pos (by omega),show n - 1 - m = k by omega,Sj.out]
        ·rw [World.cell?_setCell_other _ _ _ _ (fun e => h1 (by injection e with _ e; exact e.symm))]
         by_cases h2 : m = k
         ·subst h2
          rw [World.cell?_setCell_same' _ _ _ (by rw [q0]; rfl),if_pos (by omega),show n - 1 - m = J by omega,TC.out]
         ·rw [World.cell?_setCell_other _ _ _ _ (fun e => h2 (by injection e with _ e; exact e.symm)),hcl.out m hm]
          by_cases h3 : m < k ∨ n ≤ m + k
          ·rw [if_pos h3,if_pos (by omega)]
          ·rw [if_neg h3,if_neg (by omega)]
       case measure => simp [intOf] <;> omega
      ·have TT : ¬ (k : Int) < (n : Int) - 1 - k:=by omega
       have hrl : (dg ++ [45]).reverse.length = n:=by rw [List.length_reverse]; exact HN.out
       have hconv:=run_convert_bytes_back (P:=Tryz.prog) wr 62 9 5 ⟨g,0,none⟩ c4 (dg ++ [45]).reverse Tryz.underlying62 Tryz.underlying5 Tryz.underlying9 (fun j hj => by
        rw [Go.WideShapes.add_plain,Nat.zero_add]
        have hjn : j < n:=by omega
        rw [hcl.out j hjn]
        have hfl:=HN.out
        have e : (dg ++ [45]).reverse[j] = (dg ++ [45]).getD (n - 1 - j) 0:=by
         rw [List.getElem_reverse]
         simp only [hfl,List.getD,List.getElem?_eq_getElem (show n - 1 - j < (dg ++ [45]).length by omega),Option.getD_some]
        rw [e]
        by_cases h3 : j < k ∨ n ≤ j + k
        ·rw [if_pos h3]
        ·rw [if_neg h3,show n - 1 - j = j by omega])
       rw [hrl] at hconv
       clear hcl hfz hrl
       go_wp2_with fail
       go_ret
       exact ⟨by rw [uK.out]; first | rfl | (rw [List.reverse_append]; rfl),hbw⟩
   ·have hwl : 0 < (wordsOf m).length:=List.length_pos_iff.2 (fun e => hm (qY.1 e))
    have QN : (wordsOf m).length ≤ 3:=Bi (by omega)
    obtain ⟨M,hM⟩ : ∃ M,(wordsOf m).length = M:=⟨_,rfl⟩
    have HM:=zH hM
    have Jt:=hdg.out
    rw [show vV m = UInt8.ofNat (48 + m % 10) :: vV (m / 10) by rw [vV,dif_neg hm]] at Jt
    have hdl2 : dg.length + 1 ≤ 20:=by have:=Ui.out; rw [Jt,List.length_append,List.length_cons] at this; omega
    obtain ⟨A3,c3,rfl⟩:=bg hown
    have hsm:=bsmall_any _ _ (wordsOf m) 10 wr NH.out (by omega) hwl (by decide) (by decide) (DJ m)
    obtain ⟨R,hR⟩ : ∃ R,m % 10 = R:=⟨_,rfl⟩
    have hR10 : R < 10:=by rw [← hR]; exact Nat.mod_lt _ (by decide)
    have hRZ : (R : Int) < 10:=by omega
    have HRR:=zH hR
    rw [hR] at Jt
    rw [hM,Bj,hR] at hsm
    have Ux:=zH hsm
    have RY:=zH Jt
    rw [hM] at hwl QN ⊢
    clear hsm hR Jt
    have Um:=zH hm
    clear hM hdg hc2 hz2 hm
    go_wp2_with fail
    refine Ux.out.mono ?_
    rintro e w2 ⟨⟨v2,rfl,hv2⟩,hb2⟩
    have k2:=ae k0 hb2
    have hown2:=hown.kept (grown_below hb2 none) (by cases (Value.slice A3 dg.length c3).ownBlock <;> simp)
    have Ur : Hid (∀ k,(Value.slice A3 dg.length c3).ownBlock = some k → k < wr.heap.size):=zH (fun k hk => (hown.lt k hk).2)
    have hsz2 : w1.heap.size ≤ w2.heap.size:=Nat.le_trans hsz hb2.size
    have hbw2:=hbw.trans (hb2.mono hbw.size)
    have hrs:=hb2.size
    clear hwl QN k0 hown hbw hb2 Ux NH
    go_wp2_with (at_builtin; go_must (refine pK Dw w2 (.int .u8 (48 + (R : Int))) rfl (.tmp 36) (.tmp 40) rfl w1.heap.size (.slice A3 dg.length c3) dg.length (Lib.byteCells dg) rfl hown2 rfl rfl (by omega) (by omega) hsz2 ?_; intro v3 w3 o1 o2 o3 o4))
    go_roundg (m / 10)
    case rel =>
     have hm0:=Um.out
     have hsz3 : w2.heap.size + 1 ≤ w3.heap.size:=Nat.le_trans (Nat.le_of_eq (Array.size_push _).symm) o2.size
     refine ⟨m / 10,dg ++ [UInt8.ofNat (48 + R)],Nat.le_refl _,by omega,zH (by rw [RY.out]; simp),?_,?_,ae c0 (hbw2.trans (o4.mono BA)),hbw2.trans (o4.mono BA),by omega⟩
     ·have e : Lib.byteCells (dg ++ [UInt8.ofNat (48 + R)]) = Lib.byteCells dg ++ [.int .u8 (48 + (R : Int))]:=by rw [← u8_small hR10]; simp [Lib.byteCells]
      rw [e,List.length_append]
      exact o1
     ·refine hv2.keep (Same.trans (Same.below ((Below.refl _ _).alloc (Nat.le_refl _) _)) (by simp) (Same.grown o2 (fun b hD e => by have:=Ur.out b e.symm; omega))) (fun b hD hl e => ?_)
      rcases o3 with h | h
      ·have:=Ur.out b (by rw [← h]; exact e.symm)
       omega
      ·rw [h] at e
       injection e with e
       omega
    case measure => have:=Um.out; omega
theorem yt {w wr : World} {p : Nat} (h : w.grownBy wr (some p)) (u v : Value) : w.grownBy ((wr.setCell ⟨p,1,none⟩ u).setCell ⟨p,0,none⟩ v) (some p):=by
 refine ⟨h.os,h.tape,h.output,by rw [World.size_setCell,World.size_setCell]; exact h.size,fun b hl hb => ?_⟩
 rw [Below.heap_setCell _ _ v b (fun e => hb (by rw [e])),Below.heap_setCell _ _ u b (fun e => hb (by rw [e]))]
 exact h.block b hl hb
theorem FD (p : Nat) (neg : Bool) (v x0 x1 : Value) (l : List Nat) (w : World) (hv : DR All w v l) (c0 : w.cell? ⟨p,0,none⟩ = some x0) (c1 : w.cell? ⟨p,1,none⟩ = some x1) (hf : ∀ j,w.frozen? ⟨p,j,none⟩ = false) :
  Calls Tryz.prog 156 #[.pointer (some ⟨p,0,none⟩),.bool neg,v] w fun e w' => e = .returned (.pointer (some ⟨p,0,none⟩)) ∧ w' = (w.setCell ⟨p,1,none⟩ v).setCell ⟨p,0,none⟩ (.bool (neg && decide (0 < l.length))):=by
 obtain ⟨A,cap,rfl,-,-,-⟩:=hv
 have f0:=hf 0
 have f1:=hf 1
 have f0' : (w.setCell ⟨p,1,none⟩ (.slice A l.length cap)).frozen? ⟨p,0,none⟩ = false:=by rw [World.frozen?_setCell]; exact f0
 have c0' : (w.setCell ⟨p,1,none⟩ (.slice A l.length cap)).cell? ⟨p,0,none⟩ = some x0:=by rw [fK (by decide)]; exact c0
 obtain ⟨n,hn⟩ : ∃ n,l.length = n:=⟨_,rfl⟩
 rw [hn] at *
 clear hf hn
 cases neg with
 | false =>
  go_enter Tryz.func156,Tryz.ntmps156
  go_wp2_with fail
  go_ret
  exact ⟨rfl,rfl⟩
 | true =>
  by_cases h0 : 0 < n
  ·have h0' : (0 : Int) < (n : Int):=by omega
   have hd : decide (0 < n) = true:=by simpa using h0
   have HD:=zH hd
   clear hd
   go_enter Tryz.func156,Tryz.ntmps156
   go_wp2_with fail
   go_ret
   exact ⟨rfl,by rw [HD.out]; rfl⟩
  ·obtain rfl : n = 0:=by omega
   go_enter Tryz.func156,Tryz.ntmps156
   go_wp2_with fail
   go_ret
   exact ⟨rfl,rfl⟩
theorem setInt64_any (p : Nat) (x : Int) (x0 x1 : Value) (w : World) (h1 : -9223372036854775808 ≤ x) (h2 : x ≤ 9223372036854775807) (c0 : w.cell? ⟨p,0,none⟩ = some x0) (c1 : w.cell? ⟨p,1,none⟩ = some x1) (hf : ∀ j,w.frozen? ⟨p,j,none⟩ = false) :
  Calls Tryz.prog 174 #[.pointer (some ⟨p,0,none⟩),.int .i64 x] w fun e w' => e = .returned (.pointer (some ⟨p,0,none⟩)) ∧ BL w' p x ∧ w.grownBy w' (some p):=by
 by_cases h0 : x < 0
 ·go_enter Tryz.func174,Tryz.ntmps174
  go_wp2_with fail
  have hwr : IntKind.u64.wrap (-IntKind.u64.wrap x) = (x.natAbs : Int):=by simp [IntKind.wrap,IntKind.bits,IntKind.signed]; omega
  rw [hwr]
  clear hwr
  refine (Ej x.natAbs w (by omega)).mono ?_
  rintro e w1 ⟨⟨v,rfl,hv⟩,hb⟩
  have hpl:=cell_lt c0
  have k0:=ae c0 hb
  have k1:=ae c1 hb
  have kf : ∀ j,w1.frozen? ⟨p,j,none⟩ = false:=fun j => (hb.frozen (p:=⟨p,j,none⟩) hpl).trans (hf j)
  clear c0 c1 hf
  go_wp2_with fail
  refine (FD p true v x0 x1 (wordsOf x.natAbs) w1 (hv.keep (Same.refl _ _) (fun _ _ _ => trivial)) k0 k1 kf).mono ?_
  rintro e w2 ⟨rfl,rfl⟩
  go_wp2_with fail
  have hgr : w.grownBy ((w1.setCell ⟨p,1,none⟩ v).setCell ⟨p,0,none⟩ (.bool (true && decide (0 < (wordsOf x.natAbs).length)))) (some p):=yt (grown_below hb _) _ _
  have hvk:=hv.keep (D':=fun k => w.heap.size ≤ k) (Same.grown (yt (grown_below (Below.refl _ _) (some p)) v (.bool (true && decide (0 < (wordsOf x.natAbs).length)))) (fun b hb e => by injection e with e; omega)) (fun _ h _ => h)
  go_ret
  have hpos : 0 < (wordsOf x.natAbs).length:=List.length_pos_iff.2 (fun e => by have:=qY.1 e; omega)
  exact ⟨rfl,⟨by rw [uA (x:=x0) (by rw [fK (by decide)]; exact k0)]; simp [hpos,h0],v,by rw [fK (by decide),uA k1],hvk.keep (Same.refl _ _) (fun _ _ _ => trivial)⟩,hgr⟩
 ·go_enter Tryz.func174,Tryz.ntmps174
  go_wp2_with fail
  have hwr : x = (x.natAbs : Int):=by omega
  rw [hwr]
  clear hwr
  refine (Ej x.natAbs w (by omega)).mono ?_
  rintro e w1 ⟨⟨v,rfl,hv⟩,hb⟩
  have hpl:=cell_lt c0
  have k0:=ae c0 hb
  have k1:=ae c1 hb
  have kf : ∀ j,w1.frozen? ⟨p,j,none⟩ = false:=fun j => (hb.frozen (p:=⟨p,j,none⟩) hpl).trans (hf j)
  clear c0 c1 hf
  go_wp2_with fail
  refine (FD p false v x0 x1 (wordsOf x.natAbs) w1 (hv.keep (Same.refl _ _) (fun _ _ _ => trivial)) k0 k1 kf).mono ?_
  rintro e w2 ⟨rfl,rfl⟩
  go_wp2_with fail
  have hgr : w.grownBy ((w1.setCell ⟨p,1,none⟩ v).setCell ⟨p,0,none⟩ (.bool (false && decide (0 < (wordsOf x.natAbs).length)))) (some p):=yt (grown_below hb _) _ _
  have hvk:=hv.keep (D':=fun k => w.heap.size ≤ k) (Same.grown (yt (grown_below (Below.refl _ _) (some p)) v (.bool (false && decide (0 < (wordsOf x.natAbs).length)))) (fun b hb e => by injection e with e; omega)) (fun _ h _ => h)
  go_ret
  exact ⟨rfl,⟨by rw [uA (x:=x0) (by rw [fK (by decide)]; exact k0)]; simp [h0],v,by rw [fK (by decide),uA k1],hvk.keep (Same.refl _ _) (fun _ _ _ => trivial)⟩,hgr⟩
theorem newInt_any (x : Int) (w : World) (h1 : -9223372036854775808 ≤ x) (h2 : x ≤ 9223372036854775807) :
  Calls Tryz.prog 148 #[.int .i64 x] w fun e w' => (∃ p,e = .returned (.pointer (some ⟨p,0,none⟩)) ∧ BL w' p x) ∧ Below w.heap.size w w':=by
 go_enter Tryz.func148,Tryz.ntmps148
 go_wp2_with fail
 refine (setInt64_any w.heap.size x (.bool false) (.slice none 0 0) _ h1 h2 (by simp [go_sem]) (by simp [go_sem]) (fun j => by simp [go_sem])).mono ?_
 rintro e w1 ⟨rfl,hp,hg⟩
 go_wp2_with fail
 go_ret
 exact ⟨⟨_,rfl,hp⟩,(Below.refl _ _).alloc (Nat.le_refl _) _ |>.grown hg (Nat.le_trans (Nat.le_succ _) (Nat.le_of_eq (Array.size_push _).symm)) (fun k hk => by injection hk with hk; omega)⟩
theorem bigString_any (p : Nat) (n0 : Int) (w : World) (h : BL w p n0) (hn : n0.natAbs < 100000000000000000000) :
  Calls Tryz.prog 127 #[.pointer (some ⟨p,0,none⟩)] w fun e w' => e = .returned (.string ⟨(Lib.itoa n0).toArray⟩) ∧ Below w.heap.size w w':=by
 go_enter Tryz.func127,Tryz.ntmps127
 go_wp2_with fail
 refine (bigText_any p n0 w h hn).mono ?_
 rintro e w1 ⟨rfl,hb⟩
 go_wp2_with fail
 go_ret
 exact ⟨rfl,hb⟩
end Go.Proofs.YtpidjanngbaiiaaGreatDoor
namespace Go.Proofs.YtpidjanngbaiiaaGreatDoor
open Go.RowKit Go.Proofs
set_option maxRecDepth 100000
set_option maxHeartbeats 32000000

theorem vtext_int (n : Int) (t : Str) (w : World) (h1 : -9223372036854775808 ≤ n) (h2 : n ≤ 9223372036854775807) :
  Calls Tryz.prog 111 #[.agg #[.int .i64 1,.int .i64 n,.string ⟨t.toArray⟩]] w fun e w' => e = .returned (.string ⟨(yA 1 n t).toArray⟩) ∧ Below w.heap.size w w':=by
 obtain ⟨R,hR⟩ : ∃ R,yA 1 n t = R:=⟨_,rfl⟩
 have HR : Hid (Lib.itoa n = R):=hR
 rw [hR]
 clear hR
 go_enter Tryz.func111,Tryz.ntmps111
 go_wp2_with fail
 refine (newInt_any n _ h1 h2).mono ?_
 rintro e w1 ⟨⟨p,rfl,hp⟩,hb1⟩
 go_wp2_with fail
 refine (bigString_any p n w1 hp (by omega)).mono ?_
 rintro e w2 ⟨rfl,hb2⟩
 go_wp2_with fail
 go_ret
 exact ⟨by rw [← HR.out]; rfl,chain (chain (by go_grown) hb1) hb2⟩
theorem vtext_bool (n : Int) (t : Str) (w : World) (hn : n = 0 ∨ n = 1) :
  Calls Tryz.prog 111 #[.agg #[.int .i64 2,.int .i64 n,.string ⟨t.toArray⟩]] w fun e w' => e = .returned (.string ⟨(yA 2 n t).toArray⟩) ∧ Below w.heap.size w w':=by
 rcases hn with rfl | rfl
 all_goals
  go_enter Tryz.func111,Tryz.ntmps111
  go_wp2_with fail
  go_ret
  exact ⟨rfl,by go_grown⟩
section
variable {P : Program} {ops : Array Oper} {Q : Exit → Act → World → Prop} {o : Oper} {rest : List Oper} {a : Act}
theorem xX {T E : TypeId} {bytes : Nat} (R : oD P T E 1 bytes) (w : World) (u y : Value) (hgd : o.guard = none) (s x : Operand)
  (ho : o.op = .call { callee:=.builtin .append,args:=#[s,x],argTypes:=#[T,T] })
  (base : Nat) (v : Value) (n : Nat) (xs : List Value) (hs : a.eval s = v) (hown : w.ownsRow base E 1 v n xs)
  (hx : a.eval x = .slice (some ⟨w.heap.size,0,none⟩) 2 2) (h1 : u.oneCell' = true) (h2 : y.oneCell' = true)
  (hbytes : (n + 2) * bytes ≤ 140737488355328) (h63 : n + 2 ≤ 4611686018427387904) (hbase : base ≤ w.heap.size)
  (h : ∀ v' w',w'.ownsRow base E 1 v' (n + 2) (xs ++ [u,y]) → (w.alloc (.cells #[u,y] E)).grownBy w' v.ownBlock → (v'.ownBlock = v.ownBlock ∨ v'.ownBlock = some (w.heap.size + 1)) → Below base w w' → wpList P ops Q rest (a.put o.dst v') w') : wpList P ops Q (o :: rest) a (w.alloc (.cells #[u,y] E)):=by
 refine pR R hgd s x ho base v n xs hs (hown.alloc _) ⟨w.heap.size,0,none⟩ 2 2 [u,y] hx rfl (fun j z hj => ?_) (by simp [h1,h2]) (by unfold maxLen; omega) hbytes (by simp; omega) ?_
 ·match j,hj with
  | 0,hj | 1,hj => simp at hj; subst hj; simp [Addr.add,go_sem]
  | j + 2,hj => simp at hj
 intro v' w' h2 h3 h4 h5
 exact h v' w' h2 h3 (by simpa using h4) (((Below.refl _ _).alloc hbase _).trans h5)
end
theorem bytes_new (w : World) (b : UInt8) : (w.alloc (.cells #[.int .u8 b.toNat] 5)).ownsRow w.heap.size 5 1 (.slice (some ⟨w.heap.size,0,none⟩) 1 1) 1 (Lib.byteCells [b]) :=
 ⟨rfl,.inr ⟨w.heap.size,1,#[.int .u8 b.toNat],rfl,Nat.le_refl _,(by show (w.heap.push _)[w.heap.size]? = _; rw [Array.getElem?_push_size]),Nat.le_refl _,by unfold maxLen; omega,rfl,rfl⟩⟩
theorem conv_own {w : World} {base : Nat} {v : Value} {l : Str} {n : Nat} {xs : List Value} (h : w.ownsRow base 5 1 v n xs) (hn : n = l.length) (hx : xs = Lib.byteCells l) (h0 : 1 ≤ l.length) :
  ∃ A cap,v = .slice A n cap ∧ (convert 62 9 v).run Tryz.prog w = .ok (.string ⟨l.toArray⟩) w:=by
 subst hn
 subst hx
 obtain ⟨g,cap,rfl,-,-,hc,-⟩:=Ce h h0
 refine ⟨_,cap,rfl,run_convert_bytes_back (P:=Tryz.prog) w 62 9 5 ⟨g,0,none⟩ cap l Tryz.underlying62 Tryz.underlying5 Tryz.underlying9 (fun j hj => ?_)⟩
 rw [Go.WideShapes.add_plain,Nat.zero_add]
 exact hc j _ (List.getElem?_eq_getElem hj)
theorem vtext_text (t : Str) (w : World) (ht : t.length ≤ 1048576) :
  Calls Tryz.prog 111 #[.agg #[.int .i64 3,.int .i64 0,.string ⟨t.toArray⟩]] w fun e w' => e = .returned (.string ⟨(yA 3 0 t).toArray⟩) ∧ Below w.heap.size w w':=by
 obtain ⟨R,hR⟩ : ∃ R,yA 3 0 t = R:=⟨_,rfl⟩
 have HR : Hid (34 :: (esc t ++ [34]) = R):=hR
 rw [hR]
 clear hR
 obtain ⟨L,hL⟩ : ∃ L,t.length = L:=⟨_,rfl⟩
 have HL:=zH hL
 rw [hL] at ht
 clear hL
 go_enter Tryz.func111,Tryz.ntmps111
 go_wp2_with fail
 have hB : Below w.heap.size w (w.alloc (.cells #[.int .i64 3,.int .i64 0,.string ⟨t.toArray⟩] 26)):=by go_grown
 have hk : (w.alloc (.cells #[.int .i64 3,.int .i64 0,.string ⟨t.toArray⟩] 26)).cell? ⟨w.heap.size,2,none⟩ = some (.string ⟨t.toArray⟩):=by simp [go_sem]
 have hsz : w.heap.size + 1 = (w.alloc (.cells #[.int .i64 3,.int .i64 0,.string ⟨t.toArray⟩] 26)).heap.size:=by simp
 rw [hsz]
 generalize w.alloc (.cells #[.int .i64 3,.int .i64 0,.string ⟨t.toArray⟩] 26) = W at *
 have hown:=bytes_new W 34
 have hbN : Below W.heap.size W (W.alloc (.cells #[.int .u8 (34 : UInt8).toNat] 5)):=by go_grown
 go_loopw [3,4] (fun bv i wr => ∃ j : Nat,j ≤ L ∧ i = .int .i64 j ∧ wr.ownsRow W.heap.size 5 1 bv (34 :: esc (t.take j)).length (Lib.byteCells (34 :: esc (t.take j))) ∧ Below W.heap.size W wr) (fun _ i _ => L - (intOf i).toNat)
 case atStart => exact ⟨0,Nat.zero_le _,rfl,hown,hbN⟩
 case round =>
  clear hown hbN
  obtain ⟨j,hj,rfl,hown,hb⟩:=hrel
  obtain ⟨A3,c3,rfl⟩:=bg hown
  have k2:=ae hk hb
  by_cases hlt : j < L
  ·have hltZ : (j : Int) < (L : Int):=by omega
   obtain ⟨x,hx⟩ : ∃ x,t[j]? = some x:=⟨_,List.getElem?_eq_getElem (by rw [HL.out]; exact hlt)⟩
   have HX:=zH hx
   have hlt2 : j < t.length:=by rw [HL.out]; exact hlt
   have E : ((⟨t.toArray⟩ : ByteArray)[j]'(by simpa [ByteArray.size] using hlt2)).toNat = x.toNat:=by rw [byte_at' HX.out]
   have hes:=zH (FC (t.take j) x)
   have hln : (esc (t.take j)).length ≤ 2 * j:=by have:=zx (t.take j); rw [List.length_take] at this; omega
   have HT:=zH (take_snoc hx)
   have BA:=hb.size
   obtain ⟨D,hD⟩ : ∃ D,34 :: esc (t.take j) = D:=⟨_,rfl⟩
   have HD:=zH hD
   have hDl : D.length ≤ 2 * j + 1:=by rw [← hD]; simp; omega
   rw [hD] at hown ⊢
   clear hx hln hD
   have fin : Hid (∀ (v3 : Value) (w3 : World),w3.ownsRow W.heap.size 5 1 v3 (D.length + (xA x).length) (Lib.byteCells D ++ Lib.byteCells (xA x)) → w3.ownsRow W.heap.size 5 1 v3 (34 :: esc (t.take (j + 1))).length (Lib.byteCells (34 :: esc (t.take (j + 1))))):=zH (fun v3 w3 h => by
    have e : 34 :: esc (t.take (j + 1)) = D ++ xA x:=by rw [HT.out,hes.out,← HD.out]; rfl
    rw [e,List.length_append,Lib.byteCells_append]
    exact h)
   by_cases h10 : x = 10
   ·subst h10
    go_wp2_with (at_builtin; go_must (refine xX Dw wr (.int .u8 92) (.int .u8 110) rfl (.tmp 41) (.tmp 42) rfl W.heap.size (.slice A3 D.length c3) D.length (Lib.byteCells D) rfl hown rfl rfl rfl (by omega) (by omega) BA ?_; intro v3 w3 o1 o2 o3 o4))
    exact ⟨⟨j + 1,by omega,by go_num,fin.out _ _ o1,hb.trans o4⟩,by simp [intOf] <;> omega⟩
   ·have n10 : (x.toNat : Int) ≠ 10:=Pv h10 (by decide)
    by_cases h92 : x = 92 ∨ x = 34
    ·have he : xA x = [92,x]:=by unfold xA; rw [if_neg h10,if_pos h92]
     rw [he] at fin
     rcases h92 with rfl | rfl
     ·clear he n10 h10
      go_wp2_with (at_builtin; go_must (refine xX Dw wr (.int .u8 92) (.int .u8 92) rfl (.tmp 47) (.tmp 52) rfl W.heap.size (.slice A3 D.length c3) D.length (Lib.byteCells D) rfl hown rfl rfl rfl (by omega) (by omega) BA ?_; intro v3 w3 o1 o2 o3 o4))
      exact ⟨⟨j + 1,by omega,by go_num,fin.out _ _ o1,hb.trans o4⟩,by simp [intOf] <;> omega⟩
     ·clear he n10 h10
      go_wp2_with (at_builtin; go_must (refine xX Dw wr (.int .u8 92) (.int .u8 34) rfl (.tmp 47) (.tmp 52) rfl W.heap.size (.slice A3 D.length c3) D.length (Lib.byteCells D) rfl hown rfl rfl rfl (by omega) (by omega) BA ?_; intro v3 w3 o1 o2 o3 o4))
      exact ⟨⟨j + 1,by omega,by go_num,fin.out _ _ o1,hb.trans o4⟩,by simp [intOf] <;> omega⟩
    ·have hq : x ≠ 92 ∧ x ≠ 34:=⟨fun e => h92 (.inl e),fun e => h92 (.inr e)⟩
     have n92 : (x.toNat : Int) ≠ 92:=Pv hq.1 (by decide)
     have n34 : (x.toNat : Int) ≠ 34:=Pv hq.2 (by decide)
     have he : xA x = [x]:=by unfold xA; rw [if_neg h10,if_neg h92]
     rw [he] at fin
     clear h92 hq h10 he
     go_wp2_with (at_builtin; go_must (refine pK Dw wr (.int .u8 x.toNat) rfl (.tmp 32) (.tmp 37) rfl W.heap.size (.slice A3 D.length c3) D.length (Lib.byteCells D) rfl hown rfl rfl (by omega) (by omega) BA ?_; intro v3 w3 o1 o2 o3 o4))
     exact ⟨⟨j + 1,by omega,by go_num,fin.out _ _ o1,hb.trans o4⟩,by simp [intOf] <;> omega⟩
  ·obtain rfl : j = L:=by omega
   have e : t.take j = t:=List.take_of_length_le (by rw [HL.out]; exact Nat.le_refl _)
   rw [e] at hown ⊢
   have hln:=zx t
   rw [HL.out] at hln
   obtain ⟨D,hD⟩ : ∃ D,34 :: esc t = D:=⟨_,rfl⟩
   have HD:=zH hD
   have hDl : D.length ≤ 2 * j + 1:=by rw [← hD]; simp; omega
   have BA:=hb.size
   rw [hD] at hown ⊢
   clear hln hD e
   have hlt3 : ¬ j < t.length:=by rw [HL.out]; omega
   go_wp2_with (at_builtin; go_must (refine pK Dw wr (.int .u8 34) rfl (.tmp 54) (.tmp 55) rfl W.heap.size (.slice A3 D.length c3) D.length (Lib.byteCells D) rfl hown rfl rfl (by omega) (by omega) BA ?_; intro v3 w3 o1 o2 o3 o4; obtain ⟨A4,c4,rfl,hconv⟩:=conv_own (l:=D ++ [34]) o1 (by simp) (by rw [Lib.byteCells_append]; rfl) (by simp)))
   go_ret
   exact ⟨by rw [← HR.out,← HD.out]; rfl,hB.trans ((hb.trans o4).mono hB.size)⟩
theorem vtextRef_any (s n : Int) (t : Str) (w : World) (hc : qQ s n t = 0) (ht : t.length ≤ 1048576) (h1 : -9223372036854775808 ≤ n) (h2 : n ≤ 9223372036854775807) :
  Calls Tryz.prog 111 #[.agg #[.int .i64 s,.int .i64 n,.string ⟨t.toArray⟩]] w fun e w' => e = .returned (.string ⟨(yA s n t).toArray⟩) ∧ Below w.heap.size w w':=by
 have hs : (s = 3 ∧ n = 0) ∨ s = 1 ∨ (s = 2 ∧ (n = 0 ∨ n = 1)):=by
  unfold qQ at hc
  split at hc
  ·exact .inl (by assumption)
  ·split at hc
   ·rename_i h
    exact .inr h.2
   ·omega
 rcases hs with ⟨rfl,rfl⟩ | rfl | ⟨rfl,hn⟩
 ·exact vtext_text t w ht
 ·exact vtext_int n t w h1 h2
 ·exact vtext_bool n t w hn
end Go.Proofs.YtpidjanngbaiiaaGreatDoor
namespace Go.Proofs.YtpidjanngbaiiaaGreatDoor
open Go.RowKit Go.Proofs
set_option maxRecDepth 100000
set_option maxHeartbeats 32000000

def wW (t : Ex) (v : Value) (w : World) : Prop :=
 Calls Tryz.prog 80 #[v] w fun e w' => e = .returned (.string ⟨(ik t).toArray⟩) ∧ Below w.heap.size w w'
abbrev Sm (m : Nat) : Prop:=∀ (t : Ex) (v : Value) (w : World),gZ t ≤ m → gZ t ≤ 1000 → uy All w v t → bI 1048576 t → rQ t → wW t v w
theorem xtext_lit (s vn : Int) (x : Str) (v : Value) (w : World) (hv : uy All w v (.mk 1 [] s vn x [])) (hf : bI 1048576 (.mk 1 [] s vn x [])) (hc : qQ s vn x = 0) : wW (.mk 1 [] s vn x []) v w:=by
 unfold wW
 have e : ik (.mk 1 [] s vn x []) = yA s vn x:=by simp [ik]
 rw [e]
 clear e
 obtain ⟨A,L,cap,rfl,hk⟩:=hv.one'
 simp only [Ex.kind,Ex.name,Ex.vs,Ex.vn,Ex.vt,Ex.kids] at hk ⊢
 have xC : L = 0:=by obtain ⟨A',c',e,-,-⟩:=hk; injection e
 have hfp:=hf.parts
 simp only [Ex.kind,Ex.name,Ex.vs,Ex.vn,Ex.vt,Ex.kids] at hfp
 obtain ⟨-,-,-,hvn,hx,-,-⟩:=hfp
 have hr:=ranges hvn
 clear hk hf hv hvn
 go_enter Tryz.func80,Tryz.ntmps80
 go_wp2_with fail
 have hba : Below w.heap.size w (w.alloc (.cells #[.int .i64 1,.string ⟨#[]⟩,.int .i64 s,.int .i64 vn,.string ⟨x.toArray⟩,.slice A 0 cap] 52)):=by go_grown
 refine (vtextRef_any s vn x _ hc hx hr.1 hr.2).mono ?_
 rintro e w1 ⟨rfl,hb1⟩
 go_wp2_with fail
 go_ret
 exact ⟨rfl,chain hba hb1⟩
theorem xtext_name (n : Str) (s vn : Int) (x : Str) (v : Value) (w : World) (hv : uy All w v (.mk 2 n s vn x [])) : wW (.mk 2 n s vn x []) v w:=by
 unfold wW
 have e : ik (.mk 2 n s vn x []) = n:=by simp [ik]
 rw [e]
 clear e
 obtain ⟨A,L,cap,rfl,hk⟩:=hv.one'
 simp only [Ex.kind,Ex.name,Ex.vs,Ex.vn,Ex.vt,Ex.kids] at hk ⊢
 clear hk hv
 go_enter Tryz.func80,Tryz.ntmps80
 go_wp2_with fail
 go_ret
 exact ⟨rfl,by go_grown⟩
theorem xtext_one (m : Nat) (ih : Sm m) (n : Str) (s vn : Int) (x : Str) (c : Ex) (v : Value) (w : World) (hm : gZ (.mk 3 n s vn x [c]) ≤ m + 1) (hm2 : gZ (.mk 3 n s vn x [c]) ≤ 1000) (hv : uy All w v (.mk 3 n s vn x [c])) (hf : bI 1048576 (.mk 3 n s vn x [c])) (hl : lone n = true) (hg : rQ c) : wW (.mk 3 n s vn x [c]) v w:=by
 unfold wW
 obtain ⟨R,hR⟩ : ∃ R,ik (.mk 3 n s vn x [c]) = R:=⟨_,rfl⟩
 have HR : Hid (R = ahead n ++ paren (decide (c.kids.length = 2)) (ik c)):=by
  show _ = _
  rw [← hR]
  simp [ik]
 rw [hR]
 clear hR
 simp only [gZ,oO,Nat.add_zero] at hm hm2
 obtain ⟨A,L,cap,rfl,hk⟩:=hv.one'
 simp only [Ex.aN,Ex.aI,Ex.yL,Ex.yK,Ex.yM,Ex.aK] at hk ⊢
 obtain ⟨hL,-,b,off,A1,n1,p1,rfl,-,y0,y1,y2,y3,y4,y5,hk'⟩:=pF hk (show [c][0]? = some c from rfl)
 simp only [Nat.zero_mul,Nat.add_zero,List.length_cons,List.length_nil,Nat.zero_add] at y0 y1 y2 y3 y4 y5 hL
 subst hL
 have hbl:=cell_lt y0
 have IX:=zH (hf.parts.2.2.2.2.2.2 c (by simp [Ex.aK]))
 have hn1 : n1 = c.kids.length:=by obtain ⟨A',c',e,-,-⟩:=hk'; injection e
 obtain ⟨W,hW⟩ : ∃ W,(w.alloc (.cells #[.int .i64 3,.string ⟨n.toArray⟩,.int .i64 s,.int .i64 vn,.string ⟨x.toArray⟩,.slice (some ⟨b,off,none⟩) 1 cap] 52)) = W:=⟨_,rfl⟩
 have hba : Below w.heap.size w W:=by rw [← hW]; go_grown
 have HB : Hid (jf W w.heap.size (.mk 3 n s vn x [c]) (.slice (some ⟨b,off,none⟩) 1 cap)):=by
  show jf _ _ _ _
  rw [← hW]
  exact pG w (.mk 3 n s vn x [c]) _ _
 have hlen : (ik c).length ≤ 4000000000:=by
  have h1:=qo c IX.out
  omega
 have Gv:=zH (rD hk')
 have dP : Hid (∀ w1,Below w.heap.size w w1 → wW c (.agg #[.int .i64 c.kind,.string ⟨c.name.toArray⟩,.int .i64 c.vs,.int .i64 c.vn,.string ⟨c.vt.toArray⟩,.slice A1 n1 p1]) w1):=zH (fun w1 hb1 => ih c (.agg #[.int .i64 c.kind,.string ⟨c.name.toArray⟩,.int .i64 c.vs,.int .i64 c.vn,.string ⟨c.vt.toArray⟩,.slice A1 n1 p1]) w1 (by omega) (by omega) (Gv.out.below hb1).all IX.out hg)
 obtain ⟨T,hT'⟩ : ∃ T,ik c = T:=⟨_,rfl⟩
 unfold wW at dP
 rw [hT'] at dP HR hlen
 rw [← hn1] at HR
 have HW:=zH hW
 clear hT' hv hk hf hg hm hm2 hk' hn1 hW Gv ih
 have hn : n = [110,111,116] ∨ n = [110,101,103] ∨ n = [35]:=by simpa [lone] using hl
 clear hl
 have hWs : W.heap.size = w.heap.size + 1:=by rw [← HW.out]; simp
 obtain ⟨W2,hW2⟩ : ∃ W2,W.alloc (.cells #[.int .i64 c.kind,.string ⟨c.name.toArray⟩,.int .i64 c.vs,.int .i64 c.vn,.string ⟨c.vt.toArray⟩,.slice A1 n1 p1] 52) = W2:=⟨_,rfl⟩
 have hb2 : Below w.heap.size w W2:=by rw [← hW2]; exact hba.alloc (by omega) _
 have DT : Hid (W2.cell? ⟨w.heap.size,1,none⟩ = some (.string ⟨n.toArray⟩)):=by
  show _ = _
  rw [← hW2]
  exact ae HB.out.c1 ((Below.refl _ _).alloc (Nat.le_refl _) _)
 have HE2 : Hid (W2.cell? ⟨w.heap.size + 1,5,none⟩ = some (.slice A1 n1 p1)):=by
  show _ = _
  rw [← hW2,← hWs]
  simp [go_sem]
 have HW2 : Hid ((w.alloc (.cells #[.int .i64 3,.string ⟨n.toArray⟩,.int .i64 s,.int .i64 vn,.string ⟨x.toArray⟩,.slice (some ⟨b,off,none⟩) 1 cap] 52)).alloc (.cells #[.int .i64 c.kind,.string ⟨c.name.toArray⟩,.int .i64 c.vs,.int .i64 c.vn,.string ⟨c.vt.toArray⟩,.slice A1 n1 p1] 52) = W2):=by
  show _ = _
  rw [HW.out,hW2]
 clear hW2 HB hWs HW hba
 rcases hn with rfl | rfl | rfl
 ·have HR2 : Hid (R = [110,111,116,32] ++ paren (decide (n1 = 2)) T):=HR
  clear HR
  by_cases h2 : n1 = 2
  ·subst h2
   have q1 : ¬ 9223372036854775807 < 1 + T.length:=by omega
   have q2 : ¬ 9223372036854775807 < 1 + T.length + 1:=by omega
   have q3 : ¬ 9223372036854775807 < T.length + 1 + 1:=by omega
   have q4 : ¬ 9223372036854775807 < 4 + (T.length + 1 + 1):=by omega
   have q5 : ¬ 9223372036854775807 < 4 + (1 + T.length + 1):=by omega
   go_enter Tryz.func80,Tryz.ntmps80
   go_wp2_with fail
   try rw [HW2.out]
   refine (dP.out _ hb2).mono ?_
   rintro e w1 ⟨rfl,hb1⟩
   have k1:=ae DT.out hb1
   have k5:=ae HE2.out hb1
   have hb3:=chain hb2 hb1
   clear HW2 DT HE2
   go_wp2_with fail
   go_ret
   exact ⟨by rw [HR2.out]; rfl,hb3⟩
  ·have h2' : ((n1 : Int) == 2) = false:=by rw [beq_eq_false_iff_ne]; omega
   have q4 : ¬ 9223372036854775807 < 4 + T.length:=by omega
   have HD:=zH (decide_eq_false h2)
   clear h2
   go_enter Tryz.func80,Tryz.ntmps80
   go_wp2_with fail
   try rw [HW2.out]
   refine (dP.out _ hb2).mono ?_
   rintro e w1 ⟨rfl,hb1⟩
   have k1:=ae DT.out hb1
   have k5:=ae HE2.out hb1
   have hb3:=chain hb2 hb1
   clear HW2 DT HE2
   go_wp2_with fail
   go_ret
   exact ⟨by rw [HR2.out,HD.out]; rfl,hb3⟩
 ·have HR2 : Hid (R = [45,32] ++ paren (decide (n1 = 2)) T):=HR
  clear HR
  by_cases h2 : n1 = 2
  ·subst h2
   have q1 : ¬ 9223372036854775807 < 1 + T.length:=by omega
   have q2 : ¬ 9223372036854775807 < 1 + T.length + 1:=by omega
   have q3 : ¬ 9223372036854775807 < T.length + 1 + 1:=by omega
   have q4 : ¬ 9223372036854775807 < 2 + (T.length + 1 + 1):=by omega
   have q5 : ¬ 9223372036854775807 < 2 + (1 + T.length + 1):=by omega
   go_enter Tryz.func80,Tryz.ntmps80
   go_wp2_with fail
   try rw [HW2.out]
   refine (dP.out _ hb2).mono ?_
   rintro e w1 ⟨rfl,hb1⟩
   have k1:=ae DT.out hb1
   have k5:=ae HE2.out hb1
   have hb3:=chain hb2 hb1
   clear HW2 DT HE2
   go_wp2_with fail
   go_ret
   exact ⟨by rw [HR2.out]; rfl,hb3⟩
  ·have h2' : ((n1 : Int) == 2) = false:=by rw [beq_eq_false_iff_ne]; omega
   have q4 : ¬ 9223372036854775807 < 2 + T.length:=by omega
   have HD:=zH (decide_eq_false h2)
   clear h2
   go_enter Tryz.func80,Tryz.ntmps80
   go_wp2_with fail
   try rw [HW2.out]
   refine (dP.out _ hb2).mono ?_
   rintro e w1 ⟨rfl,hb1⟩
   have k1:=ae DT.out hb1
   have k5:=ae HE2.out hb1
   have hb3:=chain hb2 hb1
   clear HW2 DT HE2
   go_wp2_with fail
   go_ret
   exact ⟨by rw [HR2.out,HD.out]; rfl,hb3⟩
 ·have HR2 : Hid (R = [35] ++ paren (decide (n1 = 2)) T):=HR
  clear HR
  by_cases h2 : n1 = 2
  ·subst h2
   have q1 : ¬ 9223372036854775807 < 1 + T.length:=by omega
   have q2 : ¬ 9223372036854775807 < 1 + T.length + 1:=by omega
   have q3 : ¬ 9223372036854775807 < T.length + 1 + 1:=by omega
   have q4 : ¬ 9223372036854775807 < 1 + (T.length + 1 + 1):=by omega
   have q5 : ¬ 9223372036854775807 < 1 + (1 + T.length + 1):=by omega
   go_enter Tryz.func80,Tryz.ntmps80
   go_wp2_with fail
   try rw [HW2.out]
   refine (dP.out _ hb2).mono ?_
   rintro e w1 ⟨rfl,hb1⟩
   have k1:=ae DT.out hb1
   have k5:=ae HE2.out hb1
   have hb3:=chain hb2 hb1
   clear HW2 DT HE2
   go_wp2_with fail
   go_ret
   exact ⟨by rw [HR2.out]; rfl,hb3⟩
  ·have h2' : ((n1 : Int) == 2) = false:=by rw [beq_eq_false_iff_ne]; omega
   have q4 : ¬ 9223372036854775807 < 1 + T.length:=by omega
   have HD:=zH (decide_eq_false h2)
   clear h2
   go_enter Tryz.func80,Tryz.ntmps80
   go_wp2_with fail
   try rw [HW2.out]
   refine (dP.out _ hb2).mono ?_
   rintro e w1 ⟨rfl,hb1⟩
   have k1:=ae DT.out hb1
   have k5:=ae HE2.out hb1
   have hb3:=chain hb2 hb1
   clear HW2 DT HE2
   go_wp2_with fail
   go_ret
   exact ⟨by rw [HR2.out,HD.out]; rfl,hb3⟩
theorem FY (m : Nat) (ih : Sm m) (t : Ex) (v : Value) (a : Int) (w : World) (hm : gZ t ≤ m) (hm2 : gZ t ≤ 1000) (hv : uy All w v t) (hf : bI 1048576 t) (hg : rQ t) :
  Calls Tryz.prog 112 #[v,.int .i64 a] w fun e w' => e = .returned (.string ⟨(qB a t).toArray⟩) ∧ Below w.heap.size w w':=by
 have HZ:=zH hv
 obtain ⟨A,L,cap,rfl,hk⟩:=hv.one'
 have xC : L = t.kids.length:=by obtain ⟨A',c',e,-,-⟩:=hk; injection e
 have hlen : (ik t).length ≤ 4000000000:=by have h1:=qo t hf; omega
 obtain ⟨T,hT⟩ : ∃ T,ik t = T:=⟨_,rfl⟩
 obtain ⟨R,hR⟩ : ∃ R,qB a t = R:=⟨_,rfl⟩
 have HR : Hid (R = paren (decide (L = 2 ∧ level t.name < a)) T):=by
  show _ = _
  rw [← hR,xC,← hT]
  rfl
 rw [hR]
 obtain ⟨W,hW⟩ : ∃ W,w.alloc (.cells #[.int .i64 t.kind,.string ⟨t.name.toArray⟩,.int .i64 t.vs,.int .i64 t.vn,.string ⟨t.vt.toArray⟩,.slice A L cap] 52) = W:=⟨_,rfl⟩
 have hbx : Hid (jf W w.heap.size t (.slice A L cap)):=by subst hW; exact pG w t (.slice A L cap) 52
 have hb0 : Below w.heap.size w W:=by subst hW; exact (Below.refl _ _).alloc (Nat.le_refl _) _
 have dP:=ih t (.agg #[.int .i64 t.kind,.string ⟨t.name.toArray⟩,.int .i64 t.vs,.int .i64 t.vn,.string ⟨t.vt.toArray⟩,.slice A L cap]) W hm hm2 (HZ.out.below hb0) hf hg
 unfold wW at dP
 rw [hT] at dP hlen
 have HC:=zH dP
 have HW:=zH hW
 obtain ⟨nm,hnm⟩ : ∃ nm,t.name = nm:=⟨_,rfl⟩
 clear dP hR hT hv hk hf hg hm hm2 xC HZ ih hW
 have q1 : ¬ 9223372036854775807 < 1 + T.length:=by omega
 have q2 : ¬ 9223372036854775807 < 1 + T.length + 1:=by omega
 have q3 : ¬ 9223372036854775807 < T.length + 1 + 1:=by omega
 obtain ⟨LV,Qd⟩ : ∃ LV,level t.name = LV:=⟨_,rfl⟩
 have ES:=zH (uT t.name)
 rw [Qd] at ES HR
 clear Qd hnm
 by_cases h2 : L = 2
 ·subst h2
  by_cases hl : LV < a
  ·have HRR : Hid (R = 40 :: (T ++ [41])):=by
    show _ = _
    rw [HR.out,decide_eq_true ⟨rfl,hl⟩]
    rfl
   clear HR
   go_enter Tryz.func112,Tryz.ntmps112
   go_wp2_with fail
   try rw [HW.out]
   refine HC.out.mono ?_
   rintro e w1 ⟨rfl,hb1⟩
   obtain ⟨b0,b1,b2,b3,b4,b5,b6,b7⟩:=hbx.out.keep hb1 hbx.out.lt
   have hb3:=chain hb0 hb1
   clear HW
   go_wp2_with fail
   refine (ES.out _).mono ?_
   rintro e w2 ⟨rfl,hb2⟩
   go_wp2_with fail
   go_ret
   exact ⟨by rw [HRR.out]; rfl,chain hb3 hb2⟩
  ·have HRR : Hid (R = T):=by
    show _ = _
    rw [HR.out,decide_eq_false (fun h => hl h.2)]
    rfl
   clear HR
   go_enter Tryz.func112,Tryz.ntmps112
   go_wp2_with fail
   try rw [HW.out]
   refine HC.out.mono ?_
   rintro e w1 ⟨rfl,hb1⟩
   obtain ⟨b0,b1,b2,b3,b4,b5,b6,b7⟩:=hbx.out.keep hb1 hbx.out.lt
   have hb3:=chain hb0 hb1
   clear HW
   go_wp2_with fail
   refine (ES.out _).mono ?_
   rintro e w2 ⟨rfl,hb2⟩
   go_wp2_with fail
   go_ret
   exact ⟨by rw [HRR.out]; rfl,chain hb3 hb2⟩
 ·have h2' : ((L : Int) == 2) = false:=by rw [beq_eq_false_iff_ne]; omega
  have HRR : Hid (R = T):=by
   show _ = _
   rw [HR.out,decide_eq_false (fun h => h2 h.1)]
   rfl
  clear HR
  clear h2
  go_enter Tryz.func112,Tryz.ntmps112
  go_wp2_with fail
  try rw [HW.out]
  refine HC.out.mono ?_
  rintro e w1 ⟨rfl,hb1⟩
  obtain ⟨b0,b1,b2,b3,b4,b5,b6,b7⟩:=hbx.out.keep hb1 hbx.out.lt
  have hb3:=chain hb0 hb1
  clear HW
  go_wp2_with fail
  go_ret
  exact ⟨by rw [HRR.out]; rfl,hb3⟩
theorem xtext_two (m : Nat) (ih : Sm m) (n : Str) (s vn : Int) (x : Str) (c d : Ex) (v : Value) (w : World) (hm : gZ (.mk 3 n s vn x [c,d]) ≤ m + 1) (hm2 : gZ (.mk 3 n s vn x [c,d]) ≤ 1000) (hv : uy All w v (.mk 3 n s vn x [c,d])) (hf : bI 1048576 (.mk 3 n s vn x [c,d])) (hl : 0 < level n) (hg : rQ c) (hg' : rQ d) : wW (.mk 3 n s vn x [c,d]) v w:=by
 unfold wW
 obtain ⟨R,hR⟩ : ∃ R,ik (.mk 3 n s vn x [c,d]) = R:=⟨_,rfl⟩
 have HR : Hid (R = qB (level n) c ++ ([32] ++ n ++ [32]) ++ qB (level n + 1) d):=by
  show _ = _
  rw [← hR]
  simp [qB,ik]
 rw [hR]
 clear hR
 simp only [gZ,oO,Nat.add_zero] at hm hm2
 obtain ⟨A,L,cap,rfl,hk⟩:=hv.one'
 simp only [Ex.aN,Ex.aI,Ex.yL,Ex.yK,Ex.yM,Ex.aK] at hk ⊢
 obtain ⟨hL,-,b,off,A1,n1,p1,rfl,-,y0,y1,y2,y3,y4,y5,hk'⟩:=pF hk (show [c,d][0]? = some c from rfl)
 obtain ⟨-,-,b2,JF,A2,n2,p2,e2,-,z0,z1,z2,z3,z4,z5,hk2⟩:=pF hk (show [c,d][1]? = some d from rfl)
 injection e2 with e2
 injection e2 with e3 e4
 subst e3 e4
 simp only [Nat.zero_mul,Nat.one_mul,Nat.add_zero,List.length_cons,List.length_nil,Nat.zero_add] at y0 y1 y2 y3 y4 y5 z0 z1 z2 z3 z4 z5 hL
 subst hL
 have hbl:=cell_lt y0
 have hfp:=hf.parts
 simp only [Ex.aI,Ex.aK] at hfp
 have hnl:=hfp.2.1
 have IX:=zH (hfp.2.2.2.2.2.2 c (by simp))
 have Gt:=zH (hfp.2.2.2.2.2.2 d (by simp))
 obtain ⟨W,hW⟩ : ∃ W,w.alloc (.cells #[.int .i64 3,.string ⟨n.toArray⟩,.int .i64 s,.int .i64 vn,.string ⟨x.toArray⟩,.slice (some ⟨b,off,none⟩) 2 cap] 52) = W:=⟨_,rfl⟩
 have hba : Below w.heap.size w W:=by rw [← hW]; go_grown
 have HB : Hid (jf W w.heap.size (.mk 3 n s vn x [c,d]) (.slice (some ⟨b,off,none⟩) 2 cap)):=by
  show jf _ _ _ _
  rw [← hW]
  exact pG w (.mk 3 n s vn x [c,d]) _ _
 have HW:=zH hW
 have hlv:=wF n
 have O7 : Hid (∀ w1,Below w.heap.size w w1 → Calls Tryz.prog 112 #[(.agg #[.int .i64 c.kind,.string ⟨c.name.toArray⟩,.int .i64 c.vs,.int .i64 c.vn,.string ⟨c.vt.toArray⟩,.slice A1 n1 p1]),.int .i64 (level n)] w1 fun e w' => e = .returned (.string ⟨(qB (level n) c).toArray⟩) ∧ Below w1.heap.size w1 w'):=zH (fun w1 hb1 => FY m ih c _ (level n) w1 (by omega) (by omega) ((rD hk').keep (Same.below hb1) (fun _ _ _ => trivial)) IX.out hg)
 have RY : Hid (∀ w1,Below w.heap.size w w1 → Calls Tryz.prog 112 #[(.agg #[.int .i64 d.kind,.string ⟨d.name.toArray⟩,.int .i64 d.vs,.int .i64 d.vn,.string ⟨d.vt.toArray⟩,.slice A2 n2 p2]),.int .i64 (level n + 1)] w1 fun e w' => e = .returned (.string ⟨(qB (level n + 1) d).toArray⟩) ∧ Below w1.heap.size w1 w'):=zH (fun w1 hb1 => FY m ih d _ (level n + 1) w1 (by omega) (by omega) ((rD hk2).keep (Same.below hb1) (fun _ _ _ => trivial)) Gt.out hg')
 have hlen : (qB (level n) c).length ≤ 4000000000 ∧ (qB (level n + 1) d).length ≤ 4000000000:=by
  have h1:=qo c IX.out
  have h2:=qW (decide (c.kids.length = 2 ∧ level c.name < level n)) (ik c)
  have h3:=qo d Gt.out
  have h4:=qW (decide (d.kids.length = 2 ∧ level d.name < level n + 1)) (ik d)
  unfold qB
  omega
 obtain ⟨T1,hT1⟩ : ∃ T,qB (level n) c = T:=⟨_,rfl⟩
 obtain ⟨T2,hT2⟩ : ∃ T,qB (level n + 1) d = T:=⟨_,rfl⟩
 rw [hT1] at O7 HR hlen
 rw [hT2] at RY HR hlen
 obtain ⟨hl1,hl2⟩:=hlen
 have TB : Hid (IntKind.i64.wrap (level n + 1) = level n + 1):=zH (by simp [IntKind.wrap,IntKind.bits,IntKind.signed]; omega)
 have ES:=zH (uT n)
 clear hT1 hT2 hv hk hf hg hg' hm hm2 hk' hk2 hfp ih hW
 go_enter Tryz.func80,Tryz.ntmps80
 go_wp2_with fail
 try rw [HW.out]
 refine (ES.out _).mono ?_
 rintro e w1 ⟨rfl,hb1⟩
 obtain ⟨k0,k1,k2,k3,k4,k5,k6,k7⟩:=HB.out.keep hb1 HB.out.lt
 simp only [Ex.aN,Ex.aI,Ex.yL,Ex.yK,Ex.yM] at k0 k1 k2 k3 k4 k5
 have hb3:=chain hba hb1
 clear HW
 have r0:=ae y0 hb3
 have u0:=ae z0 hb3
 have r1:=ae y1 hb3
 have u1:=ae z1 hb3
 have r2:=ae y2 hb3
 have u2:=ae z2 hb3
 have r3:=ae y3 hb3
 have u3:=ae z3 hb3
 have r4:=ae y4 hb3
 have u4:=ae z4 hb3
 have r5:=ae y5 hb3
 have u5:=ae z5 hb3
 have hS : ∀ w' : World,Below w1.heap.size w1 w' → (fun w' : World => w'.cell? ⟨w.heap.size,1,none⟩ = some (.string ⟨n.toArray⟩) ∧ w'.cell? ⟨w.heap.size,5,none⟩ = some (.slice (some ⟨b,off,none⟩) 2 cap) ∧ w'.cell? ⟨b,off,none⟩ = some (.int .i64 c.kind) ∧ w'.cell? ⟨b,off + 1,none⟩ = some (.string ⟨c.name.toArray⟩) ∧ w'.cell? ⟨b,off + 2,none⟩ = some (.int .i64 c.vs) ∧ w'.cell? ⟨b,off + 3,none⟩ = some (.int .i64 c.vn) ∧ w'.cell? ⟨b,off + 4,none⟩ = some (.string ⟨c.vt.toArray⟩) ∧ w'.cell? ⟨b,off + 5,none⟩ = some (.slice A1 n1 p1) ∧ w'.cell? ⟨b,off + 6,none⟩ = some (.int .i64 d.kind) ∧ w'.cell? ⟨b,off + 6 + 1,none⟩ = some (.string ⟨d.name.toArray⟩) ∧ w'.cell? ⟨b,off + 6 + 2,none⟩ = some (.int .i64 d.vs) ∧ w'.cell? ⟨b,off + 6 + 3,none⟩ = some (.int .i64 d.vn) ∧ w'.cell? ⟨b,off + 6 + 4,none⟩ = some (.string ⟨d.vt.toArray⟩) ∧ w'.cell? ⟨b,off + 6 + 5,none⟩ = some (.slice A2 n2 p2)) w':=fun w' h => ⟨ae k1 h,ae k5 h,ae r0 h,ae r1 h,ae r2 h,ae r3 h,ae r4 h,ae r5 h,ae u0 h,ae u1 h,ae u2 h,ae u3 h,ae u4 h,ae u5 h⟩
 have bC:=zH (hS w1.drew (Below.refl _ _).drew)
 have jE:=zH hS
 clear hS
 go_wp2_with fail
 refine aC 21 (fun w' : World => w'.cell? ⟨w.heap.size,1,none⟩ = some (.string ⟨n.toArray⟩) ∧ w'.cell? ⟨w.heap.size,5,none⟩ = some (.slice (some ⟨b,off,none⟩) 2 cap) ∧ w'.cell? ⟨b,off,none⟩ = some (.int .i64 c.kind) ∧ w'.cell? ⟨b,off + 1,none⟩ = some (.string ⟨c.name.toArray⟩) ∧ w'.cell? ⟨b,off + 2,none⟩ = some (.int .i64 c.vs) ∧ w'.cell? ⟨b,off + 3,none⟩ = some (.int .i64 c.vn) ∧ w'.cell? ⟨b,off + 4,none⟩ = some (.string ⟨c.vt.toArray⟩) ∧ w'.cell? ⟨b,off + 5,none⟩ = some (.slice A1 n1 p1) ∧ w'.cell? ⟨b,off + 6,none⟩ = some (.int .i64 d.kind) ∧ w'.cell? ⟨b,off + 6 + 1,none⟩ = some (.string ⟨d.name.toArray⟩) ∧ w'.cell? ⟨b,off + 6 + 2,none⟩ = some (.int .i64 d.vs) ∧ w'.cell? ⟨b,off + 6 + 3,none⟩ = some (.int .i64 d.vn) ∧ w'.cell? ⟨b,off + 6 + 4,none⟩ = some (.string ⟨d.vt.toArray⟩) ∧ w'.cell? ⟨b,off + 6 + 5,none⟩ = some (.slice A2 n2 p2)) (by kernel_rfl) ?_
 refine zT 0 ?_ rfl (Or.inl ⟨by rfl,?_⟩) bC.out ?_
 rotate_left
 ·(intro wq hSw; obtain ⟨_,_,_,_,_,_,_,_,_,_,_,_,_,_⟩:=hSw; go_simp; all_goals first | with_reducible rfl | rw [zI])
 simp only [zA,zB,zC,Act.put,zD,zE,zF]
 refine zT 1 ?_ rfl (Or.inl ⟨by rfl,?_⟩) bC.out ?_
 rotate_left
 ·(intro wq hSw; obtain ⟨_,_,_,_,_,_,_,_,_,_,_,_,_,_⟩:=hSw; go_simp; all_goals first | with_reducible rfl | rw [zI])
 simp only [zA,zB,zC,Act.put,zD,zE,zF]
 refine zT 2 ?_ rfl (Or.inl ⟨by rfl,?_⟩) bC.out ?_
 rotate_left
 ·(intro wq hSw; obtain ⟨_,_,_,_,_,_,_,_,_,_,_,_,_,_⟩:=hSw; go_simp; all_goals first | with_reducible rfl | rw [zI])
 simp only [zA,zB,zC,Act.put,zD,zE,zF]
 refine zT 3 ?_ rfl (Or.inl ⟨by rfl,?_⟩) bC.out ?_
 rotate_left
 ·(intro wq hSw; obtain ⟨_,_,_,_,_,_,_,_,_,_,_,_,_,_⟩:=hSw; go_simp; all_goals first | with_reducible rfl | rw [zI])
 simp only [zA,zB,zC,Act.put,zD,zE,zF]
 refine zT 4 ?_ rfl (Or.inl ⟨by rfl,?_⟩) bC.out ?_
 rotate_left
 ·(intro wq hSw; obtain ⟨_,_,_,_,_,_,_,_,_,_,_,_,_,_⟩:=hSw; go_simp; all_goals first | with_reducible rfl | rw [zI])
 simp only [zA,zB,zC,Act.put,zD,zE,zF]
 refine zT 5 ?_ rfl (Or.inl ⟨by rfl,?_⟩) bC.out ?_
 rotate_left
 ·(intro wq hSw; obtain ⟨_,_,_,_,_,_,_,_,_,_,_,_,_,_⟩:=hSw; go_simp; all_goals first | with_reducible rfl | rw [zI])
 simp only [zA,zB,zC,Act.put,zD,zE,zF]
 refine zT 8 ?_ rfl (Or.inl ⟨by rfl,?_⟩) bC.out ?_
 rotate_left
 ·(intro wq hSw; obtain ⟨_,_,_,_,_,_,_,_,_,_,_,_,_,_⟩:=hSw; go_simp; all_goals first | with_reducible rfl | rw [zI])
 simp only [zA,zB,zC,Act.put,zD,zE,zF]
 refine zT 9 ?_ rfl (Or.inl ⟨by rfl,?_⟩) bC.out ?_
 rotate_left
 ·(intro wq hSw; obtain ⟨_,_,_,_,_,_,_,_,_,_,_,_,_,_⟩:=hSw; go_simp; all_goals first | with_reducible rfl | rw [zI])
 simp only [zA,zB,zC,Act.put,zD,zE,zF]
 refine zT 12 ?_ rfl (Or.inl ⟨by rfl,?_⟩) bC.out ?_
 rotate_left
 ·(intro wq hSw; obtain ⟨_,_,_,_,_,_,_,_,_,_,_,_,_,_⟩:=hSw; go_simp; all_goals first | with_reducible rfl | rw [zI])
 simp only [zA,zB,zC,Act.put,zD,zE,zF]
 refine zT 13 ?_ rfl (Or.inl ⟨by rfl,?_⟩) bC.out ?_
 rotate_left
 ·(intro wq hSw; obtain ⟨_,_,_,_,_,_,_,_,_,_,_,_,_,_⟩:=hSw; go_simp; all_goals first | with_reducible rfl | rw [zI])
 simp only [zA,zB,zC,Act.put,zD,zE,zF]
 refine zT 14 ?_ rfl (Or.inl ⟨by rfl,?_⟩) bC.out ?_
 rotate_left
 ·(intro wq hSw; obtain ⟨_,_,_,_,_,_,_,_,_,_,_,_,_,_⟩:=hSw; go_simp; all_goals first | with_reducible rfl | rw [zI])
 simp only [zA,zB,zC,Act.put,zD,zE,zF]
 refine zT 15 ?_ rfl (Or.inl ⟨by rfl,?_⟩) bC.out ?_
 rotate_left
 ·(intro wq hSw; obtain ⟨_,_,_,_,_,_,_,_,_,_,_,_,_,_⟩:=hSw; go_simp; all_goals first | with_reducible rfl | rw [zI])
 simp only [zA,zB,zC,Act.put,zD,zE,zF]
 refine zT 16 ?_ rfl (Or.inl ⟨by rfl,?_⟩) bC.out ?_
 rotate_left
 ·(intro wq hSw; obtain ⟨_,_,_,_,_,_,_,_,_,_,_,_,_,_⟩:=hSw; go_simp; all_goals first | with_reducible rfl | rw [zI])
 simp only [zA,zB,zC,Act.put,zD,zE,zF]
 refine zT 17 ?_ rfl (Or.inl ⟨by rfl,?_⟩) bC.out ?_
 rotate_left
 ·(intro wq hSw; obtain ⟨_,_,_,_,_,_,_,_,_,_,_,_,_,_⟩:=hSw; go_simp; all_goals first | with_reducible rfl | rw [zI])
 simp only [zA,zB,zC,Act.put,zD,zE,zF]
 refine zT 18 ?_ rfl (Or.inl ⟨by rfl,?_⟩) bC.out ?_
 rotate_left
 ·(intro wq hSw; obtain ⟨_,_,_,_,_,_,_,_,_,_,_,_,_,_⟩:=hSw; go_simp; all_goals first | with_reducible rfl | rw [zI])
 simp only [zA,zB,zC,Act.put,zD,zE,zF]
 refine zO 6 fun K hK => ?_
 go_simp
 refine (O7.out _ hb3.drew).mono ?_
 rintro e w2 ⟨rfl,hq⟩
 have hb4:=chain (Below.refl w1.heap.size w1).drew hq
 clear hq
 refine hK.out _ _ (fun _ => jE.out _ hb4) ?_
 clear hK K
 try simp only [zA,zB,zC,Act.put,zD,zE,zF]
 refine zT 7 ?_ rfl (Or.inl ⟨by rfl,?_⟩) (jE.out _ hb4) ?_
 rotate_left
 ·(intro wq hSw; obtain ⟨_,_,_,_,_,_,_,_,_,_,_,_,_,_⟩:=hSw; go_simp; all_goals first | with_reducible rfl | rw [zI])
 simp only [zA,zB,zC,Act.put,zD,zE,zF]
 refine zT 10 ?_ rfl (Or.inl ⟨by rfl,?_⟩) (jE.out _ hb4) ?_
 rotate_left
 ·(intro wq hSw; obtain ⟨_,_,_,_,_,_,_,_,_,_,_,_,_,_⟩:=hSw; go_simp; all_goals first | with_reducible rfl | rw [zI])
 simp only [zA,zB,zC,Act.put,zD,zE,zF]
 refine zT 11 ?_ rfl (Or.inl ⟨by rfl,?_⟩) (jE.out _ hb4) ?_
 rotate_left
 ·(intro wq hSw; obtain ⟨_,_,_,_,_,_,_,_,_,_,_,_,_,_⟩:=hSw; go_simp; all_goals first | with_reducible rfl | rw [zI])
 simp only [zA,zB,zC,Act.put,zD,zE,zF]
 refine zO 19 fun K hK => ?_
 go_simp
 rw [TB.out]
 refine (RY.out w2 (chain hb3 hb4)).mono ?_
 rintro e w3 ⟨rfl,hq⟩
 have hb5:=chain hb4 hq
 clear hq
 refine hK.out _ _ (fun _ => jE.out _ hb5) ?_
 clear hK K
 try simp only [zA,zB,zC,Act.put,zD,zE,zF]
 refine zT 20 ?_ rfl (Or.inl ⟨by rfl,?_⟩) (jE.out _ hb5) ?_
 rotate_left
 ·(intro wq hSw; obtain ⟨_,_,_,_,_,_,_,_,_,_,_,_,_,_⟩:=hSw; go_simp; all_goals first | with_reducible rfl | rw [zI])
 simp only [zA,zB,zC,Act.put,zD,zE,zF]
 refine zO 21 fun K hK => ?_
 go_simp
 refine hK.out _ _ (fun h => absurd h (by decide)) ?_
 clear hK K
 try simp only [zA,zB,zC,Act.put,zD,zE,zF]
 refine bf (by kernel_rfl) ?_
 go_wp2_with fail
 go_ret
 exact ⟨by rw [HR.out]; simp,chain hb3 hb5⟩
theorem xtext_any : ∀ (m : Nat),Sm m:=by
 intro m
 induction m with
 | zero => intro t v w h; cases t; simp only [gZ] at h; omega
 | succ m ih =>
 intro t v w hm hm2 hv hf hg
 rcases CP hg with ⟨s,vn,x,rfl,hc⟩ | ⟨n,s,vn,x,rfl⟩ | ⟨n,s,vn,x,c,rfl,hl,h1⟩ | ⟨n,s,vn,x,c,d,rfl,hl,h1,h2⟩
 ·exact xtext_lit s vn x v w hv hf hc
 ·exact xtext_name n s vn x v w hv
 ·exact xtext_one m ih n s vn x c v w hm hm2 hv hf hl h1
 ·exact xtext_two m ih n s vn x c d v w hm hm2 hv hf hl h1 h2
noncomputable def BI : Code:=bH (bH (Tryz.f47.body.getD .skip))
noncomputable def mY : Code:=bH (bH (bH BI))
structure Sl (w wz : World) (b : Nat) (p : Pr) (v v1 v2 v3 v4 v5 v6 v7 : Value) : Prop where
 bx : nK wz b p v1 v2 v3 v4 v5 v6 v7
 bl : Below w.heap.size w wz
 pv : zn All wz v p
theorem Sl.next {w w1 w2 : World} {b : Nat} {p : Pr} {v v1 v2 v3 v4 v5 v6 v7 : Value} (h : Sl w w1 b p v v1 v2 v3 v4 v5 v6 v7) (hb : Below w1.heap.size w1 w2) : Sl w w2 b p v v1 v2 v3 v4 v5 v6 v7 :=
 ⟨h.bx.kept hb,chain h.bl hb,h.pv.below hb⟩
abbrev GH (kind : Int) (chan name label : Str) (xk : Int) (xn : Str) (xs xv : Int) (xt : Str) (af exprs : List Ex) (names : List Str) (tk ts : Int) (tn : Str) (tl : List Str) (ag : List Ty) (labels : List Str) (kids : List Pr) (A1 : Option Addr) (n1 c1 : Nat) (A2 : Option Addr) (n2 c2 : Nat) (A3 : Option Addr) (n3 c3 : Nat) (A4 : Option Addr) (n4 c4 : Nat) (A5 : Option Addr) (n5 c5 : Nat) (A6 : Option Addr) (n6 c6 : Nat) (A7 : Option Addr) (n7 c7 : Nat) (w wz : World) (b : Nat) : Prop:=Sl w wz b (.mk kind chan name label xk xn xs xv xt af exprs names tk ts tn tl ag labels kids) (.agg #[.int .i64 kind,.string ⟨chan.toArray⟩,.string ⟨name.toArray⟩,.string ⟨label.toArray⟩,.int .i64 xk,.string ⟨xn.toArray⟩,.int .i64 xs,.int .i64 xv,.string ⟨xt.toArray⟩,.slice A1 n1 c1,.slice A2 n2 c2,.slice A3 n3 c3,.int .i64 tk,.int .i64 ts,.string ⟨tn.toArray⟩,.slice A4 n4 c4,.slice A5 n5 c5,.slice A6 n6 c6,.slice A7 n7 c7]) (.slice A1 n1 c1) (.slice A2 n2 c2) (.slice A3 n3 c3) (.slice A4 n4 c4) (.slice A5 n5 c5) (.slice A6 n6 c6) (.slice A7 n7 c7)
def Jf (t : Pr) (v : Value) (w : World) : Prop:=Calls Tryz.prog 47 #[v] w fun e w' => e = .returned (.string ⟨(lC t).toArray⟩) ∧ Below w.heap.size w w'
abbrev P5 (m : Nat) : Prop:=∀ (t : Pr) (v : Value) (w : World),bG t ≤ m → bG t ≤ 200 → zn All w v t → bF 1048576 t → pq t → Jf t v w
theorem yh {p : Pr} (h : nU p = 0) (hf : (jw p.kind p.labels.length).chan = false) : p.chan = []:=by
 unfold nU at h
 split at h
 ·rename_i hok
  unfold zh at hok
  simp only [Bool.and_eq_true,decide_eq_true_eq] at hok
  have:=qw hok.2.2.1 hf
  simpa using this
 ·simp at h
theorem vI (t : Ex) (v : Value) (w : World) {D : aj} (hv : uy D w v t) (hf : bI 1048576 t) (hE : lF t = 0) :
  Calls Tryz.prog 80 #[v] w fun e w' => e = .returned (.string ⟨(ik t).toArray⟩) ∧ Below w.heap.size w w' :=
 xtext_any (gZ t) t v w (Nat.le_refl _) (by have:=Ar hE; omega) hv.all hf (CO t 60 hE)
theorem Dx (t : Ty) (v : Value) (w : World) (hv : ny w v t) (hE : pg t = 0) :
  Calls Tryz.prog 28 #[v] w fun e w' => e = .returned (.string ⟨(txt t).toArray⟩) ∧ Below w.heap.size w w' :=
 refText_any (parts t) t v w (Nat.le_refl _) (Di hE) hv (vN t [] 60 hE)
theorem qx {w : World} {base : Nat} {E : TypeId} {A : Option Addr} {n cap : Nat} {xs : List Value} (h : w.ownsRow base E 1 (.slice A n cap) n xs) (j : Nat) (hj : j < n) (u : Value) :
  ∃ g,A = some ⟨g,0,none⟩ ∧ base ≤ g ∧ g < w.heap.size ∧ w.frozen? ⟨g,j,none⟩ = false ∧ (∀ i x,xs[i]? = some x → w.cell? ⟨g,i,none⟩ = some x) ∧ (w.setCell ⟨g,j,none⟩ u).ownsRow base E 1 (.slice A n cap) n (xs.set j u):=by
 have hcells:=fun g => h.cells (g:=g)
 obtain ⟨h1,h2⟩:=h
 rcases h2 with ⟨e,h0⟩ | ⟨g,cap',cur,e,hg,hh,hn,hm,hs,ht⟩
 ·omega
 ·injection e with e1 e2 e3
  subst e1 e3
  have hlt:=lt_of_block hh
  have h' : w.heap[g] = .cells cur E (0,0):=by simpa [Array.getElem?_eq_getElem hlt] using hh
  refine ⟨g,rfl,hg,hlt,by simp [World.frozen?,hh],fun i x hi => ?_,by simpa using h1,Or.inr ⟨g,cap,cur.setIfInBounds j u,rfl,hg,?_,hn,hm,by simpa using hs,?_⟩⟩
  ·have:=hcells g rfl i x hi
   rwa [Go.WideShapes.add_plain,Nat.zero_add] at this
  ·show (w.heap.modify g _)[g]? = _
   rw [Array.getElem?_eq_getElem (by simpa using hlt),Array.getElem_modify_self,h']
   rfl
  ·rw [Array.toList_setIfInBounds,← ht,List.take_set]
end Go.Proofs.YtpidjanngbaiiaaGreatDoor
