/-
  PrO PrH PrSh0 Bld VlW BgN
-/
import Derived.Test.YtpidjanngbaiiaaGreatDoorM10
import Derived.Test.YtpidjanngbaiiaaGreatDoorM6
import Derived.Test.YtpidjanngbaiiaaGreatDoorM8
import Derived.Test.YtpidjanngbaiiaaGreatDoorM2
import Derived.Shelf.Strings.Builder1
import Derived.Test.YtpidjanngbaiiaaGreatDoorM5
import Derived.Lib.AppendIntMem
import Derived.Lib.ItoaMem
namespace Go.Proofs.YtpidjanngbaiiaaGreatDoor
open Go.RowKit Go.Proofs
set_option maxRecDepth 100000
set_option maxHeartbeats 32000000

theorem shape_any (p : Pr) (v : Value) (w : World) (hv : zn All w v p) (hf : bF 1048576 p) (hT : Tabs w) (hW : rW w) :
  Calls Tryz.prog 84 #[v] w fun e w' => e = .returned (.int .i64 (nU p)) ∧ Below w.heap.size w w':=by
 obtain ⟨kind,chan,name,label,xk,xn,xs,xv,xt,af,exprs,names,tk,ts,tn,tl,ag,labels,kids⟩:=p
 obtain ⟨A1,n1,c1,A2,n2,c2,A3,n3,c3,A4,n4,c4,A5,n5,c5,A6,n6,c6,A7,n7,c7,rfl,q1,q2,q3,q4,q5,q6,q7⟩:=hv.one'
 simp only [Pr.aN,Pr.aT,Pr.aI,Pr.aW,Pr.jm,Pr.jo,Pr.jq,Pr.jv,Pr.jr,Pr.aY,Pr.aV,Pr.aU,Pr.jg,Pr.ji,Pr.jh,Pr.jA,Pr.aX,Pr.aH,Pr.aK] at q1 q2 q3 q4 q5 q6 q7 ⊢
 have D7 : n6 = labels.length:=by obtain ⟨_,_,e,-⟩:=q6; injection e
 have Hu:=zH D7
 have HL2 : Hid (n2 = exprs.length):=zH (by obtain ⟨_,_,e,-⟩:=q2; injection e)
 have Hq : Hid (n3 = names.length):=zH (by obtain ⟨_,_,e,-⟩:=q3; injection e)
 have HL7 : Hid (n7 = kids.length):=zH (by obtain ⟨_,_,e,-⟩:=q7; injection e)
 have HVV:=zH hv
 have Q1:=zH q1
 have Q2:=zH q2
 have Q3:=zH q3
 have Q4:=zH q4
 have Q5:=zH q5
 have Q6:=zH q6
 have Q7:=zH q7
 obtain ⟨ANS,hA⟩ : ∃ x,nU (.mk kind chan name label xk xn xs xv xt af exprs names tk ts tn tl ag labels kids) = x:=⟨_,rfl⟩
 have HA:=zH hA
 rw [hA]
 have HF:=zH hf
 have HT:=zH hT
 have HW:=zH hW
 clear hA hf hT hW q1 q2 q3 q4 q5 q6 q7 hv D7
 have HC:=fun w => formed_cells kind chan name label xk xn xs xv xt A1 n1 c1 A2 n2 c2 A3 n3 c3 tk ts tn A4 n4 c4 A5 n5 c5 A6 n6 c6 A7 n7 c7 w
 obtain ⟨f,hf⟩ : ∃ f,jw kind n6 = f:=⟨_,rfl⟩
 rw [hf] at HC
 have MV:=zH hf
 clear hf
 obtain ⟨f0,f1,f2,f3,f4,f5,f6,f7,f8⟩:=f
 simp only [rf] at HC
 obtain ⟨IK,TP⟩ : ∃ b,isKind kind = b:=⟨_,rfl⟩
 rw [TP] at HC
 have O9:=zH TP
 clear TP
 go_enter Tryz.func84,Tryz.ntmps84
 iterate 14 (first | go_values | go_skip | go_guarded | go_step | go_upon | go_back)
 obtain ⟨W,hW⟩ : ∃ W,w.alloc (.cells #[.int .i64 kind,.string ⟨chan.toArray⟩,.string ⟨name.toArray⟩,.string ⟨label.toArray⟩,.int .i64 xk,.string ⟨xn.toArray⟩,.int .i64 xs,.int .i64 xv,.string ⟨xt.toArray⟩,.slice A1 n1 c1,.slice A2 n2 c2,.slice A3 n3 c3,.int .i64 tk,.int .i64 ts,.string ⟨tn.toArray⟩,.slice A4 n4 c4,.slice A5 n5 c5,.slice A6 n6 c6,.slice A7 n7 c7] 85) = W:=⟨_,rfl⟩
 rw [hW]
 have hbW : Below w.heap.size w W:=by subst hW; go_grown
 have hB : nK W w.heap.size (.mk kind chan name label xk xn xs xv xt af exprs names tk ts tn tl ag labels kids) (.slice A1 n1 c1) (.slice A2 n2 c2) (.slice A3 n3 c3) (.slice A4 n4 c4) (.slice A5 n5 c5) (.slice A6 n6 c6) (.slice A7 n7 c7):=by
  subst hW
  exact wG w (.mk kind chan name label xk xn xs xv xt af exprs names tk ts tn tl ag labels kids) _ _ _ _ _ _ _ 85
 clear hW
 refine uF hB rfl (.tmp 1) rfl rfl ?_
 simp only [Pr.aN,Pr.aT,Pr.aI,Pr.aW,Pr.jm,Pr.jo,Pr.jq,Pr.jv,Pr.jr,Pr.jg,Pr.ji,Pr.jh]
 go_wp2_with fail
 refine (HC _).mono ?_
 clear HC
 rintro e w1 ⟨rfl,hb1⟩
 have hB1:=hB.kept hb1
 have Js:=chain hbW hb1
 clear hB hbW
 rename_i KR D6
 have DW:=zH D6
 clear D6
 go_wp2_with fail
 refine DW.out _ _ ?_
 clear DW
 rename_i K2 h2
 have H2:=zH h2
 clear h2
 go_wp2_with fail
 obtain ⟨W2,hW2⟩ : ∃ x,w1.alloc (.cells #[.bool f0,.bool f1,.bool f2,.bool f3,.bool f4,.bool f5,.bool f6,.bool f7,.int .i64 f8] 173) = x:=⟨_,rfl⟩
 have hb2 : Below w1.heap.size w1 W2:=by subst hW2; go_grown
 have SE : Ik W2 w1.heap.size ⟨f0,f1,f2,f3,f4,f5,f6,f7,f8⟩:=by subst hW2; exact ⟨by simp [go_sem],by simp [go_sem],by simp [go_sem],by simp [go_sem],by simp [go_sem],by simp [go_sem],by simp [go_sem],by simp [go_sem],by simp [go_sem]⟩
 rw [hW2]
 clear hW2
 have hB2:=hB1.kept hb2
 have hbw2:=chain Js hb2
 have c17:=hB2.c17
 have zY:=zH hB2
 have NQ:=zH SE
 clear hB1 hB2 SE Js hb1 hb2
 generalize w1.heap.size = q at NQ ⊢
 clear w1
 refine H2.out _ _ ?_
 clear H2
 have hls : labels.length ≤ 1048576 ∧ ∀ l ∈ labels,l.length ≤ 1048576:=by
  have:=HF.out.parts
  simp only [Pr.aN,Pr.aT,Pr.aI,Pr.aW,Pr.jm,Pr.jo,Pr.jq,Pr.jv,Pr.jr,Pr.aY,Pr.aV,Pr.aU,Pr.jg,Pr.ji,Pr.jh,Pr.jA,Pr.aX,Pr.aH,Pr.aK] at this
  exact ⟨this.2.2.2.2.2.2.2.2.2.2.2.2.2.2.2.2.2.2.2.2.2.2.1,this.2.2.2.2.2.2.2.2.2.2.2.2.2.2.2.2.2.2.2.2.2.2.2.1⟩
 have Gl:=zH hls
 clear hls
 have hn6m : n6 ≤ 1048576:=by have:=Gl.out.1; have:=Hu.out; omega
 have hQ6:=Q6.out.below hbw2
 have HQ6:=zH hQ6
 clear hQ6
 have hge : decide ((1 : Int) ≤ (n6 : Int)) = decide (1 ≤ n6):=by rw [decide_eq_decide]; omega
 have HRF : ∀ {k : Nat},k ≤ n6 → True:=fun _ => trivial
 clear HRF
 have hlo : labels.length < 1 ∨ 6 < labels.length → aJ labels = false:=by
  intro h
  unfold aJ
  rcases h with h | h
  ·simp [show ¬ 1 ≤ labels.length by omega]
  ·simp [show ¬ labels.length ≤ 6 by omega]
 have Ul:=zH hlo
 clear hlo
 have nb : name.length ≤ 9223372036854775807:=by
  have:=HF.out.parts
  simp only [Pr.aN,Pr.aT,Pr.aI,Pr.aW,Pr.jm,Pr.jo,Pr.jq,Pr.jv,Pr.jr,Pr.aY,Pr.aV,Pr.aU,Pr.jg,Pr.ji,Pr.jh,Pr.jA,Pr.aX,Pr.aH,Pr.aK] at this
  have:=this.2.2.1
  omega
 go_wp2_with fail
 ·go_loopw [5,31] (fun rv i wr => ∃ (r : Bool) (k : Nat),rv = .bool r ∧ i = .int .i64 k ∧ k ≤ n6 ∧ Hid ((r = true → (1 ≤ n6 ∧ n6 ≤ 6) ∧ oq none labels = oq (prev labels k) (labels.drop k)) ∧ (r = false → aJ labels = false)) ∧ Below W2.heap.size W2 wr) (fun _ i _ => n6 - (intOf i).toNat)
  case atStart =>
   refine ⟨_,0,rfl,rfl,by omega,zH ⟨fun h => ⟨?_,by simp [prev]⟩,fun h => Ul.out ?_⟩,Below.refl _ _⟩
   ·first
     | (exact ⟨by assumption,by have:=of_decide_eq_true h; omega⟩)
     | (exact absurd h (by decide))
   ·have:=Hu.out
    first
     | (have h2:=of_decide_eq_false h; omega)
     | omega
  case round =>
   obtain ⟨r,k,rfl,rfl,hk,hf,hbw⟩:=hrel
   by_cases hlt : k < n6
   ·have hQ6:=HQ6.out
    obtain ⟨A',cap',e,hc,hr⟩:=hQ6
    injection e with e1 e2 e3
    subst e1 e3
    obtain ⟨b,off,rfl,-,hrow⟩:=hr (by have:=Hu.out; omega)
    obtain ⟨s,hs⟩ : ∃ s,labels[k]? = some s:=⟨_,List.getElem?_eq_getElem (by have:=Hu.out; omega)⟩
    have HK:=zH hs
    have hsl : s.length ≤ 9223372036854775807:=by have:=Gl.out.2 s (List.mem_of_getElem? hs); omega
    have d0 : wr.cell? ⟨b,off + k,none⟩ = some (.string ⟨s.toArray⟩):=ae (hrow k s hs) hbw
    have d17:=(zY.out.kept hbw).c17
    have HRW:=zH hrow
    have hc6 : n6 ≤ c6:=by have:=Hu.out; omega
    clear hs hrow e2 hr hc c17
    cases r with
    | false =>
     go_wp2_with fail
     go_roundw
     case rel => exact ⟨false,k + 1,rfl,by go_num,by omega,zH ⟨fun h => (by cases h),fun _ => hf.out.2 (by trivial)⟩,hbw⟩
     case measure => simp [intOf]; omega
    | true =>
     obtain ⟨B,hB⟩ : ∃ x,ah s = x:=⟨_,rfl⟩
     have HB:=zH hB; clear hB
     cases B with
     | false =>
      go_wp2_with fail
      refine (ig s _ hsl).mono ?_; rw [HB.out]; rintro e w3 ⟨rfl,hb3⟩
      go_wp2_with fail
      go_roundw
      case rel =>
       refine ⟨false,k + 1,rfl,by go_num,by omega,zH ⟨fun h => (by cases h),fun _ => ?_⟩,chain hbw hb3⟩
       have:=(hf.out.1 (by trivial)).2
       rw [rG HK.out,HB.out] at this
       simp [aJ,this]
      case measure => simp [intOf]; omega
     | true =>
      rcases Nat.eq_zero_or_pos k with h0 | h0
      ·subst h0
       simp only [Nat.add_zero] at d0
       go_wp2_with fail
       refine (ig s _ hsl).mono ?_; rw [HB.out]; rintro e w3 ⟨rfl,hb3⟩
       go_wp2_with fail
       go_roundw
       case rel =>
        refine ⟨true,1,rfl,by simp,by omega,zH ⟨fun _ => ⟨(hf.out.1 (by trivial)).1,?_⟩,fun h => by cases h⟩,chain hbw hb3⟩
        have:=(hf.out.1 (by trivial)).2
        rw [rG HK.out,HB.out] at this
        rw [this]
        simp [behind,prev]
       case measure => simp [intOf]; omega
      ·obtain ⟨q',hq⟩ : ∃ s,labels[k - 1]? = some s:=⟨_,List.getElem?_eq_getElem (by have:=Hu.out; omega)⟩
       have HQ:=zH hq
       have d1 : wr.cell? ⟨b,off + (k - 1),none⟩ = some (.string ⟨q'.toArray⟩):=ae (HRW.out (k - 1) q' hq) hbw
       have cs1 : (k : Int) - 1 = ((k - 1 : Nat) : Int):=by omega
       have k1 : ((k : Int) == 0) = false:=by rw [beq_eq_false_iff_ne]; omega
       clear hq
       go_wp2_with fail
       refine (ig s _ hsl).mono ?_; rw [HB.out]; rintro e w3 ⟨rfl,hb3⟩
       have d2:=ae d1 hb3
       have d3:=ae d17 hb3
       go_wp2_with fail
       have hpv : prev labels k = some q':=by unfold prev; rw [if_neg (by omega),HQ.out]
       have hof:=(hf.out.1 (by trivial)).2
       rw [rG HK.out,HB.out,hpv,xw,Bool.true_and] at hof
       have Uo:=zH hof
       clear hof
       refine ⟨⟨Op.bytesLess q' s,k + 1,rfl,by simp,by omega,zH ⟨fun h => ⟨(hf.out.1 (by trivial)).1,?_⟩,fun h => ?_⟩,chain hbw hb3⟩,by simp [intOf]; omega⟩
       ·rw [Uo.out,h,Bool.true_and]
       ·have:=Uo.out
        rw [h,Bool.false_and] at this
        simp [aJ,this]
   ·have hk2 : k = n6:=by omega
    subst hk2
    have HRR : Hid (aJ labels = r):=by
     refine zH ?_
     cases r with
     | false => exact hf.out.2 (by trivial)
     | true =>
      have h1:=hf.out.1 (by trivial)
      have h2:=Hu.out
      unfold aJ
      rw [h1.2,List.drop_eq_nil_of_le (by omega)]
      simp only [oq,Bool.true_and,← h2]
      simp [h1.1]
    have d0:=(zY.out.kept hbw).c0
    have d2:=(zY.out.kept hbw).c2
    simp only [Pr.aN,Pr.aI] at d0 d2
    clear c17
    obtain ⟨BN,hBN⟩ : ∃ x,ah name = x:=⟨_,rfl⟩
    have BQ:=zH hBN
    clear hBN
    cases BN with
    | false =>
     go_wp2_with fail
     refine (ig name _ nb).mono ?_; rw [BQ.out]; rintro e w3 ⟨rfl,hb3⟩
     rename_i KR D6
     have DW:=zH D6
     clear D6
     rename_i K8 h8
     have H8:=zH h8
     clear h8
     go_wp2_with fail
     refine DW.out _ _ ?_
     clear DW
     go_wp2_with fail
     refine H8.out _ _ ?_
     clear H8
     have hbf:=chain hbw hb3
     have hBx:=zY.out.kept hbf
     have hFx:=NQ.out.keep hbf
     have hbz:=chain hbw2 hbf
     refine sD kind chan name label xk xn xs xv xt af exprs names tk ts tn tl ag labels kids _ _ _ _ _ _ _ _ _ _ _ _ _ _ _ _ _ _ _ _ _ _ _ _ f0 f1 f2 f3 f4 f5 f6 f7 f8 w IK _ false hBx hFx hbz (HVV.out.below hbz) HF.out (HT.out.below hbz) ANS HA MV O9 (zH HRR.out) (zH ?_)
     show (ah name && (!decide (kind = 13) || nz name)) = _
     rw [BQ.out]; rfl
    | true =>
     by_cases h13 : kind = 13
     ·have e13 : (kind != 13) = false:=by rw [bne_eq_false_iff_eq]; exact h13
      have ND:=zH h13
      clear h13
      obtain ⟨BP,Qb⟩ : ∃ x,nz name = x:=⟨_,rfl⟩
      have Pz:=zH Qb
      clear Qb
      go_wp2_with fail
      refine (ig name _ nb).mono ?_; rw [BQ.out]; rintro e w3 ⟨rfl,hb3⟩
      have d4:=ae d0 hb3
      have d5:=ae d2 hb3
      go_wp2_with fail
      refine (rY name _ nb (HW.out.keep (chain hbw2 (chain hbw hb3)))).mono ?_; rw [Pz.out]; rintro e w4 ⟨rfl,hb4⟩
      rename_i KR D6
      have DW:=zH D6
      clear D6
      rename_i K8 h8
      have H8:=zH h8
      clear h8
      go_wp2_with fail
      refine DW.out _ _ ?_
      clear DW
      go_wp2_with fail
      refine H8.out _ _ ?_
      clear H8
      have hbf:=chain hbw (chain hb3 hb4)
      have hBx:=zY.out.kept hbf
      have hFx:=NQ.out.keep hbf
      have hbz:=chain hbw2 hbf
      refine sD kind chan name label xk xn xs xv xt af exprs names tk ts tn tl ag labels kids _ _ _ _ _ _ _ _ _ _ _ _ _ _ _ _ _ _ _ _ _ _ _ _ f0 f1 f2 f3 f4 f5 f6 f7 f8 w IK _ BP hBx hFx hbz (HVV.out.below hbz) HF.out (HT.out.below hbz) ANS HA MV O9 (zH HRR.out) (zH ?_)
      show (ah name && (!decide (kind = 13) || nz name)) = _
      rw [BQ.out,Pz.out,ND.out]; rfl
     ·have e13 : (kind != 13) = true:=by rw [bne_iff_ne]; exact h13
      have ND:=zH h13
      clear h13
      go_wp2_with fail
      refine (ig name _ nb).mono ?_; rw [BQ.out]; rintro e w3 ⟨rfl,hb3⟩
      have d4:=ae d0 hb3
      rename_i KR D6
      have DW:=zH D6
      clear D6
      rename_i K8 h8
      have H8:=zH h8
      clear h8
      go_wp2_with fail
      refine DW.out _ _ ?_
      clear DW
      go_wp2_with fail
      refine H8.out _ _ ?_
      clear H8
      have hbf:=chain hbw hb3
      have hBx:=zY.out.kept hbf
      have hFx:=NQ.out.keep hbf
      have hbz:=chain hbw2 hbf
      refine sD kind chan name label xk xn xs xv xt af exprs names tk ts tn tl ag labels kids _ _ _ _ _ _ _ _ _ _ _ _ _ _ _ _ _ _ _ _ _ _ _ _ f0 f1 f2 f3 f4 f5 f6 f7 f8 w IK _ true hBx hFx hbz (HVV.out.below hbz) HF.out (HT.out.below hbz) ANS HA MV O9 (zH HRR.out) (zH ?_)
      show (ah name && (!decide (kind = 13) || nz name)) = _
      rw [BQ.out,decide_eq_false ND.out]; rfl
 ·go_loopw [5,31] (fun rv i wr => ∃ (r : Bool) (k : Nat),rv = .bool r ∧ i = .int .i64 k ∧ k ≤ n6 ∧ Hid ((r = true → (1 ≤ n6 ∧ n6 ≤ 6) ∧ oq none labels = oq (prev labels k) (labels.drop k)) ∧ (r = false → aJ labels = false)) ∧ Below W2.heap.size W2 wr) (fun _ i _ => n6 - (intOf i).toNat)
  case atStart =>
   refine ⟨_,0,rfl,rfl,by omega,zH ⟨fun h => ⟨?_,by simp [prev]⟩,fun h => Ul.out ?_⟩,Below.refl _ _⟩
   ·first
     | (exact ⟨by assumption,by have:=of_decide_eq_true h; omega⟩)
     | (exact absurd h (by decide))
   ·have:=Hu.out
    first
     | (have h2:=of_decide_eq_false h; omega)
     | omega
  case round =>
   obtain ⟨r,k,rfl,rfl,hk,hf,hbw⟩:=hrel
   by_cases hlt : k < n6
   ·exfalso; omega
   ·have hk2 : k = n6:=by omega
    subst hk2
    have HRR : Hid (aJ labels = r):=by
     refine zH ?_
     cases r with
     | false => exact hf.out.2 (by trivial)
     | true =>
      have h1:=hf.out.1 (by trivial)
      have h2:=Hu.out
      unfold aJ
      rw [h1.2,List.drop_eq_nil_of_le (by omega)]
      simp only [oq,Bool.true_and,← h2]
      simp [h1.1]
    have d0:=(zY.out.kept hbw).c0
    have d2:=(zY.out.kept hbw).c2
    simp only [Pr.aN,Pr.aI] at d0 d2
    clear c17
    obtain ⟨BN,hBN⟩ : ∃ x,ah name = x:=⟨_,rfl⟩
    have BQ:=zH hBN
    clear hBN
    cases BN with
    | false =>
     go_wp2_with fail
     refine (ig name _ nb).mono ?_; rw [BQ.out]; rintro e w3 ⟨rfl,hb3⟩
     rename_i KR D6
     have DW:=zH D6
     clear D6
     rename_i K8 h8
     have H8:=zH h8
     clear h8
     go_wp2_with fail
     refine DW.out _ _ ?_
     clear DW
     go_wp2_with fail
     refine H8.out _ _ ?_
     clear H8
     have hbf:=chain hbw hb3
     have hBx:=zY.out.kept hbf
     have hFx:=NQ.out.keep hbf
     have hbz:=chain hbw2 hbf
     refine sD kind chan name label xk xn xs xv xt af exprs names tk ts tn tl ag labels kids _ _ _ _ _ _ _ _ _ _ _ _ _ _ _ _ _ _ _ _ _ _ _ _ f0 f1 f2 f3 f4 f5 f6 f7 f8 w IK _ false hBx hFx hbz (HVV.out.below hbz) HF.out (HT.out.below hbz) ANS HA MV O9 (zH HRR.out) (zH ?_)
     show (ah name && (!decide (kind = 13) || nz name)) = _
     rw [BQ.out]; rfl
    | true =>
     by_cases h13 : kind = 13
     ·have e13 : (kind != 13) = false:=by rw [bne_eq_false_iff_eq]; exact h13
      have ND:=zH h13
      clear h13
      obtain ⟨BP,Qb⟩ : ∃ x,nz name = x:=⟨_,rfl⟩
      have Pz:=zH Qb
      clear Qb
      go_wp2_with fail
      refine (ig name _ nb).mono ?_; rw [BQ.out]; rintro e w3 ⟨rfl,hb3⟩
      have d4:=ae d0 hb3
      have d5:=ae d2 hb3
      go_wp2_with fail
      refine (rY name _ nb (HW.out.keep (chain hbw2 (chain hbw hb3)))).mono ?_; rw [Pz.out]; rintro e w4 ⟨rfl,hb4⟩
      rename_i KR D6
      have DW:=zH D6
      clear D6
      rename_i K8 h8
      have H8:=zH h8
      clear h8
      go_wp2_with fail
      refine DW.out _ _ ?_
      clear DW
      go_wp2_with fail
      refine H8.out _ _ ?_
      clear H8
      have hbf:=chain hbw (chain hb3 hb4)
      have hBx:=zY.out.kept hbf
      have hFx:=NQ.out.keep hbf
      have hbz:=chain hbw2 hbf
      refine sD kind chan name label xk xn xs xv xt af exprs names tk ts tn tl ag labels kids _ _ _ _ _ _ _ _ _ _ _ _ _ _ _ _ _ _ _ _ _ _ _ _ f0 f1 f2 f3 f4 f5 f6 f7 f8 w IK _ BP hBx hFx hbz (HVV.out.below hbz) HF.out (HT.out.below hbz) ANS HA MV O9 (zH HRR.out) (zH ?_)
      show (ah name && (!decide (kind = 13) || nz name)) = _
      rw [BQ.out,Pz.out,ND.out]; rfl
     ·have e13 : (kind != 13) = true:=by rw [bne_iff_ne]; exact h13
      have ND:=zH h13
      clear h13
      go_wp2_with fail
      refine (ig name _ nb).mono ?_; rw [BQ.out]; rintro e w3 ⟨rfl,hb3⟩
      have d4:=ae d0 hb3
      rename_i KR D6
      have DW:=zH D6
      clear D6
      rename_i K8 h8
      have H8:=zH h8
      clear h8
      go_wp2_with fail
      refine DW.out _ _ ?_
      clear DW
      go_wp2_with fail
      refine H8.out _ _ ?_
      clear H8
      have hbf:=chain hbw hb3
      have hBx:=zY.out.kept hbf
      have hFx:=NQ.out.keep hbf
      have hbz:=chain hbw2 hbf
      refine sD kind chan name label xk xn xs xv xt af exprs names tk ts tn tl ag labels kids _ _ _ _ _ _ _ _ _ _ _ _ _ _ _ _ _ _ _ _ _ _ _ _ f0 f1 f2 f3 f4 f5 f6 f7 f8 w IK _ true hBx hFx hbz (HVV.out.below hbz) HF.out (HT.out.below hbz) ANS HA MV O9 (zH HRR.out) (zH ?_)
      show (ah name && (!decide (kind = 13) || nz name)) = _
      rw [BQ.out,decide_eq_false ND.out]; rfl
structure uM (p : Nat) (w : World) : Prop where
 e : ∃ b o c,w.cell? ⟨1,0,none⟩ = some (.slice (some ⟨b,o,none⟩) 14 c) ∧ 14 ≤ c ∧ vF w b o su ∧ b ≠ p
 n : 1 ≠ p
theorem uM.all {p : Nat} {w : World} (h : uM p w) : rW w:=by
 obtain ⟨b,o,c,h1,h2,h3,-⟩:=h.e
 exact ⟨b,o,c,h1,h2,h3⟩
theorem uM.grown {p : Nat} {w w' : World} (h : uM p w) (hg : w.grownBy w' (some p)) : uM p w':=by
 obtain ⟨b,o,c,h1,h2,h3,h4⟩:=h.e
 have hs:=jy hg
 exact ⟨⟨b,o,c,hs.cell h.n h1,h2,fun i s hi => hs.cell h4 (h3 i s hi),h4⟩,h.n⟩
theorem uM.new {p : Nat} {w : World} (h : rW w) (hp : w.heap.size ≤ p) : uM p w:=by
 obtain ⟨b,o,c,h1,h2,h3⟩:=h
 have l1:=cell_lt h1
 have l2:=cell_lt (h3 0 _ rfl)
 exact ⟨⟨b,o,c,h1,h2,h3,by omega⟩,by omega⟩
theorem prV_ones {D : aj} {w : World} {t : Pr} {v1 v2 v3 v4 v5 v6 v7 : Value} (h : zn D w (.agg #[.int .i64 t.kind,.string ⟨t.chan.toArray⟩,.string ⟨t.name.toArray⟩,.string ⟨t.label.toArray⟩,.int .i64 t.xk,.string ⟨t.xn.toArray⟩,.int .i64 t.xs,.int .i64 t.xv,.string ⟨t.xt.toArray⟩,v1,v2,v3,.int .i64 t.tk,.int .i64 t.ts,.string ⟨t.tn.toArray⟩,v4,v5,v6,v7]) t) : ∀ u ∈ ([v1,v2,v3,v4,v5,v6,v7] : List Value),u.oneCell' = true:=by
 obtain ⟨w1,w2,w3,w4,w5,w6,w7,e,q1,q2,q3,q4,q5,q6,q7⟩:=h
 simp only [Value.agg.injEq] at e
 have e':=congrArg Array.toList e
 simp only [List.cons.injEq,and_true,true_and] at e'
 obtain ⟨e1,e2,e3,e4,e5,e6,e7⟩:=e'
 subst e1 e2 e3 e4 e5 e6 e7
 intro u hu
 simp only [List.mem_cons,List.not_mem_nil,or_false] at hu
 rcases hu with rfl | rfl | rfl | rfl | rfl | rfl | rfl
 ·exact q1.one
 ·exact q2.one
 ·exact q3.one
 ·exact q4.one
 ·exact q5.one
 ·exact q6.one
 ·exact q7.one
def qP (t : Pr) (v : Value) (p : Nat) (left : Int) (w : World) : Prop :=
 Calls Tryz.prog 51 #[v,.pointer (some ⟨p,0,none⟩)] w fun e w' => e = .returned (.int .i64 (mG t left).1) ∧ w.grownBy w' (some p) ∧ Left w' p (mG t left).2
abbrev UD (m : Nat) : Prop:=∀ (t : Pr) (v : Value) (p : Nat) (left : Int) (w : World),bG t ≤ m → zn (· ≠ p) w v t → bF 1048576 t → 0 ≤ left → left ≤ 200 → Left w p left → pJ p w → uM p w → qP t v p left w

theorem shapes_z (t : Pr) (v : Value) (p : Nat) (w : World) (hv : zn (· ≠ p) w v t) (hf : bF 1048576 t) (hl : Left w p 0) : qP t v p 0 w:=by
 unfold qP
 have e : mG t 0 = (2,-1):=by cases t; simp [mG]
 rw [e]
 clear e
 obtain ⟨kind,chan,name,label,xk,xn,xs,xv,xt,af,exprs,names,tk,ts,tn,tl,ag,labels,kids⟩:=t
 have HV:=zH hv
 obtain ⟨A1,n1,c1,A2,n2,c2,A3,n3,c3,A4,n4,c4,A5,n5,c5,A6,n6,c6,A7,n7,c7,rfl,q1,q2,q3,q4,q5,q6,q7⟩:=hv.one'
 simp only [Pr.aN,Pr.aT,Pr.aI,Pr.aW,Pr.jm,Pr.jo,Pr.jq,Pr.jv,Pr.jr,Pr.aY,Pr.aV,Pr.aU,Pr.jg,Pr.ji,Pr.jh,Pr.jA,Pr.aX,Pr.aH,Pr.aK] at q1 q2 q3 q4 q5 q6 q7 ⊢
 have G5 : n7 = kids.length:=by obtain ⟨_,_,e,-⟩:=q7; injection e
 have Bo:=zH G5
 have MX:=zH q7
 have HF:=zH hf
 clear hf hv q1 q2 q3 q4 q5 q6 q7 G5
 have hp:=hl.lt
 have xe:=zH hl
 obtain ⟨c0,cf⟩:=hl
 go_enter Tryz.func51,Tryz.ntmps51
 go_wp2_with fail
 go_ret
 exact ⟨rfl,(gW w p _).trans (World.grownBy_alloc _ _ _),(xe.out.set _).keep ((Below.refl _ _).alloc (Nat.le_refl _) _)⟩
theorem shapes_s (m : Nat) (ih : UD m) (t : Pr) (v : Value) (p : Nat) (left : Int) (w : World) (hm : bG t ≤ m + 1) (hv : zn (· ≠ p) w v t) (hf : bF 1048576 t) (hpos : 1 ≤ left) (hle : left ≤ 200) (hl : Left w p left) (hT : pJ p w) (hW : uM p w) : qP t v p left w:=by
 unfold qP
 obtain ⟨kind,chan,name,label,xk,xn,xs,xv,xt,af,exprs,names,tk,ts,tn,tl,ag,labels,kids⟩:=t
 have HV:=zH hv
 obtain ⟨A1,n1,c1,A2,n2,c2,A3,n3,c3,A4,n4,c4,A5,n5,c5,A6,n6,c6,A7,n7,c7,rfl,q1,q2,q3,q4,q5,q6,q7⟩:=hv.one'
 simp only [Pr.aN,Pr.aT,Pr.aI,Pr.aW,Pr.jm,Pr.jo,Pr.jq,Pr.jv,Pr.jr,Pr.aY,Pr.aV,Pr.aU,Pr.jg,Pr.ji,Pr.jh,Pr.jA,Pr.aX,Pr.aH,Pr.aK] at q1 q2 q3 q4 q5 q6 q7 ⊢
 have G5 : n7 = kids.length:=by obtain ⟨_,_,e,-⟩:=q7; injection e
 have Bo:=zH G5
 have MX:=zH q7
 have HF:=zH hf
 clear hf hv q1 q2 q3 q4 q5 q6 q7 G5
 obtain ⟨ANS,hA⟩ : ∃ x,mG (.mk kind chan name label xk xn xs xv xt af exprs names tk ts tn tl ag labels kids) left = x:=⟨_,rfl⟩
 rw [hA]
 have hA' : (if nU (.mk kind chan name label xk xn xs xv xt af exprs names tk ts tn tl ag labels kids) = 0 then qC kids (left - 1) else (nU (.mk kind chan name label xk xn xs xv xt af exprs names tk ts tn tl ag labels kids),left - 1)) = ANS:=by
  have hn : ¬ left - 1 < 0:=by omega
  rw [← hA]; conv => rhs; unfold mG
  rw [if_neg hn]
 have HA:=zH hA'
 clear hA hA'
 have hp:=hl.lt
 have xe:=zH hl
 have HT:=zH hT
 have HWP:=zH hW
 obtain ⟨c0,cf⟩:=hl
 clear hT hW
 have hlt1 : ¬ left - 1 < 0:=by omega
 go_enter Tryz.func51,Tryz.ntmps51
 iterate 20 (first | go_values | go_skip | go_guarded | go_step | go_upon | go_back)
 obtain ⟨W0,hW0⟩ : ∃ W,w.alloc (.cells #[.int .i64 kind,.string ⟨chan.toArray⟩,.string ⟨name.toArray⟩,.string ⟨label.toArray⟩,.int .i64 xk,.string ⟨xn.toArray⟩,.int .i64 xs,.int .i64 xv,.string ⟨xt.toArray⟩,.slice A1 n1 c1,.slice A2 n2 c2,.slice A3 n3 c3,.int .i64 tk,.int .i64 ts,.string ⟨tn.toArray⟩,.slice A4 n4 c4,.slice A5 n5 c5,.slice A6 n6 c6,.slice A7 n7 c7] 85) = W:=⟨_,rfl⟩
 have hb0 : Below w.heap.size w W0:=by subst hW0; go_grown
 have hB0 : nK W0 w.heap.size (.mk kind chan name label xk xn xs xv xt af exprs names tk ts tn tl ag labels kids) (.slice A1 n1 c1) (.slice A2 n2 c2) (.slice A3 n3 c3) (.slice A4 n4 c4) (.slice A5 n5 c5) (.slice A6 n6 c6) (.slice A7 n7 c7):=by subst hW0; exact wG w (.mk kind chan name label xk xn xs xv xt af exprs names tk ts tn tl ag labels kids) _ _ _ _ _ _ _ 85
 rw [hW0]
 clear hW0
 have hl0:=xe.out.keep hb0
 have hL1:=hl0.set (left - 1)
 have hB1:=hB0.far (p:=⟨p,0,none⟩) (by simp only; omega) (.int .i64 (left - 1))
 have hg1 : w.grownBy (W0.setCell ⟨p,0,none⟩ (.int .i64 (left - 1))) (some p):=(grown_below hb0 _).trans (gW W0 p _)
 have hT1:=HT.out.grown hg1
 have hW1:=HWP.out.grown hg1
 have hV1:=(HV.out).keep (D':=(· ≠ p)) (jy hg1) (fun b h _ => h)
 obtain ⟨d0,df⟩:=hl0
 clear c0 cf hb0 hB0
 go_wp2_with (refine uF hB1 rfl (.tmp 2) rfl rfl ?_; simp only [Pr.aN,Pr.aT,Pr.aI,Pr.aW,Pr.jm,Pr.jo,Pr.jq,Pr.jv,Pr.jr,Pr.aY,Pr.aV,Pr.aU,Pr.jg,Pr.ji,Pr.jh,Pr.jA,Pr.aX,Pr.aH,Pr.aK])
 have fJ:=zH hV1
 have HC18:=zH hB1.c18
 have hn7m : n7 ≤ 1048576:=by have:=HF.out.parts; simp only [Pr.aN,Pr.aT,Pr.aI,Pr.aW,Pr.jm,Pr.jo,Pr.jq,Pr.jv,Pr.jr,Pr.aY,Pr.aV,Pr.aU,Pr.jg,Pr.ji,Pr.jh,Pr.jA,Pr.aX,Pr.aH,Pr.aK] at this; have h1:=this.2.2.2.2.2.2.2.2.2.2.2.2.2.2.2.2.2.2.2.2.2.2.2.2.1; have:=Bo.out; omega
 have HKF : Hid (∀ c ∈ kids,bF 1048576 c):=zH (by have:=HF.out.parts; simp only [Pr.aN,Pr.aT,Pr.aI,Pr.aW,Pr.jm,Pr.jo,Pr.jq,Pr.jv,Pr.jr,Pr.aY,Pr.aV,Pr.aU,Pr.jg,Pr.ji,Pr.jh,Pr.jA,Pr.aX,Pr.aH,Pr.aK] at this; exact this.2.2.2.2.2.2.2.2.2.2.2.2.2.2.2.2.2.2.2.2.2.2.2.2.2)
 obtain ⟨O1,UI⟩ : ∃ x,nU (.mk kind chan name label xk xn xs xv xt af exprs names tk ts tn tl ag labels kids) = x:=⟨_,rfl⟩
 have hcall:=shape_any (.mk kind chan name label xk xn xs xv xt af exprs names tk ts tn tl ag labels kids) (.agg #[.int .i64 kind,.string ⟨chan.toArray⟩,.string ⟨name.toArray⟩,.string ⟨label.toArray⟩,.int .i64 xk,.string ⟨xn.toArray⟩,.int .i64 xs,.int .i64 xv,.string ⟨xt.toArray⟩,.slice A1 n1 c1,.slice A2 n2 c2,.slice A3 n3 c3,.int .i64 tk,.int .i64 ts,.string ⟨tn.toArray⟩,.slice A4 n4 c4,.slice A5 n5 c5,.slice A6 n6 c6,.slice A7 n7 c7]) (W0.setCell ⟨p,0,none⟩ (.int .i64 (left - 1))) hV1.all HF.out hT1.t hW1.all
 have hans:=HA.out
 rw [UI] at hcall hans
 have uK:=zH hans
 have dP:=zH hcall
 clear UI HA hcall hans hV1 hB1
 generalize W0.setCell ⟨p,0,none⟩ (.int .i64 (left - 1)) = W1 at *
 by_cases he : O1 = 0
 ·have hE : (O1 != 0) = false:=by rw [bne_eq_false_iff_eq]; exact he
  have hans : qC kids (left - 1) = ANS:=by have:=uK.out; rw [if_pos he] at this; exact this
  have uO:=zH hans
  clear hans he uK
  refine dP.out.mono ?_
  rintro e w2 ⟨rfl,hb2⟩
  have MH:=grown_below hb2 (some p)
  have hg2:=hg1.trans MH
  have hT2:=hT1.grown MH
  have hW2:=hW1.grown MH
  have hL2:=hL1.keep hb2
  have hK2 : yC (· ≠ p) w2 (.slice A7 n7 c7) kids:=MX.out.keep (jy hg2) (fun b h _ => h)
  have Ew:=zH hK2
  have c18 : w2.cell? ⟨w.heap.size,18,none⟩ = some (.slice A7 n7 c7):=ae HC18.out hb2
  have hzl : w.heap.size < w2.heap.size:=cell_lt c18
  clear hK2 hb2 MH hg1 hT1 hW1 hL1
  go_wp2_with fail
  go_loopw [26] (fun i wr => ∃ (j : Nat) (lk : Int),j ≤ n7 ∧ i = .int .i64 j ∧ 0 ≤ lk ∧ lk ≤ left - 1 ∧ Left wr p lk ∧ w.grownBy wr (some p) ∧ w2.grownBy wr (some p) ∧ pJ p wr ∧ uM p wr ∧ Hid (qC kids (left - 1) = qC (kids.drop j) lk)) (fun i _ => n7 - (intOf i).toNat)
  case atStart => exact ⟨0,left - 1,by omega,rfl,by omega,by omega,hL2,hg2,grown_below (Below.refl _ _) _,hT2,hW2,zH rfl⟩
  case round =>
   clear hg2 hL2 hT2 hW2
   obtain ⟨j,lk,hj,rfl,hlk0,FN,hl1,hg,hgq,hT1,hW1,hs⟩:=hrel
   by_cases hlt : j < n7
   ·obtain ⟨c,hc'⟩ : ∃ y,kids[j]? = some y:=⟨_,List.getElem?_eq_getElem (by have:=Bo.out; omega)⟩
    have vY:=zH hc'
    obtain ⟨A',cap',e,hc1,-,hc3⟩:=Ew.out.keep (D':=(· ≠ p)) (jy hgq) (fun b h _ => h)
    injection e with e1 e2 e3
    subst e1 e3
    obtain ⟨b',off,rfl,hbp,hrow⟩:=hc3 (by have:=Bo.out; omega)
    have hat:=zo hrow hc'
    have HAT:=zH hat
    have hcc : n7 ≤ c7:=by have:=Bo.out; omega
    clear hrow hc' hc3 hc1 e2
    have hcp : bG c ≤ m:=by
     have h1:=uZ (az vY.out)
     have h2 : 1 + oG kids ≤ m + 1:=hm
     omega
    have hcf : bF 1048576 c:=HKF.out c (az vY.out)
    have hstep:=hs.out
    rw [chkPs_drop vY.out] at hstep
    have HST:=zH hstep
    clear hstep hs hat
    have hnb:=new_prbox wr 85
    have Tq:=zH hnb
    clear hnb
    go_wp2_with (first | (refine wpList_loadPrAt HAT.out rfl (.tmp 28) rfl rfl ?_; intro v1 v2 v3 v4 v5 v6 v7 TQ; have Ip:=zH TQ; have Iu:=prV_ones TQ; clear TQ) | (refine wpList_storePr Tq.out rfl (.tmp 7) (.tmp 29) rfl rfl c v1 v2 v3 v4 v5 v6 v7 rfl Iu ?_; intro W hbx hbel; have hbW:=hbel _ _ (Nat.le_refl _) ((Below.refl wr.heap.size wr).alloc (Nat.le_refl _) _); have zY:=zH hbx; have yB:=zH hbW; clear hbx hbel hbW) | (refine uF zY.out rfl (.tmp 7) rfl rfl ?_))
    have Pq:=grown_below yB.out (some p)
    have hcall:=ih c _ p lk W hcp (Ip.out.keep (Same.below yB.out) (fun b h _ => h)) hcf hlk0 (by omega) (hl1.keep yB.out) (hT1.grown Pq) (hW1.grown Pq)
    unfold qP at hcall
    obtain ⟨R,hR⟩ : ∃ x,mG c lk = x:=⟨_,rfl⟩
    have hst:=HST.out
    have hle2:=zt c lk
    rw [hR] at hcall hst hle2
    have PU:=zH hst
    have EY:=zH hle2
    clear HST hst hle2 hR
    refine hcall.mono ?_
    clear hcall
    rintro e w8 ⟨rfl,SL,IJ⟩
    have hga:=hg.trans (Pq.trans SL)
    have hgb:=hgq.trans (Pq.trans SL)
    have hTa:=hT1.grown (Pq.trans SL)
    have hWa:=hW1.grown (Pq.trans SL)
    by_cases he : R.1 = 0
    ·have hE : (R.1 != 0) = false:=by rw [bne_eq_false_iff_eq]; exact he
     have hp2 : 0 ≤ R.2 ∧ R.2 ≤ lk:=⟨EY.out.2 he hlk0,EY.out.1⟩
     have EX:=zH he
     clear he
     go_wp2_with fail
     go_roundw
     case rel => exact ⟨j + 1,R.2,by omega,by go_num,hp2.1,by omega,IJ,hga,hgb,hTa,hWa,zH (by rw [PU.out,if_pos EX.out])⟩
     case measure => simp [intOf]; omega
    ·have hE : (R.1 != 0) = true:=by rw [bne_iff_ne]; exact he
     have EX:=zH he
     clear he
     go_wp2_with fail
     go_ret
     have h9 : ANS = R:=by rw [← uO.out,PU.out,if_neg EX.out]
     exact ⟨by rw [h9]; rfl,hga,by rw [h9]; exact IJ⟩
   ·have hj7 : j = n7:=by omega
    subst hj7
    have hend : qC kids (left - 1) = (0,lk):=by rw [hs.out,List.drop_eq_nil_of_le (by have:=Bo.out; omega)]; rfl
    have HE:=zH hend
    clear hend hs
    go_wp2_with fail
    go_ret
    exact ⟨by rw [← uO.out,HE.out]; rfl,hg,by rw [← uO.out,HE.out]; exact hl1⟩
 ·have hE : (O1 != 0) = true:=by rw [bne_iff_ne]; exact he
  have hans : (O1,left - 1) = ANS:=by have:=uK.out; rw [if_neg he] at this; exact this
  have uO:=zH hans
  clear hans he uK
  refine dP.out.mono ?_
  rintro e w2 ⟨rfl,hb2⟩
  go_wp2_with fail
  go_ret
  exact ⟨by rw [← uO.out]; rfl,hg1.trans (grown_below hb2 _),by rw [← uO.out]; exact hL1.keep hb2⟩
theorem shapes_any : ∀ (m : Nat),UD m:=by
 intro m
 induction m with
 | zero => intro t v p left w h; cases t; simp only [bG] at h; omega
 | succ m ih =>
  intro t v p left w hm hv hf hl0 hle hl hT hW
  by_cases hz : left = 0
  ·subst hz; exact shapes_z t v p w hv hf hl
  ·exact shapes_s m ih t v p left w hm hv hf (by omega) hle hl hT hW
def zg : Code → Option Code
 | .seq a b => match zg a with
  | some c => some c
  | none => zg b
 | .block _ c => zg c
 | .loop c => some c
 | _ => none
def BG : Code → Code
 | .block _ c => c
 | _ => .skip
noncomputable def shBody : Code:=((Tryz.f16.body).bind zg).getD .skip
noncomputable def SX : Code:=BG (zu (bH (bH shBody)))
noncomputable def O0 : Code:=bH SX
noncomputable def JR : Code:=bH O0
noncomputable def JS : Code:=bH JR
noncomputable def Nr : Code:=bH JS
structure Hw (w wz : World) (p : Nat) (l : List Df) (A : Option Addr) (c : Nat) : Prop where
 bl : Below w.heap.size w wz
 ds : zX (· ≠ p) wz (.slice A l.length c) l
 tb : pJ p wz
 wd : uM p wz
 hp : w.heap.size ≤ p
 pl : p < wz.heap.size
 wl : w.heap.size ≤ wz.heap.size
theorem Hw.next {w wz w2 : World} {p : Nat} {l : List Df} {A : Option Addr} {c : Nat} (h : Hw w wz p l A c) (hb : Below wz.heap.size wz w2) : Hw w w2 p l A c :=
 ⟨chain h.bl hb,h.ds.below hb,h.tb.grown (grown_below hb _),h.wd.grown (grown_below hb _),h.hp,Nat.lt_of_lt_of_le h.pl hb.size,Nat.le_trans h.wl hb.size⟩
theorem Hw.grown {w wz w2 : World} {p : Nat} {l : List Df} {A : Option Addr} {c : Nat} (h : Hw w wz p l A c) (hg : wz.grownBy w2 (some p)) : Hw w w2 p l A c :=
 ⟨h.bl.grown hg h.wl (fun k hk => by injection hk with hk; have:=h.hp; omega),h.ds.keep (jy hg) (fun _ h _ => h),h.tb.grown hg,h.wd.grown hg,h.hp,Nat.lt_of_lt_of_le h.pl hg.size,Nat.le_trans h.wl hg.size⟩
def Cb (u0 u1 u4 u6 u8 jk jl iW iY u16 jc jd je jL jB nD : Value) (l : List Df) (j : Nat) (A : Option Addr) (c : Nat) (w : World) (p : Nat) (ANS : Int) (N : Act → World → Prop) : Prop :=
 ∀ (wz : World) (lk : Int),Hw w wz p l A c → Left wz p lk → 0 ≤ lk → lk ≤ 200 → Hid (nS (l.drop (j + 1)) lk = ANS) → ∀ (v2 v5 v7 v9 Ns Nu Nv Nw JU JW JX JY Iz JZ J3 J4 J5 J6 Ih J7 J8 J9 Ko Kq Kr Kt Ku Hl Kv Kw Ky Kz IL KA IA KC KD KE KF KG KH KI KJ KL KN KO KP KQ KU KW KX IB KY IC KZ La IM IP Lc Ld Le Lh Lj Ll Lm Lp Lr Ls Lt Lu LC Ny Nz RJ RN : Value),N { tmps:=#[u0,u1,v2,.pointer (some ⟨p,0,none⟩),u4,v5,u6,v7,u8,v9,Ns,Nu,jk,jl,iW,iY,u16,jc,jd,je,jL,.slice A l.length c,.int .i64 l.length,.int .i64 j,jB,Nv,Nw,JU,JW,JX,JY,Iz,JZ,J3,J4,J5,J6,Ih,J7,J8,J9,Ko,Kq,Kr,Kt,Ku,Hl,Kv,Kw,Ky,Kz,IL,KA,IA,KC,KD,KE,KF,KG,KH,KI,KJ,KL,KN,KO,KP,KQ,KU,KW,KX,IB,KY,IC,KZ,La,IM,IP,Lc,Ld,Le,Lh,Lj,Ll,Lm,Lp,Lr,Ls,Lt,Lu,LC,Ny,Nz,RJ,RN,nD],defers:=[] } wz
structure Oc (wz : World) (p q : Nat) (cs : List Value) (d : Df) : Prop where
 bx : qh wz q cs
 dc : Gh (· ≠ p) wz cs d
 qp : q ≠ p
theorem Oc.next {wz w2 : World} {p q : Nat} {cs : List Value} {d : Df} (h : Oc wz p q cs d) (hb : Below wz.heap.size wz w2) : Oc w2 p q cs d :=
 ⟨h.bx.keep hb h.bx.lt,h.dc.keep (Same.below hb) (fun _ h _ => h),h.qp⟩
abbrev uI (B b : Nat) (l : List UInt8) (w : World) : Prop:=Lib.IsBuilder 92 5 B b (Lib.byteCells l) w
theorem yE (B b : Nat) (bs : List Value) (w : World) (h : Lib.IsBuilder 92 5 B b bs w) :
  Calls Tryz.prog 77 #[.pointer (some ⟨b,0,none⟩)] w fun e w' => e = .returned (.tuple #[]) ∧ Lib.BuilderAt 92 5 B b (.pointer (some ⟨b,0,none⟩)) bs w' ∧ Below B w w':=by
 have hsz : (Tryz.prog.info? 92).map (·.size) = some 2:=by kernel_rfl
 obtain ⟨j,hj,hjs⟩:=Option.map_eq_some_iff.1 hsz
 have hlies : liesAt Tryz.prog Tryz.prog.depth 92 (2 / Tryz.prog.cellsOf 92) 0 92 1 = true:=by kernel_rfl
 rcases h with h | h
 ·have h0:=h.cell0
  have hsh:=h.shape
  have hfz:=h.frozen0
  go_enter Tryz.func77,Tryz.ntmps77
  go_wp2
  rw [Lib.run_to_unsafe w ⟨b,0,none⟩ Tryz.underlying90 Tryz.underlying164 hj (by rw [hjs]; decide) hsh (Nat.zero_lt_succ 1)]
  simp only [Result.andThen]
  rw [Oper.upon_value]
  go_wp2
  rw [run_callFunc_extern Tryz.func108 (by kernel_rfl) (by kernel_rfl) (by kernel_rfl) (e:=Extern.AbiNoEscape.same) (by kernel_rfl)]
  rw [Lib.run_noEscape]
  simp only [Result.andThen]
  rw [Oper.upon_value]
  go_wp2
  rw [Lib.run_from_unsafe w ⟨b,0,none⟩ Tryz.underlying164 Tryz.underlying90 hj hsh hlies]
  simp only [Result.andThen]
  rw [Oper.upon_value]
  go_wp2
  go_end0
  exact ⟨rfl,h.used _,(Below.refl B w).setCell (p:=⟨b,0,none⟩) h.1 _⟩
 ·have h0:=h.cell0
  go_enter Tryz.func77,Tryz.ntmps77
  go_wp2
  rw [Lib.run_neq_ptr_same w _ Tryz.underlying90 hj]
  go_wp2
  go_end0
  exact ⟨rfl,h,Below.refl _ _⟩
theorem qK (B b : Nat) (l : List UInt8) (c : UInt8) (w : World) (h : uI B b l w) (hlen : l.length + 1 ≤ 140737488355328) (hBw : B ≤ w.heap.size) :
  Calls Tryz.prog 189 #[.pointer (some ⟨b,0,none⟩),.int .u8 c.toNat] w fun e w' => e = .returned .nilIface ∧ uI B b (l ++ [c]) w' ∧ Below B w w':=by
 obtain ⟨i0,hi,hz0,hz1,hz2⟩:=info_parts (show (Tryz.prog.info? 5).map (fun i => (i.zero,i.size,i.bytes)) = some (some (.int .u8 0),1,1) by kernel_rfl)
 go_enter Tryz.func189,Tryz.ntmps189
 go_wp2_with fail
 refine (yE B b _ _ h).mono ?_
 rintro e w1 ⟨rfl,h1,hb1⟩
 obtain ⟨hB,v,hbk,hown,hne⟩:=h1
 rw [Lib.byteCells_length] at hown
 have c0 : w1.cell? ⟨b,0,none⟩ = some (.pointer (some ⟨b,0,none⟩)):=by rw [Lib.cell_of_heap hbk]; rfl
 have c1 : w1.cell? ⟨b,1,none⟩ = some v:=by rw [Lib.cell_of_heap hbk]; rfl
 go_wp2_with (at_builtin; refine wpList_append_own _ rfl _ _ 62 rfl B 5 i0 (.int .u8 0) 1 1 Tryz.underlying62 hi hz0 hz1 hz2 rfl (by decide) _ _ _ rfl (hown.alloc _) ⟨w1.heap.size,0,none⟩ 1 1 [.int .u8 c.toNat] rfl rfl ?c1 ?c2 ?c3 ?c4 ?c5 ?_)
 case c1 =>
  intro j u hj
  match j,hj with
  | 0,hj => simp at hj; subst hj; simp [Addr.add]
 case c2 => intro u hu; simp at hu; subst hu; rfl
 case c3 => unfold maxLen; omega
 case c4 => omega
 case c5 => have:=hb1.size; simp; omega
 intro v' w2 hown' hgrow _
 have hlt : b < w1.heap.size:=(Array.getElem?_eq_some_iff.1 hbk).1
 have hb2 : w2.heap[b]? = some (.cells #[.pointer (some ⟨b,0,none⟩),v] 92 (0,0)):=by
  rw [hgrow.block b (by simp; omega) (fun e => hne e.symm),Lib.alloc_old w1 _ b hlt]
  exact hbk
 have d0 : w2.cell? ⟨b,0,none⟩ = some (.pointer (some ⟨b,0,none⟩)):=by rw [Lib.cell_of_heap hb2]; rfl
 have d1 : w2.cell? ⟨b,1,none⟩ = some v:=by rw [Lib.cell_of_heap hb2]; rfl
 have f1 : w2.frozen? ⟨b,1,none⟩ = false:=Lib.frozen_of_heap hb2 1
 obtain ⟨g,cap,rfl⟩ : ∃ g cap,v' = .slice (some ⟨g,0,none⟩) (l.length + 1) cap:=by
  rcases hown'.2 with ⟨_,h0⟩ | ⟨g,cap,cur,hv,_⟩
  ·omega
  ·exact ⟨g,cap,hv⟩
 go_wp2_with fail
 go_ret
 refine ⟨rfl,?_,?_⟩
 ·have e : Lib.byteCells (l ++ [c]) = Lib.byteCells l ++ [.int .u8 c.toNat]:=by simp [Lib.byteCells]
  rw [uI,e]
  exact Or.inr (Lib.BuilderAt.put (T:=92) (e:=5) hB hb2 (bs':=Lib.byteCells l ++ [.int .u8 c.toNat]) (by simpa [Lib.byteCells_length] using hown') (by decide))
 ·exact ((hb1.alloc (by have:=hb1.size; omega) _).grown hgrow (by have:=hb1.size; simp; omega) (fun k hk => (hown.lt k hk).1)).setCell (p:=⟨b,1,none⟩) hB _
theorem writeString_any (B b : Nat) (l s : List UInt8) (w : World) (h : uI B b l w) (hlen : l.length + s.length ≤ 140737488355328) (hBw : B ≤ w.heap.size) :
  Calls Tryz.prog 42 #[.pointer (some ⟨b,0,none⟩),.string ⟨s.toArray⟩] w fun e w' => e = .returned (.tuple #[.int .i64 s.length,.nilIface]) ∧ uI B b (l ++ s) w' ∧ Below B w w':=by
 obtain ⟨i0,hi,hz0,hz1,hz2⟩:=info_parts (show (Tryz.prog.info? 5).map (fun i => (i.zero,i.size,i.bytes)) = some (some (.int .u8 0),1,1) by kernel_rfl)
 go_enter Tryz.func42,Tryz.ntmps42
 go_wp2_with fail
 refine (yE B b _ _ h).mono ?_
 rintro e w1 ⟨rfl,h1,hb1⟩
 obtain ⟨hB,v,hbk,hown,hne⟩:=h1
 rw [Lib.byteCells_length] at hown
 have c0 : w1.cell? ⟨b,0,none⟩ = some (.pointer (some ⟨b,0,none⟩)):=by rw [Lib.cell_of_heap hbk]; rfl
 have c1 : w1.cell? ⟨b,1,none⟩ = some v:=by rw [Lib.cell_of_heap hbk]; rfl
 have hss : (⟨s.toArray⟩ : ByteArray).size = s.length:=by simp [ByteArray.size]
 go_wp2_with (at_builtin; refine Lib.wpList_append_own_string _ rfl _ _ 62 9 rfl B 5 i0 Tryz.underlying62 Tryz.underlying9 hi hz0 hz1 hz2 _ _ _ rfl hown ⟨s.toArray⟩ rfl ?c3 ?c4 ?c5 ?_)
 case c3 => unfold maxLen; rw [hss]; omega
 case c4 => rw [hss]; omega
 case c5 => have:=hb1.size; omega
 intro v' w2 hown' hgrow _
 have hlt : b < w1.heap.size:=(Array.getElem?_eq_some_iff.1 hbk).1
 have hb2 : w2.heap[b]? = some (.cells #[.pointer (some ⟨b,0,none⟩),v] 92 (0,0)):=by
  rw [hgrow.block b hlt (fun e => hne e.symm)]
  exact hbk
 have d0 : w2.cell? ⟨b,0,none⟩ = some (.pointer (some ⟨b,0,none⟩)):=by rw [Lib.cell_of_heap hb2]; rfl
 have d1 : w2.cell? ⟨b,1,none⟩ = some v:=by rw [Lib.cell_of_heap hb2]; rfl
 have f1 : w2.frozen? ⟨b,1,none⟩ = false:=Lib.frozen_of_heap hb2 1
 obtain ⟨ao,n',cap,rfl⟩ : ∃ ao n' cap,v' = .slice ao n' cap:=by
  rcases hown'.2 with ⟨hv,_⟩ | ⟨g,cap,cur,hv,_⟩
  ·exact ⟨_,_,_,hv⟩
  ·exact ⟨_,_,_,hv⟩
 clear hss
 go_wp2_with fail
 go_ret2
 have e : Lib.byteCells (l ++ s) = Lib.byteCells l ++ Lib.strCells ⟨s.toArray⟩:=by simp [Lib.byteCells,Lib.strCells]
 refine ⟨rfl,?_,?_⟩
 ·rw [uI,e]
  exact Or.inr (Lib.BuilderAt.put (T:=92) (e:=5) hB hb2 (bs':=Lib.byteCells l ++ Lib.strCells ⟨s.toArray⟩) (by simpa [Lib.byteCells_length,Lib.strCells_length,ByteArray.size] using hown') (by decide))
 ·exact (hb1.grown hgrow (by have:=hb1.size; omega) (fun k hk => (hown.lt k hk).1)).setCell (p:=⟨b,1,none⟩) hB _
def xA (b : UInt8) : Str:=if b = 10 then [92,110] else if b = 92 ∨ b = 34 then [92,b] else [b]
theorem FC (l : Str) (b : UInt8) : esc (l ++ [b]) = esc l ++ xA b:=by simp [esc,xA]
theorem take_snoc {l : Str} {k : Nat} {x : UInt8} (h : l[k]? = some x) : l.take (k + 1) = l.take k ++ [x]:=by
 rw [List.take_add_one,h]; rfl
theorem escB_len (b : UInt8) : 1 ≤ (xA b).length ∧ (xA b).length ≤ 2:=by
 unfold xA
 split
 ·simp
 ·split <;> simp
theorem zx (l : Str) : (esc l).length ≤ 2 * l.length:=by
 induction l with
 | nil => simp [esc]
 | cons b l ih =>
  have : esc (b :: l) = xA b ++ esc l:=rfl
  rw [this,List.length_append,List.length_cons]
  have:=(escB_len b).2
  omega
theorem Pv {x : UInt8} {k : Nat} (h : x ≠ UInt8.ofNat k) (hk : k < 256) : (x.toNat : Int) ≠ (k : Int):=by
 intro e
 apply h
 have e' : x.toNat = k:=by omega
 rw [← e',UInt8.ofNat_toNat]
theorem D8 (w : World) : uI w.heap.size w.heap.size [] (w.alloc (.cells #[.pointer none,.slice none 0 0] 92)) :=
 Or.inl ⟨Nat.le_refl _,.slice none 0 0,(by show (w.heap.push _)[w.heap.size]? = _; rw [Array.getElem?_push_size]),World.ownsRow_nil _ _ _ _,by simp [Value.ownBlock]⟩
theorem escaped_any (t : Str) (w : World) (ht : t.length ≤ 1048576) :
  Calls Tryz.prog 187 #[.string ⟨t.toArray⟩] w fun e w' => e = .returned (.string ⟨(esc t).toArray⟩) ∧ Below w.heap.size w w':=by
 have h0:=zH (D8 w)
 have hb0 : Below w.heap.size w (w.alloc (.cells #[.pointer none,.slice none 0 0] 92)):=by go_grown
 obtain ⟨L,hL⟩ : ∃ L,t.length = L:=⟨_,rfl⟩
 have HL:=zH hL
 rw [hL] at ht
 go_enter Tryz.func187,Tryz.ntmps187
 go_wp2_with fail
 generalize hW : w.alloc (.cells #[.pointer none,.slice none 0 0] 92) = W at *
 clear hW
 go_loopw [8] (fun i wr => ∃ j : Nat,j ≤ L ∧ i = .int .i64 j ∧ Hid (uI w.heap.size w.heap.size (esc (t.take j)) wr) ∧ Below w.heap.size w wr) (fun i _ => L - (intOf i).toNat)
 case atStart => exact ⟨0,Nat.zero_le _,rfl,h0,hb0⟩
 case round =>
  clear h0 hb0
  obtain ⟨j,hj,rfl,hB,hb⟩:=hrel
  by_cases hlt : j < L
  ·have hltZ : (j : Int) < (L : Int):=by omega
   obtain ⟨x,hx⟩ : ∃ x,t[j]? = some x:=⟨_,List.getElem?_eq_getElem (by rw [HL.out]; exact hlt)⟩
   have HX:=zH hx
   have hlt2 : j < t.length:=by rw [HL.out]; exact hlt
   have E : ((⟨t.toArray⟩ : ByteArray)[j]'(by simpa [ByteArray.size] using hlt2)).toNat = x.toNat:=by rw [byte_at' HX.out]
   have hes:=zH (FC (t.take j) x)
   have hln : (esc (t.take j)).length ≤ 2 * j:=by have:=zx (t.take j); rw [List.length_take] at this; omega
   have HT:=zH (take_snoc hx)
   have hsz:=hb.size
   clear hx
   by_cases h10 : x = 10
   ·subst h10
    go_wp2_with fail
    refine (writeString_any _ _ _ [92,110] _ hB.out (by simp; omega) hsz).mono ?_
    rintro e w1 ⟨rfl,h1,hb1⟩
    replace h1:=zH h1
    go_wp2_with fail
    go_roundw
    case rel =>
     refine ⟨j + 1,by omega,by go_num,zH ?_,hb.trans hb1⟩
     rw [HT.out,hes.out]
     exact h1.out
    case measure => simp [intOf] <;> omega
   ·have n10 : (x.toNat : Int) ≠ 10:=Pv h10 (by decide)
    by_cases h92 : x = 92 ∨ x = 34
    ·have he : xA x = [92] ++ [x]:=by unfold xA; rw [if_neg h10,if_pos h92]; rfl
     rw [he] at hes
     rcases h92 with rfl | rfl
     ·clear he n10 h10
      go_wp2_with fail
      refine (qK _ _ _ 92 _ hB.out (by omega) hsz).mono ?_
      rintro e w1 ⟨rfl,h1,hb1⟩
      replace h1:=zH h1
      go_wp2_with fail
      refine (qK _ _ _ 92 _ h1.out (by rw [List.length_append,List.length_singleton]; omega) (Nat.le_trans hsz hb1.size)).mono ?_
      rintro e w2 ⟨rfl,h2,hb2⟩
      replace h2:=zH h2
      clear h1
      go_wp2_with fail
      go_roundw
      case rel =>
       refine ⟨j + 1,by omega,by go_num,zH ?_,(hb.trans hb1).trans hb2⟩
       rw [HT.out,hes.out]
       rw [← List.append_assoc]
       exact h2.out
      case measure => simp [intOf] <;> omega
     ·clear he n10 h10
      go_wp2_with fail
      refine (qK _ _ _ 92 _ hB.out (by omega) hsz).mono ?_
      rintro e w1 ⟨rfl,h1,hb1⟩
      replace h1:=zH h1
      go_wp2_with fail
      refine (qK _ _ _ 34 _ h1.out (by rw [List.length_append,List.length_singleton]; omega) (Nat.le_trans hsz hb1.size)).mono ?_
      rintro e w2 ⟨rfl,h2,hb2⟩
      replace h2:=zH h2
      clear h1
      go_wp2_with fail
      go_roundw
      case rel =>
       refine ⟨j + 1,by omega,by go_num,zH ?_,(hb.trans hb1).trans hb2⟩
       rw [HT.out,hes.out]
       rw [← List.append_assoc]
       exact h2.out
      case measure => simp [intOf] <;> omega
    ·have hq : x ≠ 92 ∧ x ≠ 34:=⟨fun e => h92 (.inl e),fun e => h92 (.inr e)⟩
     have n92 : (x.toNat : Int) ≠ 92:=Pv hq.1 (by decide)
     have n34 : (x.toNat : Int) ≠ 34:=Pv hq.2 (by decide)
     have he : xA x = [x]:=by unfold xA; rw [if_neg h10,if_neg h92]
     rw [he] at hes
     clear h92 hq h10 he
     go_wp2_with fail
     refine (qK _ _ _ x _ hB.out (by omega) hsz).mono ?_
     rintro e w1 ⟨rfl,h1,hb1⟩
     replace h1:=zH h1
     go_wp2_with fail
     go_roundw
     case rel =>
      refine ⟨j + 1,by omega,by go_num,zH ?_,hb.trans hb1⟩
      rw [HT.out,hes.out]
      exact h1.out
     case measure => simp [intOf] <;> omega
  ·obtain rfl : j = L:=by omega
   have e : t.take j = t:=List.take_of_length_le (by rw [HL.out]; exact Nat.le_refl _)
   rw [e] at hB
   go_wp2_with fail
   refine (Tryz.Builder_String_any _ _ _ _ hB.out hb.size).mono ?_
   rintro e w1 ⟨rfl,hb1⟩
   go_wp2_with fail
   go_ret
   exact ⟨rfl,hb.trans hb1⟩
theorem vk (a b : List UInt8) : (⟨a.toArray⟩ : ByteArray) ++ ⟨b.toArray⟩ = ⟨(a ++ b).toArray⟩:=by
 rw [F5 ((⟨a.toArray⟩ : ByteArray) ++ ⟨b.toArray⟩)]
 simp [ByteArray.data_append]
theorem cat3 (a b c : Str) : ((⟨a.toArray⟩ : ByteArray) ++ ⟨b.toArray⟩ ++ ⟨c.toArray⟩) = ⟨(a ++ (b ++ c)).toArray⟩:=by
 rw [vk,vk,List.append_assoc]
abbrev ql (w : World) : Prop := Lib.TabIs Tryz.prog w "internal/strconv.uint64pow10" .u64 Lib.pow10Tab
theorem ql.below {w w' : World} (h : ql w) (hb : Below w.heap.size w w') : ql w':=Lib.tabBelow_of_tabIs h w' hb
theorem vwrite_ok (s n : Int) (t : Str) (w : World) (hc : qQ s n t = 0) (ht : t.length ≤ 1048576) (h1 : -9223372036854775808 ≤ n) (h2 : n ≤ 9223372036854775807) (hT : Tabs w) (hP : ql w) :
  Calls Tryz.prog 172 #[.agg #[.int .i64 s,.int .i64 n,.string ⟨t.toArray⟩]] w fun e w' => e = .returned (.tuple #[.string ⟨(yA s n t).toArray⟩,.int .i64 0]) ∧ Below w.heap.size w w':=by
 have hbW : Below w.heap.size w (w.alloc (.cells #[.int .i64 s,.int .i64 n,.string ⟨t.toArray⟩] 26)):=by go_grown
 have hck:=DF s n (w.alloc (.cells #[.int .i64 s,.int .i64 n,.string ⟨t.toArray⟩] 26)) t (by omega) (hT.below hbW)
 have c0 : (w.alloc (.cells #[.int .i64 s,.int .i64 n,.string ⟨t.toArray⟩] 26)).cell? ⟨w.heap.size,0,none⟩ = some (.int .i64 s):=by simp [go_sem]
 have c1 : (w.alloc (.cells #[.int .i64 s,.int .i64 n,.string ⟨t.toArray⟩] 26)).cell? ⟨w.heap.size,1,none⟩ = some (.int .i64 n):=by simp [go_sem]
 have c2 : (w.alloc (.cells #[.int .i64 s,.int .i64 n,.string ⟨t.toArray⟩] 26)).cell? ⟨w.heap.size,2,none⟩ = some (.string ⟨t.toArray⟩):=by simp [go_sem]
 have O6:=zH (And.intro c0 (And.intro c1 c2))
 clear c0 c1 c2
 have RX:=zH hck
 rw [hc] at RX
 have HC:=zH hc
 clear hck hc
 have hs : (s = 3 ∧ n = 0) ∨ s = 1 ∨ (s = 2 ∧ (n = 0 ∨ n = 1)):=by
  have:=HC.out
  unfold qQ at this
  split at this
  ·exact .inl (by assumption)
  ·split at this
   ·rename_i h
    exact .inr h.2
   ·omega
 rcases hs with ⟨rfl,rfl⟩ | rfl | ⟨rfl,hn⟩
 ·obtain ⟨R,hR⟩ : ∃ R,yA 3 0 t = R:=⟨_,rfl⟩
  have HR : Hid (34 :: (esc t ++ [34]) = R):=hR
  rw [hR]
  clear hR
  go_enter Tryz.func172,Tryz.ntmps172
  go_wp2_with fail
  refine RX.out.mono ?_
  rintro e w1 ⟨rfl,hb1⟩
  have HB1:=zH hb1
  replace hb1:=chain hbW hb1
  obtain ⟨q0,q1,q2⟩:=O6.out
  have k0:=ae q0 HB1.out
  have k1:=ae q1 HB1.out
  have k2:=ae q2 HB1.out
  clear q0 q1 q2 O6
  go_wp2_with fail
  refine (escaped_any t w1 ht).mono ?_
  rintro e w2 ⟨rfl,hb2⟩
  have hel:=zx t
  have q1 : ¬ 9223372036854775807 < 1 + (esc t).length:=by omega
  have q2 : ¬ 9223372036854775807 < 1 + (esc t).length + 1:=by omega
  go_wp2_with fail
  go_ret2
  exact ⟨by rw [← HR.out]; exact congrArg (fun x => Ending.returned (.tuple #[.string x,.int .i64 0])) (cat3 [34] (esc t) [34]),chain hb1 hb2⟩
 ·obtain ⟨R,hR⟩ : ∃ R,yA 1 n t = R:=⟨_,rfl⟩
  have HR : Hid (Lib.itoa n = R):=hR
  rw [hR]
  clear hR
  go_enter Tryz.func172,Tryz.ntmps172
  go_wp2_with fail
  refine RX.out.mono ?_
  rintro e w1 ⟨rfl,hb1⟩
  have HB1:=zH hb1
  replace hb1:=chain hbW hb1
  obtain ⟨q0,q1,q2⟩:=O6.out
  have k0:=ae q0 HB1.out
  have k1:=ae q1 HB1.out
  have k2:=ae q2 HB1.out
  clear q0 q1 q2 O6
  go_wp2_with fail
  refine (Tryz.strconv_FormatInt_10 n h1 h2 w1 (hP.below hb1)).mono ?_
  rintro e w2 ⟨rfl,k,os,hw2⟩
  have hb2 : Below w1.heap.size w1 w2:=by rw [hw2]; exact Lib.below_grow _ _ (Nat.le_refl _) _ _
  clear hw2
  go_wp2_with fail
  go_ret2
  exact ⟨by rw [← HR.out]; rfl,chain hb1 hb2⟩
 ·rcases hn with rfl | rfl
  all_goals
   go_enter Tryz.func172,Tryz.ntmps172
   go_wp2_with fail
   refine RX.out.mono ?_
   rintro e w1 ⟨rfl,hb1⟩
   have HB1:=zH hb1
   replace hb1:=chain hbW hb1
   obtain ⟨q0,q1,q2⟩:=O6.out
   have k0:=ae q0 HB1.out
   have k1:=ae q1 HB1.out
   have k2:=ae q2 HB1.out
   clear q0 q1 q2 O6
   go_wp2_with fail
   refine (Tryz.strconv_FormatBool _ w1).mono ?_
   rintro e w2 ⟨rfl,rfl⟩
   go_wp2_with fail
   go_ret2
   exact ⟨rfl,hb1⟩
def nJ : List Nat → Nat
 | [] => 0
 | d :: r => d + 4294967296 * nJ r
def Ws (l : List Nat) : Prop:=∀ d ∈ l,d < 4294967296
def qN (l : List Nat) : Prop:=∀ d,l.getLast? = some d → d ≠ 0
def pY : List Nat → List Nat
 | [] => []
 | d :: r => match pY r with
  | [] => if d = 0 then [] else [d]
  | e :: q => d :: e :: q
theorem Eh : ∀ l : List Nat,nJ (pY l) = nJ l
 | [] => rfl
 | d :: r => by
  have ih:=Eh r
  unfold pY
  split
  ·rename_i h; rw [h] at ih
   simp only [nJ] at ih
   split
   ·rename_i h0; simp [nJ,h0,← ih]
   ·simp [nJ,← ih]
  ·rename_i e q h; rw [h] at ih
   simp only [nJ]
   rw [← ih]
   simp only [nJ]
theorem yJ : ∀ l : List Nat,qN (pY l)
 | [] => by simp [pY,qN]
 | d :: r => by
  have ih:=yJ r
  unfold pY
  split
  ·split
   ·simp [qN]
   ·rename_i h0; simpa [qN] using h0
  ·rename_i e q h; rw [h] at ih
   intro x hx
   rw [List.getLast?_cons_cons] at hx
   exact ih x hx
theorem Dz : ∀ l : List Nat,pY l = l.take (pY l).length
 | [] => rfl
 | d :: r => by
  have ih:=Dz r
  unfold pY
  split
  ·split <;> simp
  ·rename_i e q h
   rw [h] at ih
   simp only [List.length_cons,List.take_succ_cons]
   rw [List.length_cons] at ih
   rw [← ih]
theorem trimW_snoc (l : List Nat) (d : Nat) : pY (l ++ [d]) = if d = 0 then pY l else l ++ [d]:=by
 induction l with
 | nil => simp [pY]
 | cons x r ih =>
  rw [List.cons_append,pY,ih]
  by_cases h : d = 0
  ·rw [if_pos h,if_pos h,pY]
  ·rw [if_neg h,if_neg h]
   cases r <;> simp
theorem Ws.trim {l : List Nat} (h : Ws l) : Ws (pY l):=fun d hd => h d (by rw [Dz] at hd; exact List.mem_of_mem_take hd)
theorem wval_app (l r : List Nat) : nJ (l ++ r) = nJ l + 4294967296 ^ l.length * nJ r:=by
 induction l with
 | nil => simp [nJ]
 | cons d l ih =>
  simp only [List.cons_append,nJ,ih,List.length_cons,Nat.pow_succ]
  rw [Nat.mul_add,← Nat.mul_assoc,Nat.add_assoc,Nat.mul_comm 4294967296 (4294967296 ^ l.length)]
theorem Em {l : List Nat} (h : qN l) : nJ l = 0 ↔ l = []:=by
 constructor
 ·intro h0
  rcases List.eq_nil_or_concat l with rfl | ⟨q,d,rfl⟩
  ·rfl
  ·rw [List.concat_eq_append] at h h0
   have hd:=h d (by simp)
   rw [wval_app] at h0
   simp only [nJ,Nat.mul_zero,Nat.add_zero] at h0
   have : 0 < 4294967296 ^ q.length * d:=Nat.mul_pos (Nat.pow_pos (by decide)) (Nat.pos_of_ne_zero hd)
   omega
 ·rintro rfl; rfl
theorem Gg : ∀ {l r : List Nat},Ws l → Ws r → qN l → qN r → nJ l = nJ r → l = r
 | [],r,_,_,_,h4,h => ((Em h4).1 h.symm).symm
 | d :: l,[],_,_,h3,_,h => (Em h3).1 h
 | d :: l,e :: r,h1,h2,h3,h4,h => by
  simp only [nJ] at h
  have hd:=h1 d (by simp)
  have he:=h2 e (by simp)
  have : d = e:=by omega
  subst this
  have h' : nJ l = nJ r:=by omega
  have t1 : qN l:=fun x hx => h3 x (by
   cases l with
   | nil => simp at hx
   | cons a b => rw [List.getLast?_cons_cons]; exact hx)
  have t2 : qN r:=fun x hx => h4 x (by
   cases r with
   | nil => simp at hx
   | cons a b => rw [List.getLast?_cons_cons]; exact hx)
  rw [Gg (fun x hx => h1 x (by simp [hx])) (fun x hx => h2 x (by simp [hx])) t1 t2 h']
def wordsOf (n : Nat) : List Nat:=if h : n = 0 then [] else (n % 4294967296) :: wordsOf (n / 4294967296)
termination_by n
decreasing_by omega
theorem Bj (n : Nat) : nJ (wordsOf n) = n:=by
 induction n using Nat.strongRecOn with
 | _ n ih =>
  rw [wordsOf]
  split
  ·rename_i h; simp [nJ,h]
  ·rename_i h
   simp only [nJ]
   rw [ih (n / 4294967296) (by omega)]
   omega
theorem DJ (n : Nat) : Ws (wordsOf n):=by
 induction n using Nat.strongRecOn with
 | _ n ih =>
  rw [wordsOf]
  split
  ·intro d hd; simp at hd
  ·rename_i h
   intro d hd
   rcases List.mem_cons.1 hd with rfl | hd
   ·omega
   ·exact ih (n / 4294967296) (by omega) d hd
theorem qY {n : Nat} : wordsOf n = [] ↔ n = 0:=by
 rw [wordsOf]
 split <;> simp_all
theorem wordsOf_trimmed (n : Nat) : qN (wordsOf n):=by
 induction n using Nat.strongRecOn with
 | _ n ih =>
  rw [wordsOf]
  split
  ·simp [qN]
  ·rename_i h
   intro d hd
   cases hw : wordsOf (n / 4294967296) with
   | nil =>
    rw [hw] at hd
    simp at hd
    have:=qY.1 hw
    omega
   | cons a b =>
    rw [hw,List.getLast?_cons_cons,← hw] at hd
    exact ih (n / 4294967296) (by omega) d hd
theorem words_is {l : List Nat} (h1 : Ws l) (h2 : qN l) : l = wordsOf (nJ l) :=
 Gg h1 (DJ _) h2 (wordsOf_trimmed _) (Bj _).symm
theorem DC {l : List Nat} (h1 : Ws l) : pY l = wordsOf (nJ l):=by
 rw [← Eh]
 exact words_is h1.trim (yJ l)
theorem Bi {n k : Nat} (h : n < 4294967296 ^ k) : (wordsOf n).length ≤ k:=by
 induction k generalizing n with
 | zero =>
  have : n = 0:=by simpa using h
  subst this
  simp [wordsOf]
 | succ k ih =>
  rw [wordsOf]
  split
  ·simp
  ·simp only [List.length_cons]
   have : n / 4294967296 < 4294967296 ^ k:=by
    rw [Nat.pow_succ] at h
    exact Nat.div_lt_of_lt_mul (by rw [Nat.mul_comm]; exact h)
   have:=ih this
   omega
def vV (n : Nat) : List UInt8:=if h : n = 0 then [] else UInt8.ofNat (48 + n % 10) :: vV (n / 10)
termination_by n
decreasing_by omega
theorem Fz (n : Nat) (h : n ≠ 0) : (vV n).reverse = Lib.decDigits n:=by
 induction n using Nat.strongRecOn with
 | _ n ih =>
  rw [vV,dif_neg h,Lib.decDigits]
  by_cases h10 : n < 10
  ·rw [dif_pos h10,vV,dif_pos (by omega)]
   simp [Nat.mod_eq_of_lt h10]
  ·rw [dif_neg h10,List.reverse_cons,ih (n / 10) (by omega) (by omega)]
theorem Au (n : Int) (h : n ≠ 0) : (if n < 0 then (vV n.natAbs ++ [45]).reverse else (vV n.natAbs).reverse) = Lib.itoa n:=by
 unfold Lib.itoa
 split
 ·rw [List.reverse_append,Fz _ (by omega)]; rfl
 ·rw [Fz _ (by omega)]
  congr 1
  omega
theorem itoa_zero : Lib.itoa 0 = [48]:=by decide +kernel
theorem FB {n k : Nat} (h : n < 10 ^ k) : (vV n).length ≤ k:=by
 induction k generalizing n with
 | zero =>
  have : n = 0:=by simpa using h
  subst this
  simp [vV]
 | succ k ih =>
  rw [vV]
  split
  ·simp
  ·simp only [List.length_cons]
   have : n / 10 < 10 ^ k:=by
    rw [Nat.pow_succ] at h
    exact Nat.div_lt_of_lt_mul (by rw [Nat.mul_comm]; exact h)
   have:=ih this
   omega
end Go.Proofs.YtpidjanngbaiiaaGreatDoor
