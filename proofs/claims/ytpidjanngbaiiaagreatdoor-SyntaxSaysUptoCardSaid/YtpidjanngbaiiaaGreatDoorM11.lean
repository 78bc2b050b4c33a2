/-
  PrO PrH PrSh0 Bld VlW BgN
-/
import Derived.Test.YtpidjanngbaiiaaGreatDoorM10
import Derived.Test.YtpidjanngbaiiaaGreatDoorM6
import Derived.Test.YtpidjanngbaiiaaGreatDoorM8
import Derived.Test.YtpidjanngbaiiaaGreatDoorM2
import Derived.Shelf.Strings.Builder1
import Derived.Test.YtpidjanngbaiiaaGreatDoorM5
import Derived.Lib.AppendIntMem
import Derived.Lib.ItoaMem
namespace Go.Proofs.YtpidjanngbaiiaaGreatDoor
open Go.RowKit Go.Proofs
set_option maxRecDepth 100000
set_option maxHeartbeats 32000000

theorem shape_any (p : Pr) (v : Value) (w : World) (hv : zn All w v p) (hf : bF 1048576 p) (hT : Tabs w) (hW : rY w) :
  Calls Tryz.prog 84 #[v] w fun e w' => e = .returned (.int .i64 (nU p)) ∧ Below w.heap.size w w':=by
 obtain ⟨kind,chan,name,label,xk,xn,xs,xv,xt,af,exprs,names,tk,ts,tn,tl,ag,labels,kids⟩:=p
 obtain ⟨A1,n1,c1,A2,n2,c2,A3,n3,c3,A4,n4,c4,A5,n5,c5,A6,n6,c6,A7,n7,c7,rfl,q1,q2,q3,q4,q5,q6,q7⟩:=hv.one'
 simp only [Pr.aK,Pr.aT,Pr.aI,Pr.aV,Pr.jm,Pr.jl,Pr.jg,Pr.jq,Pr.ji,Pr.aY,Pr.aW,Pr.aU,Pr.jk,Pr.jo,Pr.jh,Pr.jy,Pr.aX,Pr.aH,Pr.aN] at q1 q2 q3 q4 q5 q6 q7 ⊢
 have Ed : n6 = labels.length:=by obtain ⟨_,_,e,-⟩:=q6; injection e
 have H9:=zH Ed
 have HL2 : Hid (n2 = exprs.length):=zH (by obtain ⟨_,_,e,-⟩:=q2; injection e)
 have Ia : Hid (n3 = names.length):=zH (by obtain ⟨_,_,e,-⟩:=q3; injection e)
 have HL7 : Hid (n7 = kids.length):=zH (by obtain ⟨_,_,e,-⟩:=q7; injection e)
 have HVV:=zH hv
 have Q1:=zH q1
 have Q2:=zH q2
 have Q3:=zH q3
 have Q4:=zH q4
 have Q5:=zH q5
 have Q6:=zH q6
 have Q7:=zH q7
 obtain ⟨ANS,hA⟩ : ∃ x,nU (.mk kind chan name label xk xn xs xv xt af exprs names tk ts tn tl ag labels kids) = x:=⟨_,rfl⟩
 have HA:=zH hA
 rw [hA]
 have HF:=zH hf
 have HT:=zH hT
 have HW:=zH hW
 clear hA hf hT hW q1 q2 q3 q4 q5 q6 q7 hv Ed
 have HC:=fun w => formed_cells kind chan name label xk xn xs xv xt A1 n1 c1 A2 n2 c2 A3 n3 c3 tk ts tn A4 n4 c4 A5 n5 c5 A6 n6 c6 A7 n7 c7 w
 obtain ⟨f,hf⟩ : ∃ f,jw kind n6 = f:=⟨_,rfl⟩
 rw [hf] at HC
 have MW:=zH hf
 clear hf
 obtain ⟨f0,f1,f2,f3,f4,f5,f6,f7,f8⟩:=f
 simp only [rq] at HC
 obtain ⟨IK,TY⟩ : ∃ b,isKind kind = b:=⟨_,rfl⟩
 rw [TY] at HC
 have Pg:=zH TY
 clear TY
 go_enter Tryz.func84,Tryz.ntmps84
 iterate 14 (first | go_values | go_skip | go_guarded | go_step | go_upon | go_back)
 obtain ⟨W,hW⟩ : ∃ W,w.alloc (.cells #[.int .i64 kind,.string ⟨chan.toArray⟩,.string ⟨name.toArray⟩,.string ⟨label.toArray⟩,.int .i64 xk,.string ⟨xn.toArray⟩,.int .i64 xs,.int .i64 xv,.string ⟨xt.toArray⟩,.slice A1 n1 c1,.slice A2 n2 c2,.slice A3 n3 c3,.int .i64 tk,.int .i64 ts,.string ⟨tn.toArray⟩,.slice A4 n4 c4,.slice A5 n5 c5,.slice A6 n6 c6,.slice A7 n7 c7] 85) = W:=⟨_,rfl⟩
 rw [hW]
 have hbW : Below w.heap.size w W:=by subst hW; go_grown
 have hB : nM W w.heap.size (.mk kind chan name label xk xn xs xv xt af exprs names tk ts tn tl ag labels kids) (.slice A1 n1 c1) (.slice A2 n2 c2) (.slice A3 n3 c3) (.slice A4 n4 c4) (.slice A5 n5 c5) (.slice A6 n6 c6) (.slice A7 n7 c7):=by
  subst hW
  exact ww w (.mk kind chan name label xk xn xs xv xt af exprs names tk ts tn tl ag labels kids) _ _ _ _ _ _ _ 85
 clear hW
 refine uC hB rfl (.tmp 1) rfl rfl ?_
 simp only [Pr.aK,Pr.aT,Pr.aI,Pr.aV,Pr.jm,Pr.jl,Pr.jg,Pr.jq,Pr.ji,Pr.jk,Pr.jo,Pr.jh]
 go_wp2_with fail
 refine (HC _).mono ?_
 clear HC
 rintro e w1 ⟨rfl,hb1⟩
 have hB1:=hB.kept hb1
 have IZ:=chain hbW hb1
 clear hB hbW
 rename_i KR Ec
 have D6:=zH Ec
 clear Ec
 go_wp2_with fail
 refine D6.out _ _ ?_
 clear D6
 rename_i K2 h2
 have H2:=zH h2
 clear h2
 go_wp2_with fail
 obtain ⟨W2,hW2⟩ : ∃ x,w1.alloc (.cells #[.bool f0,.bool f1,.bool f2,.bool f3,.bool f4,.bool f5,.bool f6,.bool f7,.int .i64 f8] 173) = x:=⟨_,rfl⟩
 have hb2 : Below w1.heap.size w1 W2:=by subst hW2; go_grown
 have Sv : Ik W2 w1.heap.size ⟨f0,f1,f2,f3,f4,f5,f6,f7,f8⟩:=by subst hW2; exact ⟨by simp [go_sem],by simp [go_sem],by simp [go_sem],by simp [go_sem],by simp [go_sem],by simp [go_sem],by simp [go_sem],by simp [go_sem],by simp [go_sem]⟩
 rw [hW2]
 clear hW2
 have hB2:=hB1.kept hb2
 have hbw2:=chain IZ hb2
 have c17:=hB2.c17
 have zZ:=zH hB2
 have NZ:=zH Sv
 clear hB1 hB2 Sv IZ hb1 hb2
 generalize w1.heap.size = q at NZ ⊢
 clear w1
 refine H2.out _ _ ?_
 clear H2
 have hls : labels.length ≤ 1048576 ∧ ∀ l ∈ labels,l.length ≤ 1048576:=by
  have:=HF.out.parts
  simp only [Pr.aK,Pr.aT,Pr.aI,Pr.aV,Pr.jm,Pr.jl,Pr.jg,Pr.jq,Pr.ji,Pr.aY,Pr.aW,Pr.aU,Pr.jk,Pr.jo,Pr.jh,Pr.jy,Pr.aX,Pr.aH,Pr.aN] at this
  exact ⟨this.2.2.2.2.2.2.2.2.2.2.2.2.2.2.2.2.2.2.2.2.2.2.1,this.2.2.2.2.2.2.2.2.2.2.2.2.2.2.2.2.2.2.2.2.2.2.2.1⟩
 have Gm:=zH hls
 clear hls
 have hn6m : n6 ≤ 1048576:=by have:=Gm.out.1; have:=H9.out; omega
 have hQ6:=Q6.out.below hbw2
 have HQ6:=zH hQ6
 clear hQ6
 have hge : decide ((1 : Int) ≤ (n6 : Int)) = decide (1 ≤ n6):=by rw [decide_eq_decide]; omega
 have HRF : ∀ {k : Nat},k ≤ n6 → True:=fun _ => trivial
 clear HRF
 have hlo : labels.length < 1 ∨ 6 < labels.length → aJ labels = false:=by
  intro h
  unfold aJ
  rcases h with h | h
  ·simp [show ¬ 1 ≤ labels.length by omega]
  ·simp [show ¬ labels.length ≤ 6 by omega]
 have Uu:=zH hlo
 clear hlo
 have nb : name.length ≤ 9223372036854775807:=by
  have:=HF.out.parts
  simp only [Pr.aK,Pr.aT,Pr.aI,Pr.aV,Pr.jm,Pr.jl,Pr.jg,Pr.jq,Pr.ji,Pr.aY,Pr.aW,Pr.aU,Pr.jk,Pr.jo,Pr.jh,Pr.jy,Pr.aX,Pr.aH,Pr.aN] at this
  have:=this.2.2.1
  omega
 go_wp2_with fail
 ·go_loopw [5,31] (fun rv i wr => ∃ (r : Bool) (k : Nat),rv = .bool r ∧ i = .int .i64 k ∧ k ≤ n6 ∧ Hid ((r = true → (1 ≤ n6 ∧ n6 ≤ 6) ∧ og none labels = og (prev labels k) (labels.drop k)) ∧ (r = false → aJ labels = false)) ∧ Below W2.heap.size W2 wr) (fun _ i _ => n6 - (intOf i).toNat)
  case atStart =>
   refine ⟨_,0,rfl,rfl,by omega,zH ⟨fun h => ⟨?_,by simp [prev]⟩,fun h => Uu.out ?_⟩,Below.refl _ _⟩
   ·first
     | (exact ⟨by assumption,by have:=of_decide_eq_true h; omega⟩)
     | (exact absurd h (by decide))
   ·have:=H9.out
    first
     | (have h2:=of_decide_eq_false h; omega)
     | omega
  case round =>
   obtain ⟨r,k,rfl,rfl,hk,hf,hbw⟩:=hrel
   by_cases hlt : k < n6
   ·have hQ6:=HQ6.out
    obtain ⟨A',cap',e,hc,hr⟩:=hQ6
    injection e with e1 e2 e3
    subst e1 e3
    obtain ⟨b,off,rfl,-,hrow⟩:=hr (by have:=H9.out; omega)
    obtain ⟨s,hs⟩ : ∃ s,labels[k]? = some s:=⟨_,List.getElem?_eq_getElem (by have:=H9.out; omega)⟩
    have HK:=zH hs
    have hsl : s.length ≤ 9223372036854775807:=by have:=Gm.out.2 s (List.mem_of_getElem? hs); omega
    have d0 : wr.cell? ⟨b,off + k,none⟩ = some (.string ⟨s.toArray⟩):=ae (hrow k s hs) hbw
    have d17:=(zZ.out.kept hbw).c17
    have HRW:=zH hrow
    have hc6 : n6 ≤ c6:=by have:=H9.out; omega
    clear hs hrow e2 hr hc c17
    cases r with
    | false =>
     go_wp2_with fail
     go_roundw
     case rel => exact ⟨false,k + 1,rfl,by go_num,by omega,zH ⟨fun h => (by cases h),fun _ => hf.out.2 (by trivial)⟩,hbw⟩
     case measure => simp [intOf]; omega
    | true =>
     obtain ⟨B,hB⟩ : ∃ x,ah s = x:=⟨_,rfl⟩
     have HB:=zH hB; clear hB
     cases B with
     | false =>
      go_wp2_with fail
      refine (ik s _ hsl).mono ?_; rw [HB.out]; rintro e w3 ⟨rfl,hb3⟩
      go_wp2_with fail
      go_roundw
      case rel =>
       refine ⟨false,k + 1,rfl,by go_num,by omega,zH ⟨fun h => (by cases h),fun _ => ?_⟩,chain hbw hb3⟩
       have:=(hf.out.1 (by trivial)).2
       rw [rM HK.out,HB.out] at this
       simp [aJ,this]
      case measure => simp [intOf]; omega
     | true =>
      rcases Nat.eq_zero_or_pos k with h0 | h0
      ·subst h0
       simp only [Nat.add_zero] at d0
       go_wp2_with fail
       refine (ik s _ hsl).mono ?_; rw [HB.out]; rintro e w3 ⟨rfl,hb3⟩
       go_wp2_with fail
       go_roundw
       case rel =>
        refine ⟨true,1,rfl,by simp,by omega,zH ⟨fun _ => ⟨(hf.out.1 (by trivial)).1,?_⟩,fun h => by cases h⟩,chain hbw hb3⟩
        have:=(hf.out.1 (by trivial)).2
        rw [rM HK.out,HB.out] at this
        rw [this]
        simp [behind,prev]
       case measure => simp [intOf]; omega
      ·obtain ⟨q',hq⟩ : ∃ s,labels[k - 1]? = some s:=⟨_,List.getElem?_eq_getElem (by have:=H9.out; omega)⟩
       have HQ:=zH hq
       have d1 : wr.cell? ⟨b,off + (k - 1),none⟩ = some (.string ⟨q'.toArray⟩):=ae (HRW.out (k - 1) q' hq) hbw
       have cs1 : (k : Int) - 1 = ((k - 1 : Nat) : Int):=by omega
       have k1 : ((k : Int) == 0) = false:=by rw [beq_eq_false_iff_ne]; omega
       clear hq
       go_wp2_with fail
       refine (ik s _ hsl).mono ?_; rw [HB.out]; rintro e w3 ⟨rfl,hb3⟩
       have d2:=ae d1 hb3
       have d3:=ae d17 hb3
       go_wp2_with fail
       have hpv : prev labels k = some q':=by unfold prev; rw [if_neg (by omega),HQ.out]
       have hof:=(hf.out.1 (by trivial)).2
       rw [rM HK.out,HB.out,hpv,xI,Bool.true_and] at hof
       have UL:=zH hof
       clear hof
       refine ⟨⟨Op.bytesLess q' s,k + 1,rfl,by simp,by omega,zH ⟨fun h => ⟨(hf.out.1 (by trivial)).1,?_⟩,fun h => ?_⟩,chain hbw hb3⟩,by simp [intOf]; omega⟩
       ·rw [UL.out,h,Bool.true_and]
       ·have:=UL.out
        rw [h,Bool.false_and] at this
        simp [aJ,this]
   ·have hk2 : k = n6:=by omega
    subst hk2
    have HRR : Hid (aJ labels = r):=by
     refine zH ?_
     cases r with
     | false => exact hf.out.2 (by trivial)
     | true =>
      have h1:=hf.out.1 (by trivial)
      have h2:=H9.out
      unfold aJ
      rw [h1.2,List.drop_eq_nil_of_le (by omega)]
      simp only [og,Bool.true_and,← h2]
      simp [h1.1]
    have d0:=(zZ.out.kept hbw).c0
    have d2:=(zZ.out.kept hbw).c2
    simp only [Pr.aK,Pr.aI] at d0 d2
    clear c17
    obtain ⟨BN,hBN⟩ : ∃ x,ah name = x:=⟨_,rfl⟩
    have BO:=zH hBN
    clear hBN
    cases BN with
    | false =>
     go_wp2_with fail
     refine (ik name _ nb).mono ?_; rw [BO.out]; rintro e w3 ⟨rfl,hb3⟩
     rename_i KR Ec
     have D6:=zH Ec
     clear Ec
     rename_i K8 h8
     have H8:=zH h8
     clear h8
     go_wp2_with fail
     refine D6.out _ _ ?_
     clear D6
     go_wp2_with fail
     refine H8.out _ _ ?_
     clear H8
     have hbf:=chain hbw hb3
     have hBx:=zZ.out.kept hbf
     have hFx:=NZ.out.keep hbf
     have hbz:=chain hbw2 hbf
     refine sG kind chan name label xk xn xs xv xt af exprs names tk ts tn tl ag labels kids _ _ _ _ _ _ _ _ _ _ _ _ _ _ _ _ _ _ _ _ _ _ _ _ f0 f1 f2 f3 f4 f5 f6 f7 f8 w IK _ false hBx hFx hbz (HVV.out.below hbz) HF.out (HT.out.below hbz) ANS HA MW Pg (zH HRR.out) (zH ?_)
     show (ah name && (!decide (kind = 13) || nC name)) = _
     rw [BO.out]; rfl
    | true =>
     by_cases h13 : kind = 13
     ·have e13 : (kind != 13) = false:=by rw [bne_eq_false_iff_eq]; exact h13
      have Oj:=zH h13
      clear h13
      obtain ⟨BP,PQ⟩ : ∃ x,nC name = x:=⟨_,rfl⟩
      have Q8:=zH PQ
      clear PQ
      go_wp2_with fail
      refine (ik name _ nb).mono ?_; rw [BO.out]; rintro e w3 ⟨rfl,hb3⟩
      have d4:=ae d0 hb3
      have d5:=ae d2 hb3
      go_wp2_with fail
      refine (sD name _ nb (HW.out.keep (chain hbw2 (chain hbw hb3)))).mono ?_; rw [Q8.out]; rintro e w4 ⟨rfl,hb4⟩
      rename_i KR Ec
      have D6:=zH Ec
      clear Ec
      rename_i K8 h8
      have H8:=zH h8
      clear h8
      go_wp2_with fail
      refine D6.out _ _ ?_
      clear D6
      go_wp2_with fail
      refine H8.out _ _ ?_
      clear H8
      have hbf:=chain hbw (chain hb3 hb4)
      have hBx:=zZ.out.kept hbf
      have hFx:=NZ.out.keep hbf
      have hbz:=chain hbw2 hbf
      refine sG kind chan name label xk xn xs xv xt af exprs names tk ts tn tl ag labels kids _ _ _ _ _ _ _ _ _ _ _ _ _ _ _ _ _ _ _ _ _ _ _ _ f0 f1 f2 f3 f4 f5 f6 f7 f8 w IK _ BP hBx hFx hbz (HVV.out.below hbz) HF.out (HT.out.below hbz) ANS HA MW Pg (zH HRR.out) (zH ?_)
      show (ah name && (!decide (kind = 13) || nC name)) = _
      rw [BO.out,Q8.out,Oj.out]; rfl
     ·have e13 : (kind != 13) = true:=by rw [bne_iff_ne]; exact h13
      have Oj:=zH h13
      clear h13
      go_wp2_with fail
      refine (ik name _ nb).mono ?_; rw [BO.out]; rintro e w3 ⟨rfl,hb3⟩
      have d4:=ae d0 hb3
      rename_i KR Ec
      have D6:=zH Ec
      clear Ec
      rename_i K8 h8
      have H8:=zH h8
      clear h8
      go_wp2_with fail
      refine D6.out _ _ ?_
      clear D6
      go_wp2_with fail
      refine H8.out _ _ ?_
      clear H8
      have hbf:=chain hbw hb3
      have hBx:=zZ.out.kept hbf
      have hFx:=NZ.out.keep hbf
      have hbz:=chain hbw2 hbf
      refine sG kind chan name label xk xn xs xv xt af exprs names tk ts tn tl ag labels kids _ _ _ _ _ _ _ _ _ _ _ _ _ _ _ _ _ _ _ _ _ _ _ _ f0 f1 f2 f3 f4 f5 f6 f7 f8 w IK _ true hBx hFx hbz (HVV.out.below hbz) HF.out (HT.out.below hbz) ANS HA MW Pg (zH HRR.out) (zH ?_)
      show (ah name && (!decide (kind = 13) || nC name)) = _
      rw [BO.out,decide_eq_false Oj.out]; rfl
 ·go_loopw [5,31] (fun rv i wr => ∃ (r : Bool) (k : Nat),rv = .bool r ∧ i = .int .i64 k ∧ k ≤ n6 ∧ Hid ((r = true → (1 ≤ n6 ∧ n6 ≤ 6) ∧ og none labels = og (prev labels k) (labels.drop k)) ∧ (r = false → aJ labels = false)) ∧ Below W2.heap.size W2 wr) (fun _ i _ => n6 - (intOf i).toNat)
  case atStart =>
   refine ⟨_,0,rfl,rfl,by omega,zH ⟨fun h => ⟨?_,by simp [prev]⟩,fun h => Uu.out ?_⟩,Below.refl _ _⟩
   ·first
     | (exact ⟨by assumption,by have:=of_decide_eq_true h; omega⟩)
     | (exact absurd h (by decide))
   ·have:=H9.out
    first
     | (have h2:=of_decide_eq_false h; omega)
     | omega
  case round =>
   obtain ⟨r,k,rfl,rfl,hk,hf,hbw⟩:=hrel
   by_cases hlt : k < n6
   ·exfalso; omega
   ·have hk2 : k = n6:=by omega
    subst hk2
    have HRR : Hid (aJ labels = r):=by
     refine zH ?_
     cases r with
     | false => exact hf.out.2 (by trivial)
     | true =>
      have h1:=hf.out.1 (by trivial)
      have h2:=H9.out
      unfold aJ
      rw [h1.2,List.drop_eq_nil_of_le (by omega)]
      simp only [og,Bool.true_and,← h2]
      simp [h1.1]
    have d0:=(zZ.out.kept hbw).c0
    have d2:=(zZ.out.kept hbw).c2
    simp only [Pr.aK,Pr.aI] at d0 d2
    clear c17
    obtain ⟨BN,hBN⟩ : ∃ x,ah name = x:=⟨_,rfl⟩
    have BO:=zH hBN
    clear hBN
    cases BN with
    | false =>
     go_wp2_with fail
     refine (ik name _ nb).mono ?_; rw [BO.out]; rintro e w3 ⟨rfl,hb3⟩
     rename_i KR Ec
     have D6:=zH Ec
     clear Ec
     rename_i K8 h8
     have H8:=zH h8
     clear h8
     go_wp2_with fail
     refine D6.out _ _ ?_
     clear D6
     go_wp2_with fail
     refine H8.out _ _ ?_
     clear H8
     have hbf:=chain hbw hb3
     have hBx:=zZ.out.kept hbf
     have hFx:=NZ.out.keep hbf
     have hbz:=chain hbw2 hbf
     refine sG kind chan name label xk xn xs xv xt af exprs names tk ts tn tl ag labels kids _ _ _ _ _ _ _ _ _ _ _ _ _ _ _ _ _ _ _ _ _ _ _ _ f0 f1 f2 f3 f4 f5 f6 f7 f8 w IK _ false hBx hFx hbz (HVV.out.below hbz) HF.out (HT.out.below hbz) ANS HA MW Pg (zH HRR.out) (zH ?_)
     show (ah name && (!decide (kind = 13) || nC name)) = _
     rw [BO.out]; rfl
    | true =>
     by_cases h13 : kind = 13
     ·have e13 : (kind != 13) = false:=by rw [bne_eq_false_iff_eq]; exact h13
      have Oj:=zH h13
      clear h13
      obtain ⟨BP,PQ⟩ : ∃ x,nC name = x:=⟨_,rfl⟩
      have Q8:=zH PQ
      clear PQ
      go_wp2_with fail
      refine (ik name _ nb).mono ?_; rw [BO.out]; rintro e w3 ⟨rfl,hb3⟩
      have d4:=ae d0 hb3
      have d5:=ae d2 hb3
      go_wp2_with fail
      refine (sD name _ nb (HW.out.keep (chain hbw2 (chain hbw hb3)))).mono ?_; rw [Q8.out]; rintro e w4 ⟨rfl,hb4⟩
      rename_i KR Ec
      have D6:=zH Ec
      clear Ec
      rename_i K8 h8
      have H8:=zH h8
      clear h8
      go_wp2_with fail
      refine D6.out _ _ ?_
      clear D6
      go_wp2_with fail
      refine H8.out _ _ ?_
      clear H8
      have hbf:=chain hbw (chain hb3 hb4)
      have hBx:=zZ.out.kept hbf
      have hFx:=NZ.out.keep hbf
      have hbz:=chain hbw2 hbf
      refine sG kind chan name label xk xn xs xv xt af exprs names tk ts tn tl ag labels kids _ _ _ _ _ _ _ _ _ _ _ _ _ _ _ _ _ _ _ _ _ _ _ _ f0 f1 f2 f3 f4 f5 f6 f7 f8 w IK _ BP hBx hFx hbz (HVV.out.below hbz) HF.out (HT.out.below hbz) ANS HA MW Pg (zH HRR.out) (zH ?_)
      show (ah name && (!decide (kind = 13) || nC name)) = _
      rw [BO.out,Q8.out,Oj.out]; rfl
     ·have e13 : (kind != 13) = true:=by rw [bne_iff_ne]; exact h13
      have Oj:=zH h13
      clear h13
      go_wp2_with fail
      refine (ik name _ nb).mono ?_; rw [BO.out]; rintro e w3 ⟨rfl,hb3⟩
      have d4:=ae d0 hb3
      rename_i KR Ec
      have D6:=zH Ec
      clear Ec
      rename_i K8 h8
      have H8:=zH h8
      clear h8
      go_wp2_with fail
      refine D6.out _ _ ?_
      clear D6
      go_wp2_with fail
      refine H8.out _ _ ?_
      clear H8
      have hbf:=chain hbw hb3
      have hBx:=zZ.out.kept hbf
      have hFx:=NZ.out.keep hbf
      have hbz:=chain hbw2 hbf
      refine sG kind chan name label xk xn xs xv xt af exprs names tk ts tn tl ag labels kids _ _ _ _ _ _ _ _ _ _ _ _ _ _ _ _ _ _ _ _ _ _ _ _ f0 f1 f2 f3 f4 f5 f6 f7 f8 w IK _ true hBx hFx hbz (HVV.out.below hbz) HF.out (HT.out.below hbz) ANS HA MW Pg (zH HRR.out) (zH ?_)
      show (ah name && (!decide (kind = 13) || nC name)) = _
      rw [BO.out,decide_eq_false Oj.out]; rfl
structure uK (p : Nat) (w : World) : Prop where
 e : ∃ b o c,w.cell? ⟨1,0,none⟩ = some (.slice (some ⟨b,o,none⟩) 14 c) ∧ 14 ≤ c ∧ vF w b o su ∧ b ≠ p
 n : 1 ≠ p
theorem uK.all {p : Nat} {w : World} (h : uK p w) : rY w:=by
 obtain ⟨b,o,c,h1,h2,h3,-⟩:=h.e
 exact ⟨b,o,c,h1,h2,h3⟩
theorem uK.grown {p : Nat} {w w' : World} (h : uK p w) (hg : w.grownBy w' (some p)) : uK p w':=by
 obtain ⟨b,o,c,h1,h2,h3,h4⟩:=h.e
 have hs:=jA hg
 exact ⟨⟨b,o,c,hs.cell h.n h1,h2,fun i s hi => hs.cell h4 (h3 i s hi),h4⟩,h.n⟩
theorem uK.new {p : Nat} {w : World} (h : rY w) (hp : w.heap.size ≤ p) : uK p w:=by
 obtain ⟨b,o,c,h1,h2,h3⟩:=h
 have l1:=cell_lt h1
 have l2:=cell_lt (h3 0 _ rfl)
 exact ⟨⟨b,o,c,h1,h2,h3,by omega⟩,by omega⟩
theorem prV_ones {D : aj} {w : World} {t : Pr} {v1 v2 v3 v4 v5 v6 v7 : Value} (h : zn D w (.agg #[.int .i64 t.kind,.string ⟨t.chan.toArray⟩,.string ⟨t.name.toArray⟩,.string ⟨t.label.toArray⟩,.int .i64 t.xk,.string ⟨t.xn.toArray⟩,.int .i64 t.xs,.int .i64 t.xv,.string ⟨t.xt.toArray⟩,v1,v2,v3,.int .i64 t.tk,.int .i64 t.ts,.string ⟨t.tn.toArray⟩,v4,v5,v6,v7]) t) : ∀ u ∈ ([v1,v2,v3,v4,v5,v6,v7] : List Value),u.oneCell' = true:=by
 obtain ⟨w1,w2,w3,w4,w5,w6,w7,e,q1,q2,q3,q4,q5,q6,q7⟩:=h
 simp only [Value.agg.injEq] at e
 have e':=congrArg Array.toList e
 simp only [List.cons.injEq,and_true,true_and] at e'
 obtain ⟨e1,e2,e3,e4,e5,e6,e7⟩:=e'
 subst e1 e2 e3 e4 e5 e6 e7
 intro u hu
 simp only [List.mem_cons,List.not_mem_nil,or_false] at hu
 rcases hu with rfl | rfl | rfl | rfl | rfl | rfl | rfl
 ·exact q1.one
 ·exact q2.one
 ·exact q3.one
 ·exact q4.one
 ·exact q5.one
 ·exact q6.one
 ·exact q7.one
def qQ (t : Pr) (v : Value) (p : Nat) (left : Int) (w : World) : Prop :=
 Calls Tryz.prog 51 #[v,.pointer (some ⟨p,0,none⟩)] w fun e w' => e = .returned (.int .i64 (mJ t left).1) ∧ w.grownBy w' (some p) ∧ Left w' p (mJ t left).2
abbrev UA (m : Nat) : Prop:=∀ (t : Pr) (v : Value) (p : Nat) (left : Int) (w : World),bG t ≤ m → zn (· ≠ p) w v t → bF 1048576 t → 0 ≤ left → left ≤ 200 → Left w p left → pK p w → uK p w → qQ t v p left w

theorem shapes_z (t : Pr) (v : Value) (p : Nat) (w : World) (hv : zn (· ≠ p) w v t) (hf : bF 1048576 t) (hl : Left w p 0) : qQ t v p 0 w:=by
 unfold qQ
 have e : mJ t 0 = (2,-1):=by cases t; simp [mJ]
 rw [e]
 clear e
 obtain ⟨kind,chan,name,label,xk,xn,xs,xv,xt,af,exprs,names,tk,ts,tn,tl,ag,labels,kids⟩:=t
 have HV:=zH hv
 obtain ⟨A1,n1,c1,A2,n2,c2,A3,n3,c3,A4,n4,c4,A5,n5,c5,A6,n6,c6,A7,n7,c7,rfl,q1,q2,q3,q4,q5,q6,q7⟩:=hv.one'
 simp only [Pr.aK,Pr.aT,Pr.aI,Pr.aV,Pr.jm,Pr.jl,Pr.jg,Pr.jq,Pr.ji,Pr.aY,Pr.aW,Pr.aU,Pr.jk,Pr.jo,Pr.jh,Pr.jy,Pr.aX,Pr.aH,Pr.aN] at q1 q2 q3 q4 q5 q6 q7 ⊢
 have Gx : n7 = kids.length:=by obtain ⟨_,_,e,-⟩:=q7; injection e
 have Bq:=zH Gx
 have Nc:=zH q7
 have HF:=zH hf
 clear hf hv q1 q2 q3 q4 q5 q6 q7 Gx
 have hp:=hl.lt
 have xe:=zH hl
 obtain ⟨c0,cf⟩:=hl
 go_enter Tryz.func51,Tryz.ntmps51
 go_wp2_with fail
 go_ret
 exact ⟨rfl,(gW w p _).trans (World.grownBy_alloc _ _ _),(xe.out.set _).keep ((Below.refl _ _).alloc (Nat.le_refl _) _)⟩
theorem shapes_s (m : Nat) (ih : UA m) (t : Pr) (v : Value) (p : Nat) (left : Int) (w : World) (hm : bG t ≤ m + 1) (hv : zn (· ≠ p) w v t) (hf : bF 1048576 t) (hpos : 1 ≤ left) (hle : left ≤ 200) (hl : Left w p left) (hT : pK p w) (hW : uK p w) : qQ t v p left w:=by
 unfold qQ
 obtain ⟨kind,chan,name,label,xk,xn,xs,xv,xt,af,exprs,names,tk,ts,tn,tl,ag,labels,kids⟩:=t
 have HV:=zH hv
 obtain ⟨A1,n1,c1,A2,n2,c2,A3,n3,c3,A4,n4,c4,A5,n5,c5,A6,n6,c6,A7,n7,c7,rfl,q1,q2,q3,q4,q5,q6,q7⟩:=hv.one'
 simp only [Pr.aK,Pr.aT,Pr.aI,Pr.aV,Pr.jm,Pr.jl,Pr.jg,Pr.jq,Pr.ji,Pr.aY,Pr.aW,Pr.aU,Pr.jk,Pr.jo,Pr.jh,Pr.jy,Pr.aX,Pr.aH,Pr.aN] at q1 q2 q3 q4 q5 q6 q7 ⊢
 have Gx : n7 = kids.length:=by obtain ⟨_,_,e,-⟩:=q7; injection e
 have Bq:=zH Gx
 have Nc:=zH q7
 have HF:=zH hf
 clear hf hv q1 q2 q3 q4 q5 q6 q7 Gx
 obtain ⟨ANS,hA⟩ : ∃ x,mJ (.mk kind chan name label xk xn xs xv xt af exprs names tk ts tn tl ag labels kids) left = x:=⟨_,rfl⟩
 rw [hA]
 have hA' : (if nU (.mk kind chan name label xk xn xs xv xt af exprs names tk ts tn tl ag labels kids) = 0 then qC kids (left - 1) else (nU (.mk kind chan name label xk xn xs xv xt af exprs names tk ts tn tl ag labels kids),left - 1)) = ANS:=by
  have hn : ¬ left - 1 < 0:=by omega
  rw [← hA]; conv => rhs; unfold mJ
  rw [if_neg hn]
 have HA:=zH hA'
 clear hA hA'
 have hp:=hl.lt
 have xe:=zH hl
 have HT:=zH hT
 have HWP:=zH hW
 obtain ⟨c0,cf⟩:=hl
 clear hT hW
 have hlt1 : ¬ left - 1 < 0:=by omega
 go_enter Tryz.func51,Tryz.ntmps51
 iterate 20 (first | go_values | go_skip | go_guarded | go_step | go_upon | go_back)
 obtain ⟨W0,hW0⟩ : ∃ W,w.alloc (.cells #[.int .i64 kind,.string ⟨chan.toArray⟩,.string ⟨name.toArray⟩,.string ⟨label.toArray⟩,.int .i64 xk,.string ⟨xn.toArray⟩,.int .i64 xs,.int .i64 xv,.string ⟨xt.toArray⟩,.slice A1 n1 c1,.slice A2 n2 c2,.slice A3 n3 c3,.int .i64 tk,.int .i64 ts,.string ⟨tn.toArray⟩,.slice A4 n4 c4,.slice A5 n5 c5,.slice A6 n6 c6,.slice A7 n7 c7] 85) = W:=⟨_,rfl⟩
 have hb0 : Below w.heap.size w W0:=by subst hW0; go_grown
 have hB0 : nM W0 w.heap.size (.mk kind chan name label xk xn xs xv xt af exprs names tk ts tn tl ag labels kids) (.slice A1 n1 c1) (.slice A2 n2 c2) (.slice A3 n3 c3) (.slice A4 n4 c4) (.slice A5 n5 c5) (.slice A6 n6 c6) (.slice A7 n7 c7):=by subst hW0; exact ww w (.mk kind chan name label xk xn xs xv xt af exprs names tk ts tn tl ag labels kids) _ _ _ _ _ _ _ 85
 rw [hW0]
 clear hW0
 have hl0:=xe.out.keep hb0
 have hL1:=hl0.set (left - 1)
 have hB1:=hB0.far (p:=⟨p,0,none⟩) (by simp only; omega) (.int .i64 (left - 1))
 have hg1 : w.grownBy (W0.setCell ⟨p,0,none⟩ (.int .i64 (left - 1))) (some p):=(grown_below hb0 _).trans (gW W0 p _)
 have hT1:=HT.out.grown hg1
 have hW1:=HWP.out.grown hg1
 have hV1:=(HV.out).keep (D':=(· ≠ p)) (jA hg1) (fun b h _ => h)
 obtain ⟨d0,df⟩:=hl0
 clear c0 cf hb0 hB0
 go_wp2_with (refine uC hB1 rfl (.tmp 2) rfl rfl ?_; simp only [Pr.aK,Pr.aT,Pr.aI,Pr.aV,Pr.jm,Pr.jl,Pr.jg,Pr.jq,Pr.ji,Pr.aY,Pr.aW,Pr.aU,Pr.jk,Pr.jo,Pr.jh,Pr.jy,Pr.aX,Pr.aH,Pr.aN])
 have fJ:=zH hV1
 have HC18:=zH hB1.c18
 have hn7m : n7 ≤ 1048576:=by have:=HF.out.parts; simp only [Pr.aK,Pr.aT,Pr.aI,Pr.aV,Pr.jm,Pr.jl,Pr.jg,Pr.jq,Pr.ji,Pr.aY,Pr.aW,Pr.aU,Pr.jk,Pr.jo,Pr.jh,Pr.jy,Pr.aX,Pr.aH,Pr.aN] at this; have h1:=this.2.2.2.2.2.2.2.2.2.2.2.2.2.2.2.2.2.2.2.2.2.2.2.2.1; have:=Bq.out; omega
 have HKF : Hid (∀ c ∈ kids,bF 1048576 c):=zH (by have:=HF.out.parts; simp only [Pr.aK,Pr.aT,Pr.aI,Pr.aV,Pr.jm,Pr.jl,Pr.jg,Pr.jq,Pr.ji,Pr.aY,Pr.aW,Pr.aU,Pr.jk,Pr.jo,Pr.jh,Pr.jy,Pr.aX,Pr.aH,Pr.aN] at this; exact this.2.2.2.2.2.2.2.2.2.2.2.2.2.2.2.2.2.2.2.2.2.2.2.2.2)
 obtain ⟨O1,Uy⟩ : ∃ x,nU (.mk kind chan name label xk xn xs xv xt af exprs names tk ts tn tl ag labels kids) = x:=⟨_,rfl⟩
 have hcall:=shape_any (.mk kind chan name label xk xn xs xv xt af exprs names tk ts tn tl ag labels kids) (.agg #[.int .i64 kind,.string ⟨chan.toArray⟩,.string ⟨name.toArray⟩,.string ⟨label.toArray⟩,.int .i64 xk,.string ⟨xn.toArray⟩,.int .i64 xs,.int .i64 xv,.string ⟨xt.toArray⟩,.slice A1 n1 c1,.slice A2 n2 c2,.slice A3 n3 c3,.int .i64 tk,.int .i64 ts,.string ⟨tn.toArray⟩,.slice A4 n4 c4,.slice A5 n5 c5,.slice A6 n6 c6,.slice A7 n7 c7]) (W0.setCell ⟨p,0,none⟩ (.int .i64 (left - 1))) hV1.all HF.out hT1.t hW1.all
 have hans:=HA.out
 rw [Uy] at hcall hans
 have uM:=zH hans
 have dP:=zH hcall
 clear Uy HA hcall hans hV1 hB1
 generalize W0.setCell ⟨p,0,none⟩ (.int .i64 (left - 1)) = W1 at *
 by_cases he : O1 = 0
 ·have hE : (O1 != 0) = false:=by rw [bne_eq_false_iff_eq]; exact he
  have hans : qC kids (left - 1) = ANS:=by have:=uM.out; rw [if_pos he] at this; exact this
  have uP:=zH hans
  clear hans he uM
  refine dP.out.mono ?_
  rintro e w2 ⟨rfl,hb2⟩
  have Me:=grown_below hb2 (some p)
  have hg2:=hg1.trans Me
  have hT2:=hT1.grown Me
  have hW2:=hW1.grown Me
  have hL2:=hL1.keep hb2
  have hK2 : yH (· ≠ p) w2 (.slice A7 n7 c7) kids:=Nc.out.keep (jA hg2) (fun b h _ => h)
  have EF:=zH hK2
  have c18 : w2.cell? ⟨w.heap.size,18,none⟩ = some (.slice A7 n7 c7):=ae HC18.out hb2
  have hzl : w.heap.size < w2.heap.size:=cell_lt c18
  clear hK2 hb2 Me hg1 hT1 hW1 hL1
  go_wp2_with fail
  go_loopw [26] (fun i wr => ∃ (j : Nat) (lk : Int),j ≤ n7 ∧ i = .int .i64 j ∧ 0 ≤ lk ∧ lk ≤ left - 1 ∧ Left wr p lk ∧ w.grownBy wr (some p) ∧ w2.grownBy wr (some p) ∧ pK p wr ∧ uK p wr ∧ Hid (qC kids (left - 1) = qC (kids.drop j) lk)) (fun i _ => n7 - (intOf i).toNat)
  case atStart => exact ⟨0,left - 1,by omega,rfl,by omega,by omega,hL2,hg2,grown_below (Below.refl _ _) _,hT2,hW2,zH rfl⟩
  case round =>
   clear hg2 hL2 hT2 hW2
   obtain ⟨j,lk,hj,rfl,hlk0,F8,hl1,hg,hgq,hT1,hW1,hs⟩:=hrel
   by_cases hlt : j < n7
   ·obtain ⟨c,hc'⟩ : ∃ y,kids[j]? = some y:=⟨_,List.getElem?_eq_getElem (by have:=Bq.out; omega)⟩
    have wH:=zH hc'
    obtain ⟨A',cap',e,hc1,-,hc3⟩:=EF.out.keep (D':=(· ≠ p)) (jA hgq) (fun b h _ => h)
    injection e with e1 e2 e3
    subst e1 e3
    obtain ⟨b',off,rfl,hbp,hrow⟩:=hc3 (by have:=Bq.out; omega)
    have hat:=zq hrow hc'
    have HAT:=zH hat
    have hcc : n7 ≤ c7:=by have:=Bq.out; omega
    clear hrow hc' hc3 hc1 e2
    have hcp : bG c ≤ m:=by
     have h1:=uZ (az wH.out)
     have h2 : 1 + oD kids ≤ m + 1:=hm
     omega
    have hcf : bF 1048576 c:=HKF.out c (az wH.out)
    have hstep:=hs.out
    rw [chkPs_drop wH.out] at hstep
    have HST:=zH hstep
    clear hstep hs hat
    have hnb:=new_prbox wr 85
    have TJ:=zH hnb
    clear hnb
    go_wp2_with (first | (refine wpList_loadPrAt HAT.out rfl (.tmp 28) rfl rfl ?_; intro v1 v2 v3 v4 v5 v6 v7 Tz; have Iu:=zH Tz; have Ir:=prV_ones Tz; clear Tz) | (refine wpList_storePr TJ.out rfl (.tmp 7) (.tmp 29) rfl rfl c v1 v2 v3 v4 v5 v6 v7 rfl Ir ?_; intro W hbx hbel; have hbW:=hbel _ _ (Nat.le_refl _) ((Below.refl wr.heap.size wr).alloc (Nat.le_refl _) _); have zZ:=zH hbx; have yC:=zH hbW; clear hbx hbel hbW) | (refine uC zZ.out rfl (.tmp 7) rfl rfl ?_))
    have O7:=grown_below yC.out (some p)
    have hcall:=ih c _ p lk W hcp (Iu.out.keep (Same.below yC.out) (fun b h _ => h)) hcf hlk0 (by omega) (hl1.keep yC.out) (hT1.grown O7) (hW1.grown O7)
    unfold qQ at hcall
    obtain ⟨R,hR⟩ : ∃ x,mJ c lk = x:=⟨_,rfl⟩
    have hst:=HST.out
    have hle2:=zQ c lk
    rw [hR] at hcall hst hle2
    have QL:=zH hst
    have FM:=zH hle2
    clear HST hst hle2 hR
    refine hcall.mono ?_
    clear hcall
    rintro e w8 ⟨rfl,SV,IG⟩
    have hga:=hg.trans (O7.trans SV)
    have hgb:=hgq.trans (O7.trans SV)
    have hTa:=hT1.grown (O7.trans SV)
    have hWa:=hW1.grown (O7.trans SV)
    by_cases he : R.1 = 0
    ·have hE : (R.1 != 0) = false:=by rw [bne_eq_false_iff_eq]; exact he
     have hp2 : 0 ≤ R.2 ∧ R.2 ≤ lk:=⟨FM.out.2 he hlk0,FM.out.1⟩
     have FO:=zH he
     clear he
     go_wp2_with fail
     go_roundw
     case rel => exact ⟨j + 1,R.2,by omega,by go_num,hp2.1,by omega,IG,hga,hgb,hTa,hWa,zH (by rw [QL.out,if_pos FO.out])⟩
     case measure => simp [intOf]; omega
    ·have hE : (R.1 != 0) = true:=by rw [bne_iff_ne]; exact he
     have FO:=zH he
     clear he
     go_wp2_with fail
     go_ret
     have h9 : ANS = R:=by rw [← uP.out,QL.out,if_neg FO.out]
     exact ⟨by rw [h9]; rfl,hga,by rw [h9]; exact IG⟩
   ·have hj7 : j = n7:=by omega
    subst hj7
    have hend : qC kids (left - 1) = (0,lk):=by rw [hs.out,List.drop_eq_nil_of_le (by have:=Bq.out; omega)]; rfl
    have HE:=zH hend
    clear hend hs
    go_wp2_with fail
    go_ret
    exact ⟨by rw [← uP.out,HE.out]; rfl,hg,by rw [← uP.out,HE.out]; exact hl1⟩
 ·have hE : (O1 != 0) = true:=by rw [bne_iff_ne]; exact he
  have hans : (O1,left - 1) = ANS:=by have:=uM.out; rw [if_neg he] at this; exact this
  have uP:=zH hans
  clear hans he uM
  refine dP.out.mono ?_
  rintro e w2 ⟨rfl,hb2⟩
  go_wp2_with fail
  go_ret
  exact ⟨by rw [← uP.out]; rfl,hg1.trans (grown_below hb2 _),by rw [← uP.out]; exact hL1.keep hb2⟩
theorem shapes_any : ∀ (m : Nat),UA m:=by
 intro m
 induction m with
 | zero => intro t v p left w h; cases t; simp only [bG] at h; omega
 | succ m ih =>
  intro t v p left w hm hv hf hl0 hle hl hT hW
  by_cases hz : left = 0
  ·subst hz; exact shapes_z t v p w hv hf hl
  ·exact shapes_s m ih t v p left w hm hv hf (by omega) hle hl hT hW
def yS : Code → Option Code
 | .seq a b => match yS a with
  | some c => some c
  | none => yS b
 | .block _ c => yS c
 | .loop c => some c
 | _ => none
def BC : Code → Code
 | .block _ c => c
 | _ => .skip
noncomputable def shBody : Code:=((Tryz.f16.body).bind yS).getD .skip
noncomputable def SS : Code:=BC (zx (bH (bH shBody)))
noncomputable def ND : Code:=bH SS
noncomputable def JQ : Code:=bH ND
noncomputable def Jk : Code:=bH JQ
noncomputable def Np : Code:=bH Jk
structure Hz (w wz : World) (p : Nat) (l : List Df) (A : Option Addr) (c : Nat) : Prop where
 bl : Below w.heap.size w wz
 ds : zY (· ≠ p) wz (.slice A l.length c) l
 tb : pK p wz
 wd : uK p wz
 hp : w.heap.size ≤ p
 pl : p < wz.heap.size
 wl : w.heap.size ≤ wz.heap.size
theorem Hz.next {w wz w2 : World} {p : Nat} {l : List Df} {A : Option Addr} {c : Nat} (h : Hz w wz p l A c) (hb : Below wz.heap.size wz w2) : Hz w w2 p l A c :=
 ⟨chain h.bl hb,h.ds.below hb,h.tb.grown (grown_below hb _),h.wd.grown (grown_below hb _),h.hp,Nat.lt_of_lt_of_le h.pl hb.size,Nat.le_trans h.wl hb.size⟩
theorem Hz.grown {w wz w2 : World} {p : Nat} {l : List Df} {A : Option Addr} {c : Nat} (h : Hz w wz p l A c) (hg : wz.grownBy w2 (some p)) : Hz w w2 p l A c :=
 ⟨h.bl.grown hg h.wl (fun k hk => by injection hk with hk; have:=h.hp; omega),h.ds.keep (jA hg) (fun _ h _ => h),h.tb.grown hg,h.wd.grown hg,h.hp,Nat.lt_of_lt_of_le h.pl hg.size,Nat.le_trans h.wl hg.size⟩
def Dx (u0 u1 u4 u6 u8 jr jv iW iY iZ jc jd je jL jC nD : Value) (l : List Df) (j : Nat) (A : Option Addr) (c : Nat) (w : World) (p : Nat) (ANS : Int) (N : Act → World → Prop) : Prop :=
 ∀ (wz : World) (lk : Int),Hz w wz p l A c → Left wz p lk → 0 ≤ lk → lk ≤ 200 → Hid (nS (l.drop (j + 1)) lk = ANS) → ∀ (v2 v5 v7 v9 Ny Nz Nu Nv JX JY JZ J3 Iz J4 J5 J6 J7 J8 Ij J9 Ko Kq Kr Kt Ku Kv Kw Ho Ky Kz KA KC IP KD IA KE KF KG KH KI KJ KL KN KO KP KQ KU KW KX KY KZ IB La IC Lc Ld IQ IR Le Lh Lj Ll Lm Lp Lr Ls Lt Lu LC JA LD Ns Nw Pz RH : Value),N { tmps:=#[u0,u1,v2,.pointer (some ⟨p,0,none⟩),u4,v5,u6,v7,u8,v9,Ny,Nz,jr,jv,iW,iY,iZ,jc,jd,je,jL,.slice A l.length c,.int .i64 l.length,.int .i64 j,jC,Nu,Nv,JX,JY,JZ,J3,Iz,J4,J5,J6,J7,J8,Ij,J9,Ko,Kq,Kr,Kt,Ku,Kv,Kw,Ho,Ky,Kz,KA,KC,IP,KD,IA,KE,KF,KG,KH,KI,KJ,KL,KN,KO,KP,KQ,KU,KW,KX,KY,KZ,IB,La,IC,Lc,Ld,IQ,IR,Le,Lh,Lj,Ll,Lm,Lp,Lr,Ls,Lt,Lu,LC,JA,LD,Ns,Nw,Pz,RH,nD],defers:=[] } wz
structure Ob (wz : World) (p q : Nat) (cs : List Value) (d : Df) : Prop where
 bx : qg wz q cs
 dc : Gn (· ≠ p) wz cs d
 qp : q ≠ p
theorem Ob.next {wz w2 : World} {p q : Nat} {cs : List Value} {d : Df} (h : Ob wz p q cs d) (hb : Below wz.heap.size wz w2) : Ob w2 p q cs d :=
 ⟨h.bx.keep hb h.bx.lt,h.dc.keep (Same.below hb) (fun _ h _ => h),h.qp⟩
abbrev uJ (B b : Nat) (l : List UInt8) (w : World) : Prop:=Lib.IsBuilder 92 5 B b (Lib.byteCells l) w
theorem yE (B b : Nat) (bs : List Value) (w : World) (h : Lib.IsBuilder 92 5 B b bs w) :
  Calls Tryz.prog 77 #[.pointer (some ⟨b,0,none⟩)] w fun e w' => e = .returned (.tuple #[]) ∧ Lib.BuilderAt 92 5 B b (.pointer (some ⟨b,0,none⟩)) bs w' ∧ Below B w w':=by
 have hsz : (Tryz.prog.info? 92).map (·.size) = some 2:=by kernel_rfl
 obtain ⟨j,hj,hjs⟩:=Option.map_eq_some_iff.1 hsz
 have hlies : liesAt Tryz.prog Tryz.prog.depth 92 (2 / Tryz.prog.cellsOf 92) 0 92 1 = true:=by kernel_rfl
 rcases h with h | h
 ·have h0:=h.cell0
  have hsh:=h.shape
  have hfz:=h.frozen0
  go_enter Tryz.func77,Tryz.ntmps77
  go_wp2
  rw [Lib.run_to_unsafe w ⟨b,0,none⟩ Tryz.underlying90 Tryz.underlying164 hj (by rw [hjs]; decide) hsh (Nat.zero_lt_succ 1)]
  simp only [Result.andThen]
  rw [Oper.upon_value]
  go_wp2
  rw [run_callFunc_extern Tryz.func108 (by kernel_rfl) (by kernel_rfl) (by kernel_rfl) (e:=Extern.AbiNoEscape.same) (by kernel_rfl)]
  rw [Lib.run_noEscape]
  simp only [Result.andThen]
  rw [Oper.upon_value]
  go_wp2
  rw [Lib.run_from_unsafe w ⟨b,0,none⟩ Tryz.underlying164 Tryz.underlying90 hj hsh hlies]
  simp only [Result.andThen]
  rw [Oper.upon_value]
  go_wp2
  go_end0
  exact ⟨rfl,h.used _,(Below.refl B w).setCell (p:=⟨b,0,none⟩) h.1 _⟩
 ·have h0:=h.cell0
  go_enter Tryz.func77,Tryz.ntmps77
  go_wp2
  rw [Lib.run_neq_ptr_same w _ Tryz.underlying90 hj]
  go_wp2
  go_end0
  exact ⟨rfl,h,Below.refl _ _⟩
theorem qJ (B b : Nat) (l : List UInt8) (c : UInt8) (w : World) (h : uJ B b l w) (hlen : l.length + 1 ≤ 140737488355328) (hBw : B ≤ w.heap.size) :
  Calls Tryz.prog 189 #[.pointer (some ⟨b,0,none⟩),.int .u8 c.toNat] w fun e w' => e = .returned .nilIface ∧ uJ B b (l ++ [c]) w' ∧ Below B w w':=by
 obtain ⟨i0,hi,hz0,hz1,hz2⟩:=info_parts (show (Tryz.prog.info? 5).map (fun i => (i.zero,i.size,i.bytes)) = some (some (.int .u8 0),1,1) by kernel_rfl)
 go_enter Tryz.func189,Tryz.ntmps189
 go_wp2_with fail
 refine (yE B b _ _ h).mono ?_
 rintro e w1 ⟨rfl,h1,hb1⟩
 obtain ⟨hB,v,hbk,hown,hne⟩:=h1
 rw [Lib.byteCells_length] at hown
 have c0 : w1.cell? ⟨b,0,none⟩ = some (.pointer (some ⟨b,0,none⟩)):=by rw [Lib.cell_of_heap hbk]; rfl
 have c1 : w1.cell? ⟨b,1,none⟩ = some v:=by rw [Lib.cell_of_heap hbk]; rfl
 go_wp2_with (at_builtin; refine wpList_append_own _ rfl _ _ 62 rfl B 5 i0 (.int .u8 0) 1 1 Tryz.underlying62 hi hz0 hz1 hz2 rfl (by decide) _ _ _ rfl (hown.alloc _) ⟨w1.heap.size,0,none⟩ 1 1 [.int .u8 c.toNat] rfl rfl ?c1 ?c2 ?c3 ?c4 ?c5 ?_)
 case c1 =>
  intro j u hj
  match j,hj with
  | 0,hj => simp at hj; subst hj; simp [Addr.add]
 case c2 => intro u hu; simp at hu; subst hu; rfl
 case c3 => unfold maxLen; omega
 case c4 => omega
 case c5 => have:=hb1.size; simp; omega
 intro v' w2 hown' hgrow _
 have hlt : b < w1.heap.size:=(Array.getElem?_eq_some_iff.1 hbk).1
 have hb2 : w2.heap[b]? = some (.cells #[.pointer (some ⟨b,0,none⟩),v] 92 (0,0)):=by
  rw [hgrow.block b (by simp; omega) (fun e => hne e.symm),Lib.alloc_old w1 _ b hlt]
  exact hbk
 have d0 : w2.cell? ⟨b,0,none⟩ = some (.pointer (some ⟨b,0,none⟩)):=by rw [Lib.cell_of_heap hb2]; rfl
 have d1 : w2.cell? ⟨b,1,none⟩ = some v:=by rw [Lib.cell_of_heap hb2]; rfl
 have f1 : w2.frozen? ⟨b,1,none⟩ = false:=Lib.frozen_of_heap hb2 1
 obtain ⟨g,cap,rfl⟩ : ∃ g cap,v' = .slice (some ⟨g,0,none⟩) (l.length + 1) cap:=by
  rcases hown'.2 with ⟨_,h0⟩ | ⟨g,cap,cur,hv,_⟩
  ·omega
  ·exact ⟨g,cap,hv⟩
 go_wp2_with fail
 go_ret
 refine ⟨rfl,?_,?_⟩
 ·have e : Lib.byteCells (l ++ [c]) = Lib.byteCells l ++ [.int .u8 c.toNat]:=by simp [Lib.byteCells]
  rw [uJ,e]
  exact Or.inr (Lib.BuilderAt.put (T:=92) (e:=5) hB hb2 (bs':=Lib.byteCells l ++ [.int .u8 c.toNat]) (by simpa [Lib.byteCells_length] using hown') (by decide))
 ·exact ((hb1.alloc (by have:=hb1.size; omega) _).grown hgrow (by have:=hb1.size; simp; omega) (fun k hk => (hown.lt k hk).1)).setCell (p:=⟨b,1,none⟩) hB _
theorem writeString_any (B b : Nat) (l s : List UInt8) (w : World) (h : uJ B b l w) (hlen : l.length + s.length ≤ 140737488355328) (hBw : B ≤ w.heap.size) :
  Calls Tryz.prog 42 #[.pointer (some ⟨b,0,none⟩),.string ⟨s.toArray⟩] w fun e w' => e = .returned (.tuple #[.int .i64 s.length,.nilIface]) ∧ uJ B b (l ++ s) w' ∧ Below B w w':=by
 obtain ⟨i0,hi,hz0,hz1,hz2⟩:=info_parts (show (Tryz.prog.info? 5).map (fun i => (i.zero,i.size,i.bytes)) = some (some (.int .u8 0),1,1) by kernel_rfl)
 go_enter Tryz.func42,Tryz.ntmps42
 go_wp2_with fail
 refine (yE B b _ _ h).mono ?_
 rintro e w1 ⟨rfl,h1,hb1⟩
 obtain ⟨hB,v,hbk,hown,hne⟩:=h1
 rw [Lib.byteCells_length] at hown
 have c0 : w1.cell? ⟨b,0,none⟩ = some (.pointer (some ⟨b,0,none⟩)):=by rw [Lib.cell_of_heap hbk]; rfl
 have c1 : w1.cell? ⟨b,1,none⟩ = some v:=by rw [Lib.cell_of_heap hbk]; rfl
 have hss : (⟨s.toArray⟩ : ByteArray).size = s.length:=by simp [ByteArray.size]
 go_wp2_with (at_builtin; refine Lib.wpList_append_own_string _ rfl _ _ 62 9 rfl B 5 i0 Tryz.underlying62 Tryz.underlying9 hi hz0 hz1 hz2 _ _ _ rfl hown ⟨s.toArray⟩ rfl ?c3 ?c4 ?c5 ?_)
 case c3 => unfold maxLen; rw [hss]; omega
 case c4 => rw [hss]; omega
 case c5 => have:=hb1.size; omega
 intro v' w2 hown' hgrow _
 have hlt : b < w1.heap.size:=(Array.getElem?_eq_some_iff.1 hbk).1
 have hb2 : w2.heap[b]? = some (.cells #[.pointer (some ⟨b,0,none⟩),v] 92 (0,0)):=by
  rw [hgrow.block b hlt (fun e => hne e.symm)]
  exact hbk
 have d0 : w2.cell? ⟨b,0,none⟩ = some (.pointer (some ⟨b,0,none⟩)):=by rw [Lib.cell_of_heap hb2]; rfl
 have d1 : w2.cell? ⟨b,1,none⟩ = some v:=by rw [Lib.cell_of_heap hb2]; rfl
 have f1 : w2.frozen? ⟨b,1,none⟩ = false:=Lib.frozen_of_heap hb2 1
 obtain ⟨ao,n',cap,rfl⟩ : ∃ ao n' cap,v' = .slice ao n' cap:=by
  rcases hown'.2 with ⟨hv,_⟩ | ⟨g,cap,cur,hv,_⟩
  ·exact ⟨_,_,_,hv⟩
  ·exact ⟨_,_,_,hv⟩
 clear hss
 go_wp2_with fail
 go_ret2
 have e : Lib.byteCells (l ++ s) = Lib.byteCells l ++ Lib.strCells ⟨s.toArray⟩:=by simp [Lib.byteCells,Lib.strCells]
 refine ⟨rfl,?_,?_⟩
 ·rw [uJ,e]
  exact Or.inr (Lib.BuilderAt.put (T:=92) (e:=5) hB hb2 (bs':=Lib.byteCells l ++ Lib.strCells ⟨s.toArray⟩) (by simpa [Lib.byteCells_length,Lib.strCells_length,ByteArray.size] using hown') (by decide))
 ·exact (hb1.grown hgrow (by have:=hb1.size; omega) (fun k hk => (hown.lt k hk).1)).setCell (p:=⟨b,1,none⟩) hB _
def xN (b : UInt8) : Str:=if b = 10 then [92,110] else if b = 92 ∨ b = 34 then [92,b] else [b]
theorem FY (l : Str) (b : UInt8) : esc (l ++ [b]) = esc l ++ xN b:=by simp [esc,xN]
theorem take_snoc {l : Str} {k : Nat} {x : UInt8} (h : l[k]? = some x) : l.take (k + 1) = l.take k ++ [x]:=by
 rw [List.take_add_one,h]; rfl
theorem escB_len (b : UInt8) : 1 ≤ (xN b).length ∧ (xN b).length ≤ 2:=by
 unfold xN
 split
 ·simp
 ·split <;> simp
theorem zW (l : Str) : (esc l).length ≤ 2 * l.length:=by
 induction l with
 | nil => simp [esc]
 | cons b l ih =>
  have : esc (b :: l) = xN b ++ esc l:=rfl
  rw [this,List.length_append,List.length_cons]
  have:=(escB_len b).2
  omega
theorem Po {x : UInt8} {k : Nat} (h : x ≠ UInt8.ofNat k) (hk : k < 256) : (x.toNat : Int) ≠ (k : Int):=by
 intro e
 apply h
 have e' : x.toNat = k:=by omega
 rw [← e',UInt8.ofNat_toNat]
theorem Ee (w : World) : uJ w.heap.size w.heap.size [] (w.alloc (.cells #[.pointer none,.slice none 0 0] 92)) :=
 Or.inl ⟨Nat.le_refl _,.slice none 0 0,(by show (w.heap.push _)[w.heap.size]? = _; rw [Array.getElem?_push_size]),World.ownsRow_nil _ _ _ _,by simp [Value.ownBlock]⟩
theorem escaped_any (t : Str) (w : World) (ht : t.length ≤ 1048576) :
  Calls Tryz.prog 187 #[.string ⟨t.toArray⟩] w fun e w' => e = .returned (.string ⟨(esc t).toArray⟩) ∧ Below w.heap.size w w':=by
 have h0:=zH (Ee w)
 have hb0 : Below w.heap.size w (w.alloc (.cells #[.pointer none,.slice none 0 0] 92)):=by go_grown
 obtain ⟨L,hL⟩ : ∃ L,t.length = L:=⟨_,rfl⟩
 have HL:=zH hL
 rw [hL] at ht
 go_enter Tryz.func187,Tryz.ntmps187
 go_wp2_with fail
 generalize hW : w.alloc (.cells #[.pointer none,.slice none 0 0] 92) = W at *
 clear hW
 go_loopw [8] (fun i wr => ∃ j : Nat,j ≤ L ∧ i = .int .i64 j ∧ Hid (uJ w.heap.size w.heap.size (esc (t.take j)) wr) ∧ Below w.heap.size w wr) (fun i _ => L - (intOf i).toNat)
 case atStart => exact ⟨0,Nat.zero_le _,rfl,h0,hb0⟩
 case round =>
  clear h0 hb0
  obtain ⟨j,hj,rfl,hB,hb⟩:=hrel
  by_cases hlt : j < L
  ·have hltZ : (j : Int) < (L : Int):=by omega
   obtain ⟨x,hx⟩ : ∃ x,t[j]? = some x:=⟨_,List.getElem?_eq_getElem (by rw [HL.out]; exact hlt)⟩
   have HX:=zH hx
   have hlt2 : j < t.length:=by rw [HL.out]; exact hlt
   have E : ((⟨t.toArray⟩ : ByteArray)[j]'(by simpa [ByteArray.size] using hlt2)).toNat = x.toNat:=by rw [byte_at' HX.out]
   have hes:=zH (FY (t.take j) x)
   have hln : (esc (t.take j)).length ≤ 2 * j:=by have:=zW (t.take j); rw [List.length_take] at this; omega
   have HT:=zH (take_snoc hx)
   have hsz:=hb.size
   clear hx
   by_cases h10 : x = 10
   ·subst h10
    go_wp2_with fail
    refine (writeString_any _ _ _ [92,110] _ hB.out (by simp; omega) hsz).mono ?_
    rintro e w1 ⟨rfl,h1,hb1⟩
    replace h1:=zH h1
    go_wp2_with fail
    go_roundw
    case rel =>
     refine ⟨j + 1,by omega,by go_num,zH ?_,hb.trans hb1⟩
     rw [HT.out,hes.out]
     exact h1.out
    case measure => simp [intOf] <;> omega
   ·have n10 : (x.toNat : Int) ≠ 10:=Po h10 (by decide)
    by_cases h92 : x = 92 ∨ x = 34
    ·have he : xN x = [92] ++ [x]:=by unfold xN; rw [if_neg h10,if_pos h92]; rfl
     rw [he] at hes
     rcases h92 with rfl | rfl
     ·clear he n10 h10
      go_wp2_with fail
      refine (qJ _ _ _ 92 _ hB.out (by omega) hsz).mono ?_
      rintro e w1 ⟨rfl,h1,hb1⟩
      replace h1:=zH h1
      go_wp2_with fail
      refine (qJ _ _ _ 92 _ h1.out (by rw [List.length_append,List.length_singleton]; omega) (Nat.le_trans hsz hb1.size)).mono ?_
      rintro e w2 ⟨rfl,h2,hb2⟩
      replace h2:=zH h2
      clear h1
      go_wp2_with fail
      go_roundw
      case rel =>
       refine ⟨j + 1,by omega,by go_num,zH ?_,(hb.trans hb1).trans hb2⟩
       rw [HT.out,hes.out]
       rw [← List.append_assoc]
       exact h2.out
      case measure => simp [intOf] <;> omega
     ·clear he n10 h10
      go_wp2_with fail
      refine (qJ _ _ _ 92 _ hB.out (by omega) hsz).mono ?_
      rintro e w1 ⟨rfl,h1,hb1⟩
      replace h1:=zH h1
      go_wp2_with fail
      refine (qJ _ _ _ 34 _ h1.out (by rw [List.length_append,List.length_singleton]; omega) (Nat.le_trans hsz hb1.size)).mono ?_
      rintro e w2 ⟨rfl,h2,hb2⟩
      replace h2:=zH h2
      clear h1
      go_wp2_with fail
      go_roundw
      case rel =>
       refine ⟨j + 1,by omega,by go_num,zH ?_,(hb.trans hb1).trans hb2⟩
       rw [HT.out,hes.out]
       rw [← List.append_assoc]
       exact h2.out
      case measure => simp [intOf] <;> omega
    ·have hq : x ≠ 92 ∧ x ≠ 34:=⟨fun e => h92 (.inl e),fun e => h92 (.inr e)⟩
     have n92 : (x.toNat : Int) ≠ 92:=Po hq.1 (by decide)
     have n34 : (x.toNat : Int) ≠ 34:=Po hq.2 (by decide)
     have he : xN x = [x]:=by unfold xN; rw [if_neg h10,if_neg h92]
     rw [he] at hes
     clear h92 hq h10 he
     go_wp2_with fail
     refine (qJ _ _ _ x _ hB.out (by omega) hsz).mono ?_
     rintro e w1 ⟨rfl,h1,hb1⟩
     replace h1:=zH h1
     go_wp2_with fail
     go_roundw
     case rel =>
      refine ⟨j + 1,by omega,by go_num,zH ?_,hb.trans hb1⟩
      rw [HT.out,hes.out]
      exact h1.out
     case measure => simp [intOf] <;> omega
  ·obtain rfl : j = L:=by omega
   have e : t.take j = t:=List.take_of_length_le (by rw [HL.out]; exact Nat.le_refl _)
   rw [e] at hB
   go_wp2_with fail
   refine (Tryz.Builder_String_any _ _ _ _ hB.out hb.size).mono ?_
   rintro e w1 ⟨rfl,hb1⟩
   go_wp2_with fail
   go_ret
   exact ⟨rfl,hb.trans hb1⟩
theorem uY (a b : List UInt8) : (⟨a.toArray⟩ : ByteArray) ++ ⟨b.toArray⟩ = ⟨(a ++ b).toArray⟩:=by
 rw [Fb ((⟨a.toArray⟩ : ByteArray) ++ ⟨b.toArray⟩)]
 simp [ByteArray.data_append]
theorem cat3 (a b c : Str) : ((⟨a.toArray⟩ : ByteArray) ++ ⟨b.toArray⟩ ++ ⟨c.toArray⟩) = ⟨(a ++ (b ++ c)).toArray⟩:=by
 rw [uY,uY,List.append_assoc]
abbrev qy (w : World) : Prop := Lib.TabIs Tryz.prog w "internal/strconv.uint64pow10" .jD Lib.pow10Tab
theorem qy.below {w w' : World} (h : qy w) (hb : Below w.heap.size w w') : qy w':=Lib.tabBelow_of_tabIs h w' hb
theorem vwrite_ok (s n : Int) (t : Str) (w : World) (hc : qP s n t = 0) (ht : t.length ≤ 1048576) (h1 : -9223372036854775808 ≤ n) (h2 : n ≤ 9223372036854775807) (hT : Tabs w) (hP : qy w) :
  Calls Tryz.prog 172 #[.agg #[.int .i64 s,.int .i64 n,.string ⟨t.toArray⟩]] w fun e w' => e = .returned (.tuple #[.string ⟨(yA s n t).toArray⟩,.int .i64 0]) ∧ Below w.heap.size w w':=by
 have hbW : Below w.heap.size w (w.alloc (.cells #[.int .i64 s,.int .i64 n,.string ⟨t.toArray⟩] 26)):=by go_grown
 have hck:=CP s n (w.alloc (.cells #[.int .i64 s,.int .i64 n,.string ⟨t.toArray⟩] 26)) t (by omega) (hT.below hbW)
 have c0 : (w.alloc (.cells #[.int .i64 s,.int .i64 n,.string ⟨t.toArray⟩] 26)).cell? ⟨w.heap.size,0,none⟩ = some (.int .i64 s):=by simp [go_sem]
 have c1 : (w.alloc (.cells #[.int .i64 s,.int .i64 n,.string ⟨t.toArray⟩] 26)).cell? ⟨w.heap.size,1,none⟩ = some (.int .i64 n):=by simp [go_sem]
 have c2 : (w.alloc (.cells #[.int .i64 s,.int .i64 n,.string ⟨t.toArray⟩] 26)).cell? ⟨w.heap.size,2,none⟩ = some (.string ⟨t.toArray⟩):=by simp [go_sem]
 have Pq:=zH (And.intro c0 (And.intro c1 c2))
 clear c0 c1 c2
 have RQ:=zH hck
 rw [hc] at RQ
 have HC:=zH hc
 clear hck hc
 have hs : (s = 3 ∧ n = 0) ∨ s = 1 ∨ (s = 2 ∧ (n = 0 ∨ n = 1)):=by
  have:=HC.out
  unfold qP at this
  split at this
  ·exact .inl (by assumption)
  ·split at this
   ·rename_i h
    exact .inr h.2
   ·omega
 rcases hs with ⟨rfl,rfl⟩ | rfl | ⟨rfl,hn⟩
 ·obtain ⟨R,hR⟩ : ∃ R,yA 3 0 t = R:=⟨_,rfl⟩
  have HR : Hid (34 :: (esc t ++ [34]) = R):=hR
  rw [hR]
  clear hR
  go_enter Tryz.func172,Tryz.ntmps172
  go_wp2_with fail
  refine RQ.out.mono ?_
  rintro e w1 ⟨rfl,hb1⟩
  have HB1:=zH hb1
  replace hb1:=chain hbW hb1
  obtain ⟨q0,q1,q2⟩:=Pq.out
  have k0:=ae q0 HB1.out
  have k1:=ae q1 HB1.out
  have k2:=ae q2 HB1.out
  clear q0 q1 q2 Pq
  go_wp2_with fail
  refine (escaped_any t w1 ht).mono ?_
  rintro e w2 ⟨rfl,hb2⟩
  have hel:=zW t
  have q1 : ¬ 9223372036854775807 < 1 + (esc t).length:=by omega
  have q2 : ¬ 9223372036854775807 < 1 + (esc t).length + 1:=by omega
  go_wp2_with fail
  go_ret2
  exact ⟨by rw [← HR.out]; exact congrArg (fun x => Ending.returned (.tuple #[.string x,.int .i64 0])) (cat3 [34] (esc t) [34]),chain hb1 hb2⟩
 ·obtain ⟨R,hR⟩ : ∃ R,yA 1 n t = R:=⟨_,rfl⟩
  have HR : Hid (Lib.itoa n = R):=hR
  rw [hR]
  clear hR
  go_enter Tryz.func172,Tryz.ntmps172
  go_wp2_with fail
  refine RQ.out.mono ?_
  rintro e w1 ⟨rfl,hb1⟩
  have HB1:=zH hb1
  replace hb1:=chain hbW hb1
  obtain ⟨q0,q1,q2⟩:=Pq.out
  have k0:=ae q0 HB1.out
  have k1:=ae q1 HB1.out
  have k2:=ae q2 HB1.out
  clear q0 q1 q2 Pq
  go_wp2_with fail
  refine (Tryz.strconv_FormatInt_10 n h1 h2 w1 (hP.below hb1)).mono ?_
  rintro e w2 ⟨rfl,k,os,hw2⟩
  have hb2 : Below w1.heap.size w1 w2:=by rw [hw2]; exact Lib.below_grow _ _ (Nat.le_refl _) _ _
  clear hw2
  go_wp2_with fail
  go_ret2
  exact ⟨by rw [← HR.out]; rfl,chain hb1 hb2⟩
 ·rcases hn with rfl | rfl
  all_goals
   go_enter Tryz.func172,Tryz.ntmps172
   go_wp2_with fail
   refine RQ.out.mono ?_
   rintro e w1 ⟨rfl,hb1⟩
   have HB1:=zH hb1
   replace hb1:=chain hbW hb1
   obtain ⟨q0,q1,q2⟩:=Pq.out
   have k0:=ae q0 HB1.out
   have k1:=ae q1 HB1.out
   have k2:=ae q2 HB1.out
   clear q0 q1 q2 Pq
   go_wp2_with fail
   refine (Tryz.strconv_FormatBool _ w1).mono ?_
   rintro e w2 ⟨rfl,rfl⟩
   go_wp2_with fail
   go_ret2
   exact ⟨rfl,hb1⟩
def nJ : List Nat → Nat
 | [] => 0
 | d :: r => d + 4294967296 * nJ r
def Ws (l : List Nat) : Prop:=∀ d ∈ l,d < 4294967296
def qM (l : List Nat) : Prop:=∀ d,l.getLast? = some d → d ≠ 0
def pW : List Nat → List Nat
 | [] => []
 | d :: r => match pW r with
  | [] => if d = 0 then [] else [d]
  | e :: q => d :: e :: q
theorem D7 : ∀ l : List Nat,nJ (pW l) = nJ l
 | [] => rfl
 | d :: r => by
  have ih:=D7 r
  unfold pW
  split
  ·rename_i h; rw [h] at ih
   simp only [nJ] at ih
   split
   ·rename_i h0; simp [nJ,h0,← ih]
   ·simp [nJ,← ih]
  ·rename_i e q h; rw [h] at ih
   simp only [nJ]
   rw [← ih]
   simp only [nJ]
theorem yB : ∀ l : List Nat,qM (pW l)
 | [] => by simp [pW,qM]
 | d :: r => by
  have ih:=yB r
  unfold pW
  split
  ·split
   ·simp [qM]
   ·rename_i h0; simpa [qM] using h0
  ·rename_i e q h; rw [h] at ih
   intro x hx
   rw [List.getLast?_cons_cons] at hx
   exact ih x hx
theorem BQ : ∀ l : List Nat,pW l = l.take (pW l).length
 | [] => rfl
 | d :: r => by
  have ih:=BQ r
  unfold pW
  split
  ·split <;> simp
  ·rename_i e q h
   rw [h] at ih
   simp only [List.length_cons,List.take_succ_cons]
   rw [List.length_cons] at ih
   rw [← ih]
theorem trimW_snoc (l : List Nat) (d : Nat) : pW (l ++ [d]) = if d = 0 then pW l else l ++ [d]:=by
 induction l with
 | nil => simp [pW]
 | cons x r ih =>
  rw [List.cons_append,pW,ih]
  by_cases h : d = 0
  ·rw [if_pos h,if_pos h,pW]
  ·rw [if_neg h,if_neg h]
   cases r <;> simp
theorem Ws.trim {l : List Nat} (h : Ws l) : Ws (pW l):=fun d hd => h d (by rw [BQ] at hd; exact List.mem_of_mem_take hd)
theorem wval_app (l r : List Nat) : nJ (l ++ r) = nJ l + 4294967296 ^ l.length * nJ r:=by
 induction l with
 | nil => simp [nJ]
 | cons d l ih =>
  simp only [List.cons_append,nJ,ih,List.length_cons,Nat.pow_succ]
  rw [Nat.mul_add,← Nat.mul_assoc,Nat.add_assoc,Nat.mul_comm 4294967296 (4294967296 ^ l.length)]
theorem DZ {l : List Nat} (h : qM l) : nJ l = 0 ↔ l = []:=by
 constructor
 ·intro h0
  rcases List.eq_nil_or_concat l with rfl | ⟨q,d,rfl⟩
  ·rfl
  ·rw [List.concat_eq_append] at h h0
   have hd:=h d (by simp)
   rw [wval_app] at h0
   simp only [nJ,Nat.mul_zero,Nat.add_zero] at h0
   have : 0 < 4294967296 ^ q.length * d:=Nat.mul_pos (Nat.pow_pos (by decide)) (Nat.pos_of_ne_zero hd)
   omega
 ·rintro rfl; rfl
theorem FK : ∀ {l r : List Nat},Ws l → Ws r → qM l → qM r → nJ l = nJ r → l = r
 | [],r,_,_,_,h4,h => ((DZ h4).1 h.symm).symm
 | d :: l,[],_,_,h3,_,h => (DZ h3).1 h
 | d :: l,e :: r,h1,h2,h3,h4,h => by
  simp only [nJ] at h
  have hd:=h1 d (by simp)
  have he:=h2 e (by simp)
  have : d = e:=by omega
  subst this
  have h' : nJ l = nJ r:=by omega
  have t1 : qM l:=fun x hx => h3 x (by
   cases l with
   | nil => simp at hx
   | cons a b => rw [List.getLast?_cons_cons]; exact hx)
  have t2 : qM r:=fun x hx => h4 x (by
   cases r with
   | nil => simp at hx
   | cons a b => rw [List.getLast?_cons_cons]; exact hx)
  rw [FK (fun x hx => h1 x (by simp [hx])) (fun x hx => h2 x (by simp [hx])) t1 t2 h']
def wordsOf (n : Nat) : List Nat:=if h : n = 0 then [] else (n % 4294967296) :: wordsOf (n / 4294967296)
termination_by n
decreasing_by omega
theorem Ba (n : Nat) : nJ (wordsOf n) = n:=by
 induction n using Nat.strongRecOn with
 | _ n ih =>
  rw [wordsOf]
  split
  ·rename_i h; simp [nJ,h]
  ·rename_i h
   simp only [nJ]
   rw [ih (n / 4294967296) (by omega)]
   omega
theorem DI (n : Nat) : Ws (wordsOf n):=by
 induction n using Nat.strongRecOn with
 | _ n ih =>
  rw [wordsOf]
  split
  ·intro d hd; simp at hd
  ·rename_i h
   intro d hd
   rcases List.mem_cons.1 hd with rfl | hd
   ·omega
   ·exact ih (n / 4294967296) (by omega) d hd
theorem qX {n : Nat} : wordsOf n = [] ↔ n = 0:=by
 rw [wordsOf]
 split <;> simp_all
theorem wordsOf_trimmed (n : Nat) : qM (wordsOf n):=by
 induction n using Nat.strongRecOn with
 | _ n ih =>
  rw [wordsOf]
  split
  ·simp [qM]
  ·rename_i h
   intro d hd
   cases hw : wordsOf (n / 4294967296) with
   | nil =>
    rw [hw] at hd
    simp at hd
    have:=qX.1 hw
    omega
   | cons a b =>
    rw [hw,List.getLast?_cons_cons,← hw] at hd
    exact ih (n / 4294967296) (by omega) d hd
theorem words_is {l : List Nat} (h1 : Ws l) (h2 : qM l) : l = wordsOf (nJ l) :=
 FK h1 (DI _) h2 (wordsOf_trimmed _) (Ba _).symm
theorem Cf {l : List Nat} (h1 : Ws l) : pW l = wordsOf (nJ l):=by
 rw [← D7]
 exact words_is h1.trim (yB l)
theorem Bg {n k : Nat} (h : n < 4294967296 ^ k) : (wordsOf n).length ≤ k:=by
 induction k generalizing n with
 | zero =>
  have : n = 0:=by simpa using h
  subst this
  simp [wordsOf]
 | succ k ih =>
  rw [wordsOf]
  split
  ·simp
  ·simp only [List.length_cons]
   have : n / 4294967296 < 4294967296 ^ k:=by
    rw [Nat.pow_succ] at h
    exact Nat.div_lt_of_lt_mul (by rw [Nat.mul_comm]; exact h)
   have:=ih this
   omega
def vW (n : Nat) : List UInt8:=if h : n = 0 then [] else UInt8.ofNat (48 + n % 10) :: vW (n / 10)
termination_by n
decreasing_by omega
theorem Fv (n : Nat) (h : n ≠ 0) : (vW n).reverse = Lib.decDigits n:=by
 induction n using Nat.strongRecOn with
 | _ n ih =>
  rw [vW,dif_neg h,Lib.decDigits]
  by_cases h10 : n < 10
  ·rw [dif_pos h10,vW,dif_pos (by omega)]
   simp [Nat.mod_eq_of_lt h10]
  ·rw [dif_neg h10,List.reverse_cons,ih (n / 10) (by omega) (by omega)]
theorem Aj (n : Int) (h : n ≠ 0) : (if n < 0 then (vW n.natAbs ++ [45]).reverse else (vW n.natAbs).reverse) = Lib.itoa n:=by
 unfold Lib.itoa
 split
 ·rw [List.reverse_append,Fv _ (by omega)]; rfl
 ·rw [Fv _ (by omega)]
  congr 1
  omega
theorem itoa_zero : Lib.itoa 0 = [48]:=by decide +kernel
theorem Fa {n k : Nat} (h : n < 10 ^ k) : (vW n).length ≤ k:=by
 induction k generalizing n with
 | zero =>
  have : n = 0:=by simpa using h
  subst this
  simp [vW]
 | succ k ih =>
  rw [vW]
  split
  ·simp
  ·simp only [List.length_cons]
   have : n / 10 < 10 ^ k:=by
    rw [Nat.pow_succ] at h
    exact Nat.div_lt_of_lt_mul (by rw [Nat.mul_comm]; exact h)
   have:=ih this
   omega
end Go.Proofs.YtpidjanngbaiiaaGreatDoor
