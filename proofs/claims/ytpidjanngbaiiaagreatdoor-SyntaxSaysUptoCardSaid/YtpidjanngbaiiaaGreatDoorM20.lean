/-
  PrA8 PrA7 PrA6 PrA5 PrA4 PrA3 PrA1 PrRs0
-/
import Derived.Test.YtpidjanngbaiiaaGreatDoorM10
import Derived.Test.YtpidjanngbaiiaaGreatDoorM18
import Derived.Test.YtpidjanngbaiiaaGreatDoorTyW
import Derived.Test.YtpidjanngbaiiaaGreatDoorM11
import Derived.Test.YtpidjanngbaiiaaGreatDoorM7
namespace Go.Proofs.YtpidjanngbaiiaaGreatDoor
open Go.RowKit Go.Proofs
set_option maxRecDepth 100000
set_option maxHeartbeats 32000000

structure IV (w : World) (q : Nat) (f : uN) : Prop where
 c0 : w.cell? ⟨q,0,none⟩ = some (.int .i64 (dQ f.chan 1))
 c1 : w.cell? ⟨q,1,none⟩ = some (.int .i64 (dQ f.name 1))
 c2 : w.cell? ⟨q,2,none⟩ = some (.int .i64 (dQ f.label 1))
 c3 : w.cell? ⟨q,3,none⟩ = some (.int .i64 (dQ f.labels 1))
 c4 : w.cell? ⟨q,4,none⟩ = some (.int .i64 (dQ f.names (-1)))
 c5 : w.cell? ⟨q,5,none⟩ = some (.int .i64 (dQ f.expr 1))
 c6 : w.cell? ⟨q,6,none⟩ = some (.int .i64 (dQ f.exprs (-1)))
 c7 : w.cell? ⟨q,7,none⟩ = some (.int .i64 (dQ f.type 1))
 c8 : w.cell? ⟨q,8,none⟩ = some (.int .i64 (f.kids))
theorem IV.keep {w w' : World} {q : Nat} {f : uN} (h : IV w q f) (hb : Below w.heap.size w w') : IV w' q f :=
 ⟨ae h.c0 hb,ae h.c1 hb,ae h.c2 hb,ae h.c3 hb,ae h.c4 hb,ae h.c5 hb,ae h.c6 hb,ae h.c7 hb,ae h.c8 hb⟩
structure wI (w : World) (wq : World) (b q : Nat) (p : Pr) (v : Value) (v1 v2 v3 v4 v5 v6 v7 : Value) (f : uN) : Prop where
 bx : nK wq b p v1 v2 v3 v4 v5 v6 v7
 fx : IV wq q f
 bl : Below w.heap.size w wq
 pv : zn All wq v p
 tb : Tabs wq
theorem wI.next {w w1 w2 : World} {b q : Nat} {p : Pr} {v v1 v2 v3 v4 v5 v6 v7 : Value} {f : uN} (h : wI w w1 b q p v v1 v2 v3 v4 v5 v6 v7 f) (hb : Below w1.heap.size w1 w2) : wI w w2 b q p v v1 v2 v3 v4 v5 v6 v7 f :=
 ⟨h.bx.kept hb,h.fx.keep hb,chain h.bl hb,h.pv.below hb,h.tb.below hb⟩
noncomputable def BH : Code:=bH (bH (bH (Tryz.f41.body.getD .skip)))
noncomputable def EM : Code:=bH BH
noncomputable def EN : Code:=bH EM
noncomputable def EO : Code:=bH EN
noncomputable def EP : Code:=bH EO
noncomputable def Ic : Code:=bH EP
theorem FW (kind : Int) (chan name label : Str) (xk : Int) (xn : Str) (xs xv : Int) (xt : Str) (af exprs : List Ex) (names : List Str) (tk ts : Int) (tn : Str) (tl : List Str) (ag : List Ty) (labels : List Str) (kids : List Pr) (A1 : Option Addr) (n1 c1 : Nat) (A2 : Option Addr) (n2 c2 : Nat) (A3 : Option Addr) (n3 c3 : Nat) (A4 : Option Addr) (n4 c4 : Nat) (A5 : Option Addr) (n5 c5 : Nat) (A6 : Option Addr) (n6 c6 : Nat) (A7 : Option Addr) (n7 c7 : Nat) (b q : Nat) (f0 f1 f2 f3 f4 f5 f6 f7 : Bool) (f8 : Nat) (w wz : World) (PZ : Bool) {u0 u2 u5 u6 u7 u8 u9 jI jJ jk jl iW iY u16 jc jd je jL mW mX jM jB jG jH jQ jR jS jT jU u32 jV jW jX jY jZ ku kw kz kC kD kE kF kG kH kJ kK kL kM kN kP kQ kR kS kT kU kV kW kX kY kZ lg u64 lh lm lq lu lJ lK lL lM lN lQ lS lT lU lV lW lX lY lZ l9 mf mg mi mr mD mF lD lw mP nP nD oH oI oJ oK oL dE dF dG dH dI dJ dK dL dM dN dO bP bQ bT bU bV bW bY bZ cu cO cZ dh di dw dC dD gJ gK gQ gU gV fO fP fQ fU fV fZ gp gq gu gy gB gG gI eu eF eG eH eP eQ eU eX eY fA fB fC fD fE fF fG fH dS dU dV dW dX dY dZ ed : Value} (hS : (wI w wz b q (.mk kind chan name label xk xn xs xv xt af exprs names tk ts tn tl ag labels kids) (.agg #[.int .i64 kind,.string ⟨chan.toArray⟩,.string ⟨name.toArray⟩,.string ⟨label.toArray⟩,.int .i64 xk,.string ⟨xn.toArray⟩,.int .i64 xs,.int .i64 xv,.string ⟨xt.toArray⟩,.slice A1 n1 c1,.slice A2 n2 c2,.slice A3 n3 c3,.int .i64 tk,.int .i64 ts,.string ⟨tn.toArray⟩,.slice A4 n4 c4,.slice A5 n5 c5,.slice A6 n6 c6,.slice A7 n7 c7]) (.slice A1 n1 c1) (.slice A2 n2 c2) (.slice A3 n3 c3) (.slice A4 n4 c4) (.slice A5 n5 c5) (.slice A6 n6 c6) (.slice A7 n7 c7) (⟨f0,f1,f2,f3,f4,f5,f6,f7,f8⟩ : uN))) (hf : bF 1048576 (.mk kind chan name label xk xn xs xv xt af exprs names tk ts tn tl ag labels kids)) (ANS : Int) (hA : Hid (nU (.mk kind chan name label xk xn xs xv xt af exprs names tk ts tn tl ag labels kids) = ANS)) (hfr : Hid (jw kind n6 = (⟨f0,f1,f2,f3,f4,f5,f6,f7,f8⟩ : uN))) (I9 : Hid (zh (.mk kind chan name label xk xn xs xv xt af exprs names tk ts tn tl ag labels kids) = PZ)) :
  Code.wp Tryz.prog Ic (bodyPost Tryz.prog Tryz.f41 (fun e w' => e = .returned (.int .i64 ANS) ∧ Below w.heap.size w w')) { tmps:=#[u0,.pointer (some ⟨b,0,none⟩),u2,.pointer (some ⟨q,0,none⟩),.bool PZ,u5,u6,u7,u8,u9,jI,jJ,jk,jl,iW,iY,u16,jc,jd,je,jL,mW,mX,jM,jB,jG,jH,jQ,jR,jS,jT,jU,u32,jV,jW,jX,jY,jZ,ku,kw,kz,kC,kD,kE,kF,kG,kH,kJ,kK,kL,kM,kN,kP,kQ,kR,kS,kT,kU,kV,kW,kX,kY,kZ,lg,u64,lh,lm,lq,lu,lJ,lK,lL,lM,lN,lQ,lS,lT,lU,lV,lW,lX,lY,lZ,l9,mf,mg,mi,mr,mD,mF,lD,lw,mP,nP,nD,oH,oI,oJ,oK,oL,dE,dF,dG,dH,dI,dJ,dK,dL,dM,dN,dO,bP,bQ,bT,bU,bV,bW,bY,bZ,cu,cO,cZ,dh,di,dw,dC,dD,gJ,gK,gQ,gU,gV,fO,fP,fQ,fU,fV,fZ,gp,gq,gu,gy,gB,gG,gI,eu,eF,eG,eH,eP,eQ,eU,eX,eY,fA,fB,fC,fD,fE,fF,fG,fH,dS,dU,dV,dW,dX,dY,dZ,ed],defers:=[] } wz:=by
 have h : Ic = Code.seq _ _:=rfl
 rw [h]
 clear h
 have HF:=zH hf
 have hlv : n1 = af.length ∧ n2 = exprs.length ∧ n6 = labels.length ∧ uz All wz (.slice A1 n1 c1) af ∧ uz All wz (.slice A2 n2 c2) exprs ∧ bD All wz (.slice A4 n4 c4) tl ∧ qZ All wz (.slice A5 n5 c5) ag:=by
  obtain ⟨w1,w2,w3,w4,w5,w6,w7,e,q1,q2,q3,q4,q5,q6,q7⟩:=hS.pv
  simp only [Value.agg.injEq,Pr.aN,Pr.aT,Pr.aI,Pr.aW,Pr.jm,Pr.jo,Pr.jq,Pr.jv,Pr.jr,Pr.aY,Pr.aV,Pr.aU,Pr.jg,Pr.ji,Pr.jh,Pr.jA,Pr.aX,Pr.aH,Pr.aK] at e q1 q2 q3 q4 q5 q6 q7
  have e':=congrArg Array.toList e
  simp only [List.cons.injEq,and_true,true_and] at e'
  obtain ⟨e1,e2,e3,e4,e5,e6,e7⟩:=e'
  subst e1 e2 e3 e4 e5 e6 e7
  refine ⟨?_,?_,?_,q1,q2,q4,q5⟩
  ·obtain ⟨_,_,e,-⟩:=q1; injection e
  ·obtain ⟨_,_,e,-⟩:=q2; injection e
  ·obtain ⟨_,_,e,-⟩:=q6; injection e
 obtain ⟨OX,Nc,Nh,hd1,hd2,hd4,hd5⟩:=hlv
 have N2:=zH Nc
 have N6:=zH Nh
 have HD1:=zH hd1
 have HD2:=zH hd2
 have HD4:=zH hd4
 have HD5:=zH hd5
 have HS:=zH hS
 obtain ⟨bb,ff,hbl,-,hTl⟩:=id hS
 have c10:=bb.c10
 clear OX Nc Nh hd1 hd2 hd4 hd5 bb ff hS hf
 cases PZ with
 | false =>
  have hans : ANS = 1:=by rw [← hA.out]; unfold nU; rw [if_neg (by rw [I9.out]; decide)]
  have uK:=zH hans
  clear hans
  go_wp2_with fail
  go_ret
  exact ⟨by rw [uK.out]; rfl,hbl⟩
 | true =>
  have hans : ANS = if o8 exprs = 0 then if f3 = true ∧ lF (.mk xk xn xs xv xt af) ≠ 0 then lF (.mk xk xn xs xv xt af) else if f6 = true then pg (.mk tk ts tn tl ag) else 0 else o8 exprs:=by
   rw [← hA.out]
   unfold nU
   rw [if_pos I9.out]
   have e : jw ((.mk kind chan name label xk xn xs xv xt af exprs names tk ts tn tl ag labels kids) : Pr).kind ((.mk kind chan name label xk xn xs xv xt af exprs names tk ts tn tl ag labels kids) : Pr).labels.length = (⟨f0,f1,f2,f3,f4,f5,f6,f7,f8⟩ : uN):=by rw [← hfr.out,N6.out]; rfl
   rw [e]
   rfl
  have uK:=zH hans
  clear hans
  have hn2m : n2 ≤ 1048576:=by
   have:=HF.out.parts
   simp only [Pr.aN,Pr.aT,Pr.aI,Pr.aW,Pr.jm,Pr.jo,Pr.jq,Pr.jv,Pr.jr,Pr.aY,Pr.aV,Pr.aU,Pr.jg,Pr.ji,Pr.jh,Pr.jA,Pr.aX,Pr.aH,Pr.aK] at this
   have h1:=this.2.2.2.2.2.2.2.2.2.2.2.1
   have:=N2.out
   omega
  have E8 : Hid (∀ x ∈ exprs,bI 1048576 x):=zH (by have:=HF.out.parts; simp only [Pr.aN,Pr.aT,Pr.aI,Pr.aW,Pr.jm,Pr.jo,Pr.jq,Pr.jv,Pr.jr,Pr.aY,Pr.aV,Pr.aU,Pr.jg,Pr.ji,Pr.jh,Pr.jA,Pr.aX,Pr.aH,Pr.aK] at this; exact this.2.2.2.2.2.2.2.2.2.2.2.2.1)
  go_wp2_with fail
  clear c10
  go_loopw [6] (fun i wr => ∃ k : Nat,k ≤ n2 ∧ i = .int .i64 k ∧ Hid (o8 exprs = o8 (exprs.drop k)) ∧ Below wz.heap.size wz wr) (fun i _ => n2 - (intOf i).toNat)
  case atStart => exact ⟨0,by omega,rfl,zH rfl,Below.refl _ _⟩
  case round =>
   obtain ⟨k,hk,rfl,hs,hbq⟩:=hrel
   have hS2:=HS.out.next hbq
   have c10:=hS2.bx.c10
   by_cases hlt : k < n2
   ·obtain ⟨c,hc'⟩ : ∃ y,exprs[k]? = some y:=⟨_,List.getElem?_eq_getElem (by have:=N2.out; omega)⟩
    have vY:=zH hc'
    obtain ⟨-,hcc,b',off,A9,n9,c9,rfl,-,y0,y1,y2,y3,y4,y5,hk'⟩:=pF (HD2.out.below hbq) hc'
    have rP:=zH hk'
    clear hk' hc'
    have dP:=zH (Bf c _ wr (rD rP.out) (E8.out c (az vY.out)) hS2.tb)
    obtain ⟨E,hE⟩ : ∃ x,lF c = x:=⟨_,rfl⟩
    have hstep:=hs.out
    have hd : o8 (exprs.drop k) = if lF c = 0 then o8 (exprs.drop (k + 1)) else lF c:=by
     obtain ⟨h1,h2⟩:=List.getElem?_eq_some_iff.1 vY.out
     rw [List.drop_eq_getElem_cons h1,h2]
     rfl
    rw [hd,hE] at hstep
    rw [hE] at dP
    have HST:=zH hstep
    clear hstep hd hE hs hS2
    by_cases he : E = 0
    ·have hE : (E != 0) = false:=by rw [bne_eq_false_iff_eq]; exact he
     have EX:=zH he
     clear he
     go_wp2_with fail
     refine dP.out.mono ?_
     rintro e w7 ⟨rfl,hb7⟩
     go_wp2_with fail
     go_roundw
     case rel => exact ⟨k + 1,by omega,by go_num,zH (by rw [HST.out,if_pos EX.out]),chain hbq hb7⟩
     case measure => simp [intOf]; omega
    ·have hE : (E != 0) = true:=by rw [bne_iff_ne]; exact he
     have EX:=zH he
     clear he
     go_wp2_with fail
     refine dP.out.mono ?_
     rintro e w7 ⟨rfl,hb7⟩
     go_wp2_with fail
     go_ret
     refine ⟨?_,chain hbl (chain hbq hb7)⟩
     have h1 : o8 exprs = E:=by rw [HST.out,if_neg EX.out]
     rw [uK.out,if_neg (by rw [h1]; exact EX.out),h1]
     rfl
   ·have hk2 : k = n2:=by omega
    subst hk2
    have h0 : o8 exprs = 0:=by rw [hs.out,List.drop_eq_nil_of_le (by have:=N2.out; omega)]; rfl
    obtain ⟨bb,ff,-,-,Qh⟩:=id hS2
    obtain ⟨-,-,-,-,k0,k1,k2,k3,k4,k5,-,-,k6,k7,k8,k9,k10,-⟩:=id bb
    have cf3:=ff.c5
    have Jl:=ff.c7
    simp only [Pr.aN,Pr.aT,Pr.aI,Pr.aW,Pr.jm,Pr.jo,Pr.jq,Pr.jv,Pr.jr,Pr.aY,Pr.aV,Pr.aU,Pr.jg,Pr.ji,Pr.jh,Pr.jA,Pr.aX,Pr.aH,Pr.aK] at k0 k1 k2 k3 k4 k5 k6 k7 k8 k9 k10 cf3 Jl
    have hans:=uK.out
    rw [if_pos h0] at hans
    have uO:=zH hans
    have hp:=HF.out.parts
    simp only [Pr.aN,Pr.aT,Pr.aI,Pr.aW,Pr.jm,Pr.jo,Pr.jq,Pr.jv,Pr.jr,Pr.aY,Pr.aV,Pr.aU,Pr.jg,Pr.ji,Pr.jh,Pr.jA,Pr.aX,Pr.aH,Pr.aK] at hp
    have hM : 1048576 ≤ maxLen:=by unfold maxLen; omega
    have G6:=hp.2.2.2.2.2.2.2.2.2.2.2.2.2.2.2.2.2.2.2.1
    have P6 : Hid (Fit (.mk tk ts tn tl ag)):=zH (.mk tk ts tn tl ag hp.2.2.2.2.2.2.2.2.2.2.2.2.2.2.2.1 hp.2.2.2.2.2.2.2.2.2.2.2.2.2.2.2.2.1 (by have:=hp.2.2.2.2.2.2.2.2.2.2.2.2.2.2.2.2.2.1; omega) (by have:=hp.2.2.2.2.2.2.2.2.2.2.2.2.2.2.2.2.2.2.1; omega) (fun l hl => by have:=G6 l hl; omega) (by have:=hp.2.2.2.2.2.2.2.2.2.2.2.2.2.2.2.2.2.2.2.2.1; omega) hp.2.2.2.2.2.2.2.2.2.2.2.2.2.2.2.2.2.2.2.2.2.1)
    have RQ : bI 1048576 (.mk xk xn xs xv xt af):=.mk xk xn xs xv xt af hp.2.2.2.2.1 hp.2.2.2.2.2.1 hp.2.2.2.2.2.2.1 hp.2.2.2.2.2.2.2.1 hp.2.2.2.2.2.2.2.2.1 hp.2.2.2.2.2.2.2.2.2.1 hp.2.2.2.2.2.2.2.2.2.2.1
    have DT:=zH (Bf (.mk xk xn xs xv xt af) (.agg #[.int .i64 xk,.string ⟨xn.toArray⟩,.int .i64 xs,.int .i64 xv,.string ⟨xt.toArray⟩,.slice A1 n1 c1]) wr (rD (t:=.mk xk xn xs xv xt af) (HD1.out.below hbq)) RQ Qh)
    have N8:=zH (mJ (t:=.mk tk ts tn tl ag) (HD4.out.below hbq).is (HD5.out.keep (D':=All) (Same.below hbq) (fun _ _ _ => trivial)).is)
    clear hans h0 hp hM G6 RQ bb ff hS2
    cases f3 with
    | true =>
     obtain ⟨E,hE⟩ : ∃ x,lF (.mk xk xn xs xv xt af) = x:=⟨_,rfl⟩
     rw [hE] at DT uO
     clear hE
     by_cases he : E = 0
     ·have hE : (E != 0) = false:=by rw [bne_eq_false_iff_eq]; exact he
      have hans : ANS = if f6 = true then pg (.mk tk ts tn tl ag) else 0:=by rw [uO.out,if_neg (fun h => h.2 he)]
      have vz:=zH hans
      clear hans he
      cases f6
      all_goals
       simp only [dQ] at cf3 Jl
       go_wp2_with fail
       refine DT.out.mono ?_
       rintro e w7 ⟨rfl,hb7⟩
       have l0:=ae k6 hb7
       have l1:=ae k7 hb7
       have l2:=ae k8 hb7
       have l3:=ae k9 hb7
       have l4:=ae k10 hb7
       have l5:=ae Jl hb7
       go_wp2_with fail
      ·go_ret
       exact ⟨by rw [vz.out]; rfl,chain hbl (chain hbq hb7)⟩
      ·refine (xR (.mk tk ts tn tl ag) _ _ (N8.out.keep hb7) P6.out).mono ?_
       rintro e w8 ⟨rfl,hb8⟩
       go_wp2_with fail
       go_ret
       exact ⟨by rw [vz.out]; rfl,chain hbl (chain hbq (chain hb7 hb8))⟩
     ·have hE : (E != 0) = true:=by rw [bne_iff_ne]; exact he
      have hans : ANS = E:=by rw [uO.out,if_pos ⟨rfl,he⟩]
      have vz:=zH hans
      clear hans he
      simp only [dQ] at cf3
      go_wp2_with fail
      refine DT.out.mono ?_
      rintro e w7 ⟨rfl,hb7⟩
      go_wp2_with fail
      go_ret
      exact ⟨by rw [vz.out]; rfl,chain hbl (chain hbq hb7)⟩
    | false =>
     have hans : ANS = if f6 = true then pg (.mk tk ts tn tl ag) else 0:=by rw [uO.out,if_neg (fun h => by cases h.1)]
     have vz:=zH hans
     clear hans
     cases f6
     all_goals
      simp only [dQ] at cf3 Jl
      go_wp2_with fail
     ·go_ret
      exact ⟨by rw [vz.out]; rfl,chain hbl hbq⟩
     ·refine (xR (.mk tk ts tn tl ag) _ _ N8.out P6.out).mono ?_
      rintro e w8 ⟨rfl,hb8⟩
      go_wp2_with fail
      go_ret
      exact ⟨by rw [vz.out]; rfl,chain hbl (chain hbq hb8)⟩
theorem JG (kind : Int) (chan name label : Str) (xk : Int) (xn : Str) (xs xv : Int) (xt : Str) (af exprs : List Ex) (names : List Str) (tk ts : Int) (tn : Str) (tl : List Str) (ag : List Ty) (labels : List Str) (kids : List Pr) (A1 : Option Addr) (n1 c1 : Nat) (A2 : Option Addr) (n2 c2 : Nat) (A3 : Option Addr) (n3 c3 : Nat) (A4 : Option Addr) (n4 c4 : Nat) (A5 : Option Addr) (n5 c5 : Nat) (A6 : Option Addr) (n6 c6 : Nat) (A7 : Option Addr) (n7 c7 : Nat) (b q : Nat) (f0 f1 f2 f3 f4 f5 f6 f7 : Bool) (f8 : Nat) (w wz : World) (B : Bool) {u0 u2 u5 u6 u7 u8 u9 jI jJ jk jl iW iY u16 jc jd je jL mW mX jM jB jG jH jQ jR jS jT jU u32 jV jW jX jY jZ ku kw kz kC kD kE kF kG kH kJ kK kL kM kN kP kQ kR kS kT kU kV kW kX kY kZ lg u64 lh lm lq lu lJ lK lL lM lN lQ lS lT lU lV lW lX lY lZ l9 mf mg mi mr mD mF lD lw mP nP nD oH oI oJ oK oL dE dF dG dH dI dJ dK dL dM dN dO bP bQ bT bU bV bW bY bZ cu cO cZ dh di dw dC dD gJ gK gQ gU gV fO fP fQ fU fV fZ gp gq gu gy gB gG gI eu eF eG eH eP eQ eU eX eY fA fB fC fD fE fF fG fH dS dU dV dW dX dY dZ ed : Value} (hS : (wI w wz b q (.mk kind chan name label xk xn xs xv xt af exprs names tk ts tn tl ag labels kids) (.agg #[.int .i64 kind,.string ⟨chan.toArray⟩,.string ⟨name.toArray⟩,.string ⟨label.toArray⟩,.int .i64 xk,.string ⟨xn.toArray⟩,.int .i64 xs,.int .i64 xv,.string ⟨xt.toArray⟩,.slice A1 n1 c1,.slice A2 n2 c2,.slice A3 n3 c3,.int .i64 tk,.int .i64 ts,.string ⟨tn.toArray⟩,.slice A4 n4 c4,.slice A5 n5 c5,.slice A6 n6 c6,.slice A7 n7 c7]) (.slice A1 n1 c1) (.slice A2 n2 c2) (.slice A3 n3 c3) (.slice A4 n4 c4) (.slice A5 n5 c5) (.slice A6 n6 c6) (.slice A7 n7 c7) (⟨f0,f1,f2,f3,f4,f5,f6,f7,f8⟩ : uN))) (hf : bF 1048576 (.mk kind chan name label xk xn xs xv xt af exprs names tk ts tn tl ag labels kids)) (ANS : Int) (hA : Hid (nU (.mk kind chan name label xk xn xs xv xt af exprs names tk ts tn tl ag labels kids) = ANS)) (hfr : Hid (jw kind n6 = (⟨f0,f1,f2,f3,f4,f5,f6,f7,f8⟩ : uN))) (NE NT : Bool)
  (hne : ∀ w,Calls Tryz.prog 23 #[.agg #[.int .i64 xk,.string ⟨xn.toArray⟩,.int .i64 xs,.int .i64 xv,.string ⟨xt.toArray⟩,.slice A1 n1 c1],.agg #[.int .i64 0,.string ⟨#[]⟩,.int .i64 0,.int .i64 0,.string ⟨#[]⟩,.slice none 0 0]] w fun e w' => e = .returned (.bool NE) ∧ Below w.heap.size w w')
  (hnt : ∀ w,Calls Tryz.prog 38 #[.agg #[.int .i64 tk,.int .i64 ts,.string ⟨tn.toArray⟩,.slice A4 n4 c4,.slice A5 n5 c5],.agg #[.int .i64 0,.int .i64 0,.string ⟨#[]⟩,.slice none 0 0,.slice none 0 0]] w fun e w' => e = .returned (.bool NT) ∧ Below w.heap.size w w')
  (vU : Hid (zh (.mk kind chan name label xk xn xs xv xt af exprs names tk ts tn tl ag labels kids) = (B && ((f3 || NE) && ((f6 || NT) && decide (n7 = f8)))))) :
  Code.wp Tryz.prog EP (bodyPost Tryz.prog Tryz.f41 (fun e w' => e = .returned (.int .i64 ANS) ∧ Below w.heap.size w w')) { tmps:=#[u0,.pointer (some ⟨b,0,none⟩),u2,.pointer (some ⟨q,0,none⟩),.bool B,u5,u6,u7,u8,u9,jI,jJ,jk,jl,iW,iY,u16,jc,jd,je,jL,mW,mX,jM,jB,jG,jH,jQ,jR,jS,jT,jU,u32,jV,jW,jX,jY,jZ,ku,kw,kz,kC,kD,kE,kF,kG,kH,kJ,kK,kL,kM,kN,kP,kQ,kR,kS,kT,kU,kV,kW,kX,kY,kZ,lg,u64,lh,lm,lq,lu,lJ,lK,lL,lM,lN,lQ,lS,lT,lU,lV,lW,lX,lY,lZ,l9,mf,mg,mi,mr,mD,mF,lD,lw,mP,nP,nD,oH,oI,oJ,oK,oL,dE,dF,dG,dH,dI,dJ,dK,dL,dM,dN,dO,bP,bQ,bT,bU,bV,bW,bY,bZ,cu,cO,cZ,dh,di,dw,dC,dD,gJ,gK,gQ,gU,gV,fO,fP,fQ,fU,fV,fZ,gp,gq,gu,gy,gB,gG,gI,eu,eF,eG,eH,eP,eQ,eU,eX,eY,fA,fB,fC,fD,fE,fF,fG,fH,dS,dU,dV,dW,dX,dY,dZ,ed],defers:=[] } wz:=by
 have h : EP = Code.seq _ _:=rfl
 rw [h]
 clear h
 have HF:=zH hf
 have HS:=zH hS
 have yc:=zH hne
 have ru:=zH hnt
 obtain ⟨bb,ff,-,-,-⟩:=id hS
 obtain ⟨-,-,-,-,k0,k1,k2,k3,k4,k5,-,-,k6,k7,k8,k9,k10,-,k18,-⟩:=id bb
 have cf3:=ff.c5
 have Jl:=ff.c7
 have Sr:=ff.c8
 simp only [Pr.aN,Pr.aT,Pr.aI,Pr.aW,Pr.jm,Pr.jo,Pr.jq,Pr.jv,Pr.jr,Pr.aY,Pr.aV,Pr.aU,Pr.jg,Pr.ji,Pr.jh,Pr.jA,Pr.aX,Pr.aH,Pr.aK] at k0 k1 k2 k3 k4 k5 k6 k7 k8 k9 k10 k18 cf3 Jl Sr
 have hk : ((n7 : Int) == (f8 : Int)) = decide (n7 = f8):=by rw [Bool.eq_iff_iff]; simp; omega
 clear hS hf hne hnt bb ff
 go_step
 go_step
 rename_i K8 h8
 have H8:=zH h8
 clear h8
 cases B with
 | false =>
  go_wp2_with fail
  refine H8.out _ _ ?_
  clear H8
  refine FW _ _ _ _ _ _ _ _ _ _ _ _ _ _ _ _ _ _ _ _ _ _ _ _ _ _ _ _ _ _ _ _ _ _ _ _ _ _ _ _ _ _ _ _ _ _ _ _ _ _ _ w _ false HS.out HF.out ANS hA hfr (zH ?_)
  rw [vU.out]; rfl
 | true =>
  cases f3 with
  | true =>
   simp only [dQ] at cf3
   cases f6 with
   | true =>
    simp only [dQ] at *
    go_wp2_with fail
    refine H8.out _ _ ?_
    clear H8
    refine FW _ _ _ _ _ _ _ _ _ _ _ _ _ _ _ _ _ _ _ _ _ _ _ _ _ _ _ _ _ _ _ _ _ _ _ _ _ _ _ _ _ _ _ _ _ _ _ _ _ _ _ w _ (decide (n7 = f8)) HS.out HF.out ANS hA hfr (zH ?_)
    rw [vU.out]; simp
   | false =>
    simp only [dQ] at *
    cases NT with
    | true =>
     go_wp2_with fail
     refine (ru.out _).mono ?_
     rintro e w8 ⟨rfl,hb8⟩
     have OW:=ae k18 hb8
     have OV:=ae Sr hb8
     go_wp2_with fail
     refine H8.out _ _ ?_
     clear H8
     refine FW _ _ _ _ _ _ _ _ _ _ _ _ _ _ _ _ _ _ _ _ _ _ _ _ _ _ _ _ _ _ _ _ _ _ _ _ _ _ _ _ _ _ _ _ _ _ _ _ _ _ _ w _ (decide (n7 = f8)) (HS.out.next hb8) HF.out ANS hA hfr (zH ?_)
     rw [vU.out]; simp
    | false =>
     go_wp2_with fail
     refine (ru.out _).mono ?_
     rintro e w8 ⟨rfl,hb8⟩
     have OW:=ae k18 hb8
     have OV:=ae Sr hb8
     go_wp2_with fail
     refine H8.out _ _ ?_
     clear H8
     refine FW _ _ _ _ _ _ _ _ _ _ _ _ _ _ _ _ _ _ _ _ _ _ _ _ _ _ _ _ _ _ _ _ _ _ _ _ _ _ _ _ _ _ _ _ _ _ _ _ _ _ _ w _ false (HS.out.next hb8) HF.out ANS hA hfr (zH ?_)
     rw [vU.out]; simp
  | false =>
   simp only [dQ] at cf3
   cases NE with
   | false =>
    go_wp2_with fail
    refine (yc.out _).mono ?_
    rintro e w7 ⟨rfl,hb7⟩
    go_wp2_with fail
    refine H8.out _ _ ?_
    clear H8
    refine FW _ _ _ _ _ _ _ _ _ _ _ _ _ _ _ _ _ _ _ _ _ _ _ _ _ _ _ _ _ _ _ _ _ _ _ _ _ _ _ _ _ _ _ _ _ _ _ _ _ _ _ w _ false (HS.out.next hb7) HF.out ANS hA hfr (zH ?_)
    rw [vU.out]; simp
   | true =>
    go_wp2_with fail
    refine (yc.out _).mono ?_
    rintro e w7 ⟨rfl,hb7⟩
    have lk6:=ae k6 hb7
    have lk7:=ae k7 hb7
    have lk8:=ae k8 hb7
    have lk9:=ae k9 hb7
    have lk10:=ae k10 hb7
    have QT:=ae k18 hb7
    have lcf6:=ae Jl hb7
    have QR:=ae Sr hb7
    cases f6 with
    | true =>
     simp only [dQ] at *
     go_wp2_with fail
     refine H8.out _ _ ?_
     clear H8
     refine FW _ _ _ _ _ _ _ _ _ _ _ _ _ _ _ _ _ _ _ _ _ _ _ _ _ _ _ _ _ _ _ _ _ _ _ _ _ _ _ _ _ _ _ _ _ _ _ _ _ _ _ w _ (decide (n7 = f8)) (HS.out.next hb7) HF.out ANS hA hfr (zH ?_)
     rw [vU.out]; simp
    | false =>
     simp only [dQ] at *
     cases NT with
     | true =>
      go_wp2_with fail
      refine (ru.out _).mono ?_
      rintro e w8 ⟨rfl,hb8⟩
      have OW:=ae QT hb8
      have OV:=ae QR hb8
      go_wp2_with fail
      refine H8.out _ _ ?_
      clear H8
      refine FW _ _ _ _ _ _ _ _ _ _ _ _ _ _ _ _ _ _ _ _ _ _ _ _ _ _ _ _ _ _ _ _ _ _ _ _ _ _ _ _ _ _ _ _ _ _ _ _ _ _ _ w _ (decide (n7 = f8)) ((HS.out.next hb7).next hb8) HF.out ANS hA hfr (zH ?_)
      rw [vU.out]; simp
     | false =>
      go_wp2_with fail
      refine (ru.out _).mono ?_
      rintro e w8 ⟨rfl,hb8⟩
      have OW:=ae QT hb8
      have OV:=ae QR hb8
      go_wp2_with fail
      refine H8.out _ _ ?_
      clear H8
      refine FW _ _ _ _ _ _ _ _ _ _ _ _ _ _ _ _ _ _ _ _ _ _ _ _ _ _ _ _ _ _ _ _ _ _ _ _ _ _ _ _ _ _ _ _ _ _ _ _ _ _ _ w _ false ((HS.out.next hb7).next hb8) HF.out ANS hA hfr (zH ?_)
      rw [vU.out]; simp
theorem MO (kind : Int) (chan name label : Str) (xk : Int) (xn : Str) (xs xv : Int) (xt : Str) (af exprs : List Ex) (names : List Str) (tk ts : Int) (tn : Str) (tl : List Str) (ag : List Ty) (labels : List Str) (kids : List Pr) (A1 : Option Addr) (n1 c1 : Nat) (A2 : Option Addr) (n2 c2 : Nat) (A3 : Option Addr) (n3 c3 : Nat) (A4 : Option Addr) (n4 c4 : Nat) (A5 : Option Addr) (n5 c5 : Nat) (A6 : Option Addr) (n6 c6 : Nat) (A7 : Option Addr) (n7 c7 : Nat) (b q : Nat) (f0 f1 f2 f3 f4 f5 f6 f7 : Bool) (f8 : Nat) (w wz : World) (B : Bool) {u0 u2 u5 u6 u7 u8 u9 jI jJ jk jl iW iY u16 jc jd je jL mW mX jM jB jG jH jQ jR jS jT jU u32 jV jW jX jY jZ ku kw kz kC kD kE kF kG kH kJ kK kL kM kN kP kQ kR kS kT kU kV kW kX kY kZ lg u64 lh lm lq lu lJ lK lL lM lN lQ lS lT lU lV lW lX lY lZ l9 mf mg mi mr mD mF lD lw mP nP nD oH oI oJ oK oL dE dF dG dH dI dJ dK dL dM dN dO bP bQ bT bU bV bW bY bZ cu cO cZ dh di dw dC dD gJ gK gQ gU gV fO fP fQ fU fV fZ gp gq gu gy gB gG gI eu eF eG eH eP eQ eU eX eY fA fB fC fD fE fF fG fH dS dU dV dW dX dY dZ ed : Value} (hS : (wI w wz b q (.mk kind chan name label xk xn xs xv xt af exprs names tk ts tn tl ag labels kids) (.agg #[.int .i64 kind,.string ⟨chan.toArray⟩,.string ⟨name.toArray⟩,.string ⟨label.toArray⟩,.int .i64 xk,.string ⟨xn.toArray⟩,.int .i64 xs,.int .i64 xv,.string ⟨xt.toArray⟩,.slice A1 n1 c1,.slice A2 n2 c2,.slice A3 n3 c3,.int .i64 tk,.int .i64 ts,.string ⟨tn.toArray⟩,.slice A4 n4 c4,.slice A5 n5 c5,.slice A6 n6 c6,.slice A7 n7 c7]) (.slice A1 n1 c1) (.slice A2 n2 c2) (.slice A3 n3 c3) (.slice A4 n4 c4) (.slice A5 n5 c5) (.slice A6 n6 c6) (.slice A7 n7 c7) (⟨f0,f1,f2,f3,f4,f5,f6,f7,f8⟩ : uN))) (hf : bF 1048576 (.mk kind chan name label xk xn xs xv xt af exprs names tk ts tn tl ag labels kids)) (ANS : Int) (hA : Hid (nU (.mk kind chan name label xk xn xs xv xt af exprs names tk ts tn tl ag labels kids) = ANS)) (hfr : Hid (jw kind n6 = (⟨f0,f1,f2,f3,f4,f5,f6,f7,f8⟩ : uN))) (NE NT : Bool)
  (hne : ∀ w,Calls Tryz.prog 23 #[.agg #[.int .i64 xk,.string ⟨xn.toArray⟩,.int .i64 xs,.int .i64 xv,.string ⟨xt.toArray⟩,.slice A1 n1 c1],.agg #[.int .i64 0,.string ⟨#[]⟩,.int .i64 0,.int .i64 0,.string ⟨#[]⟩,.slice none 0 0]] w fun e w' => e = .returned (.bool NE) ∧ Below w.heap.size w w')
  (hnt : ∀ w,Calls Tryz.prog 38 #[.agg #[.int .i64 tk,.int .i64 ts,.string ⟨tn.toArray⟩,.slice A4 n4 c4,.slice A5 n5 c5],.agg #[.int .i64 0,.int .i64 0,.string ⟨#[]⟩,.slice none 0 0,.slice none 0 0]] w fun e w' => e = .returned (.bool NT) ∧ Below w.heap.size w w')
  (vU : Hid (zh (.mk kind chan name label xk xn xs xv xt af exprs names tk ts tn tl ag labels kids) = (B && (((f4 && decide (n2 ≤ 6)) || decide (n2 = 0)) && ((f3 || NE) && ((f6 || NT) && decide (n7 = f8))))))) :
  Code.wp Tryz.prog EO (bodyPost Tryz.prog Tryz.f41 (fun e w' => e = .returned (.int .i64 ANS) ∧ Below w.heap.size w w')) { tmps:=#[u0,.pointer (some ⟨b,0,none⟩),u2,.pointer (some ⟨q,0,none⟩),.bool B,u5,u6,u7,u8,u9,jI,jJ,jk,jl,iW,iY,u16,jc,jd,je,jL,mW,mX,jM,jB,jG,jH,jQ,jR,jS,jT,jU,u32,jV,jW,jX,jY,jZ,ku,kw,kz,kC,kD,kE,kF,kG,kH,kJ,kK,kL,kM,kN,kP,kQ,kR,kS,kT,kU,kV,kW,kX,kY,kZ,lg,u64,lh,lm,lq,lu,lJ,lK,lL,lM,lN,lQ,lS,lT,lU,lV,lW,lX,lY,lZ,l9,mf,mg,mi,mr,mD,mF,lD,lw,mP,nP,nD,oH,oI,oJ,oK,oL,dE,dF,dG,dH,dI,dJ,dK,dL,dM,dN,dO,bP,bQ,bT,bU,bV,bW,bY,bZ,cu,cO,cZ,dh,di,dw,dC,dD,gJ,gK,gQ,gU,gV,fO,fP,fQ,fU,fV,fZ,gp,gq,gu,gy,gB,gG,gI,eu,eF,eG,eH,eP,eQ,eU,eX,eY,fA,fB,fC,fD,fE,fF,fG,fH,dS,dU,dV,dW,dX,dY,dZ,ed],defers:=[] } wz:=by
 have h : EO = Code.seq _ _:=rfl
 rw [h]
 clear h
 have HF:=zH hf
 have HS:=zH hS
 have yc:=zH hne
 have ru:=zH hnt
 obtain ⟨bb,ff,-,-,-⟩:=id hS
 have k10:=bb.c10
 have LK:=ff.c6
 clear hS hf hne hnt bb ff
 go_step
 go_step
 rename_i K8 h8
 have H8:=zH h8
 clear h8
 cases B with
 | false =>
  go_wp2_with fail
  refine H8.out _ _ ?_
  clear H8
  refine JG _ _ _ _ _ _ _ _ _ _ _ _ _ _ _ _ _ _ _ _ _ _ _ _ _ _ _ _ _ _ _ _ _ _ _ _ _ _ _ _ _ _ _ _ _ _ _ _ _ _ _ w _ false HS.out HF.out ANS hA hfr NE NT yc.out ru.out (zH ?_)
  rw [vU.out]; simp [*]
 | true =>
  by_cases h0 : n2 = 0
  ·subst h0
   cases f4
   all_goals
    simp only [dQ] at LK
    go_wp2_with fail
    refine H8.out _ _ ?_
    clear H8
    refine JG _ _ _ _ _ _ _ _ _ _ _ _ _ _ _ _ _ _ _ _ _ _ _ _ _ _ _ _ _ _ _ _ _ _ _ _ _ _ _ _ _ _ _ _ _ _ _ _ _ _ _ w _ true HS.out HF.out ANS hA hfr NE NT yc.out ru.out (zH ?_)
    rw [vU.out]; simp [*]
  ·have e0 : ((n2 : Int) == 0) = false:=by rw [beq_eq_false_iff_ne]; omega
   cases f4 with
   | false =>
    simp only [dQ] at LK
    go_wp2_with fail
    refine H8.out _ _ ?_
    clear H8
    refine JG _ _ _ _ _ _ _ _ _ _ _ _ _ _ _ _ _ _ _ _ _ _ _ _ _ _ _ _ _ _ _ _ _ _ _ _ _ _ _ _ _ _ _ _ _ _ _ _ _ _ _ w _ false HS.out HF.out ANS hA hfr NE NT yc.out ru.out (zH ?_)
    rw [vU.out]; simp [*]
   | true =>
    simp only [dQ] at LK
    by_cases h6 : n2 ≤ 6
    ·have e6 : ((n2 : Int) ≤ 6) = True:=by simp; omega
     go_wp2_with fail
     refine H8.out _ _ ?_
     clear H8
     refine JG _ _ _ _ _ _ _ _ _ _ _ _ _ _ _ _ _ _ _ _ _ _ _ _ _ _ _ _ _ _ _ _ _ _ _ _ _ _ _ _ _ _ _ _ _ _ _ _ _ _ _ w _ true HS.out HF.out ANS hA hfr NE NT yc.out ru.out (zH ?_)
     rw [vU.out]; simp [*]
    ·have e6 : ((n2 : Int) ≤ 6) = False:=by simp; omega
     go_wp2_with fail
     refine H8.out _ _ ?_
     clear H8
     refine JG _ _ _ _ _ _ _ _ _ _ _ _ _ _ _ _ _ _ _ _ _ _ _ _ _ _ _ _ _ _ _ _ _ _ _ _ _ _ _ _ _ _ _ _ _ _ _ _ _ _ _ w _ false HS.out HF.out ANS hA hfr NE NT yc.out ru.out (zH ?_)
     rw [vU.out]; simp [*]
theorem MN (kind : Int) (chan name label : Str) (xk : Int) (xn : Str) (xs xv : Int) (xt : Str) (af exprs : List Ex) (names : List Str) (tk ts : Int) (tn : Str) (tl : List Str) (ag : List Ty) (labels : List Str) (kids : List Pr) (A1 : Option Addr) (n1 c1 : Nat) (A2 : Option Addr) (n2 c2 : Nat) (A3 : Option Addr) (n3 c3 : Nat) (A4 : Option Addr) (n4 c4 : Nat) (A5 : Option Addr) (n5 c5 : Nat) (A6 : Option Addr) (n6 c6 : Nat) (A7 : Option Addr) (n7 c7 : Nat) (b q : Nat) (f0 f1 f2 f3 f4 f5 f6 f7 : Bool) (f8 : Nat) (w wz : World) (B : Bool) {u0 u2 u5 u6 u7 u8 u9 jI jJ jk jl iW iY u16 jc jd je jL mW mX jM jB jG jH jQ jR jS jT jU u32 jV jW jX jY jZ ku kw kz kC kD kE kF kG kH kJ kK kL kM kN kP kQ kR kS kT kU kV kW kX kY kZ lg u64 lh lm lq lu lJ lK lL lM lN lQ lS lT lU lV lW lX lY lZ l9 mf mg mi mr mD mF lD lw mP nP nD oH oI oJ oK oL dE dF dG dH dI dJ dK dL dM dN dO bP bQ bT bU bV bW bY bZ cu cO cZ dh di dw dC dD gJ gK gQ gU gV fO fP fQ fU fV fZ gp gq gu gy gB gG gI eu eF eG eH eP eQ eU eX eY fA fB fC fD fE fF fG fH dS dU dV dW dX dY dZ ed : Value} (hS : (wI w wz b q (.mk kind chan name label xk xn xs xv xt af exprs names tk ts tn tl ag labels kids) (.agg #[.int .i64 kind,.string ⟨chan.toArray⟩,.string ⟨name.toArray⟩,.string ⟨label.toArray⟩,.int .i64 xk,.string ⟨xn.toArray⟩,.int .i64 xs,.int .i64 xv,.string ⟨xt.toArray⟩,.slice A1 n1 c1,.slice A2 n2 c2,.slice A3 n3 c3,.int .i64 tk,.int .i64 ts,.string ⟨tn.toArray⟩,.slice A4 n4 c4,.slice A5 n5 c5,.slice A6 n6 c6,.slice A7 n7 c7]) (.slice A1 n1 c1) (.slice A2 n2 c2) (.slice A3 n3 c3) (.slice A4 n4 c4) (.slice A5 n5 c5) (.slice A6 n6 c6) (.slice A7 n7 c7) (⟨f0,f1,f2,f3,f4,f5,f6,f7,f8⟩ : uN))) (hf : bF 1048576 (.mk kind chan name label xk xn xs xv xt af exprs names tk ts tn tl ag labels kids)) (ANS : Int) (hA : Hid (nU (.mk kind chan name label xk xn xs xv xt af exprs names tk ts tn tl ag labels kids) = ANS)) (hfr : Hid (jw kind n6 = (⟨f0,f1,f2,f3,f4,f5,f6,f7,f8⟩ : uN))) (NE NT : Bool)
  (hne : ∀ w,Calls Tryz.prog 23 #[.agg #[.int .i64 xk,.string ⟨xn.toArray⟩,.int .i64 xs,.int .i64 xv,.string ⟨xt.toArray⟩,.slice A1 n1 c1],.agg #[.int .i64 0,.string ⟨#[]⟩,.int .i64 0,.int .i64 0,.string ⟨#[]⟩,.slice none 0 0]] w fun e w' => e = .returned (.bool NE) ∧ Below w.heap.size w w')
  (hnt : ∀ w,Calls Tryz.prog 38 #[.agg #[.int .i64 tk,.int .i64 ts,.string ⟨tn.toArray⟩,.slice A4 n4 c4,.slice A5 n5 c5],.agg #[.int .i64 0,.int .i64 0,.string ⟨#[]⟩,.slice none 0 0,.slice none 0 0]] w fun e w' => e = .returned (.bool NT) ∧ Below w.heap.size w w')
  (vU : Hid (zh (.mk kind chan name label xk xn xs xv xt af exprs names tk ts tn tl ag labels kids) = (B && (((f5 && aZ names) || decide (n3 = 0)) && (((f4 && decide (n2 ≤ 6)) || decide (n2 = 0)) && ((f3 || NE) && ((f6 || NT) && decide (n7 = f8)))))))) :
  Code.wp Tryz.prog EN (bodyPost Tryz.prog Tryz.f41 (fun e w' => e = .returned (.int .i64 ANS) ∧ Below w.heap.size w w')) { tmps:=#[u0,.pointer (some ⟨b,0,none⟩),u2,.pointer (some ⟨q,0,none⟩),.bool B,u5,u6,u7,u8,u9,jI,jJ,jk,jl,iW,iY,u16,jc,jd,je,jL,mW,mX,jM,jB,jG,jH,jQ,jR,jS,jT,jU,u32,jV,jW,jX,jY,jZ,ku,kw,kz,kC,kD,kE,kF,kG,kH,kJ,kK,kL,kM,kN,kP,kQ,kR,kS,kT,kU,kV,kW,kX,kY,kZ,lg,u64,lh,lm,lq,lu,lJ,lK,lL,lM,lN,lQ,lS,lT,lU,lV,lW,lX,lY,lZ,l9,mf,mg,mi,mr,mD,mF,lD,lw,mP,nP,nD,oH,oI,oJ,oK,oL,dE,dF,dG,dH,dI,dJ,dK,dL,dM,dN,dO,bP,bQ,bT,bU,bV,bW,bY,bZ,cu,cO,cZ,dh,di,dw,dC,dD,gJ,gK,gQ,gU,gV,fO,fP,fQ,fU,fV,fZ,gp,gq,gu,gy,gB,gG,gI,eu,eF,eG,eH,eP,eQ,eU,eX,eY,fA,fB,fC,fD,fE,fF,fG,fH,dS,dU,dV,dW,dX,dY,dZ,ed],defers:=[] } wz:=by
 have h : EN = Code.seq _ _:=rfl
 rw [h]
 clear h
 have HF:=zH hf
 have HS:=zH hS
 have yc:=zH hne
 have ru:=zH hnt
 obtain ⟨bb,ff,-,-,-⟩:=id hS
 have k10:=bb.c11
 have LK:=ff.c4
 have hnm : aF wz (.slice A3 n3 c3) names:=by
  obtain ⟨w1,w2,w3,w4,w5,w6,w7,e,q1,q2,q3,q4,q5,q6,q7⟩:=hS.pv
  simp only [Value.agg.injEq,Pr.aN,Pr.aT,Pr.aI,Pr.aW,Pr.jm,Pr.jo,Pr.jq,Pr.jv,Pr.jr,Pr.aY,Pr.aV,Pr.aU,Pr.jg,Pr.ji,Pr.jh,Pr.jA,Pr.aX,Pr.aH,Pr.aK] at e q1 q2 q3 q4 q5 q6 q7
  have e':=congrArg Array.toList e
  simp only [List.cons.injEq,and_true,true_and] at e'
  obtain ⟨e1,e2,e3,e4,e5,e6,e7⟩:=e'
  subst e1 e2 e3 e4 e5 e6 e7
  exact q3.is
 have PN:=zH hnm
 have hnl : (∀ s ∈ names,s.length ≤ 9223372036854775807) ∧ names.length ≤ 9223372036854775807:=by
  have hp:=hf.parts
  simp only [Pr.aN,Pr.aT,Pr.aI,Pr.aW,Pr.jm,Pr.jo,Pr.jq,Pr.jv,Pr.jr,Pr.aY,Pr.aV,Pr.aU,Pr.jg,Pr.ji,Pr.jh,Pr.jA,Pr.aX,Pr.aH,Pr.aK] at hp
  have h1:=hp.2.2.2.2.2.2.2.2.2.2.2.2.2.1
  have h2:=hp.2.2.2.2.2.2.2.2.2.2.2.2.2.2.1
  exact ⟨fun s hs => by have:=h2 s hs; omega,by omega⟩
 have uQ:=zH hnl
 clear hnm hnl
 clear hS hf hne hnt bb ff
 go_step
 go_step
 rename_i K8 h8
 have H8:=zH h8
 clear h8
 cases B with
 | false =>
  go_wp2_with fail
  refine H8.out _ _ ?_
  clear H8
  refine MO _ _ _ _ _ _ _ _ _ _ _ _ _ _ _ _ _ _ _ _ _ _ _ _ _ _ _ _ _ _ _ _ _ _ _ _ _ _ _ _ _ _ _ _ _ _ _ _ _ _ _ w _ false HS.out HF.out ANS hA hfr NE NT yc.out ru.out (zH ?_)
  rw [vU.out]; simp [*]
 | true =>
  have e0 : ((n3 : Int) == 0) = decide (n3 = 0):=by rw [Bool.eq_iff_iff]; simp
  cases f5 with
  | false =>
   simp only [dQ] at LK
   go_wp2_with fail
   refine H8.out _ _ ?_
   clear H8
   refine MO _ _ _ _ _ _ _ _ _ _ _ _ _ _ _ _ _ _ _ _ _ _ _ _ _ _ _ _ _ _ _ _ _ _ _ _ _ _ _ _ _ _ _ _ _ _ _ _ _ _ _ w _ (decide (n3 = 0)) HS.out HF.out ANS hA hfr NE NT yc.out ru.out (zH ?_)
   rw [vU.out]; simp [*]
  | true =>
   simp only [dQ] at LK
   obtain ⟨BN,hBN⟩ : ∃ x,aZ names = x:=⟨_,rfl⟩
   have BQ:=zH hBN
   clear hBN
   cases BN with
   | true =>
    go_wp2_with fail
    refine (o9 _ names _ PN.out uQ.out.1 uQ.out.2).mono ?_
    rw [BQ.out]
    rintro e w7 ⟨rfl,hb7⟩
    go_wp2_with fail
    refine H8.out _ _ ?_
    clear H8
    refine MO _ _ _ _ _ _ _ _ _ _ _ _ _ _ _ _ _ _ _ _ _ _ _ _ _ _ _ _ _ _ _ _ _ _ _ _ _ _ _ _ _ _ _ _ _ _ _ _ _ _ _ w _ true (HS.out.next hb7) HF.out ANS hA hfr NE NT yc.out ru.out (zH ?_)
    rw [vU.out,BQ.out]; simp
   | false =>
    go_wp2_with fail
    refine (o9 _ names _ PN.out uQ.out.1 uQ.out.2).mono ?_
    rw [BQ.out]
    rintro e w7 ⟨rfl,hb7⟩
    have l10:=ae k10 hb7
    go_wp2_with fail
    refine H8.out _ _ ?_
    clear H8
    refine MO _ _ _ _ _ _ _ _ _ _ _ _ _ _ _ _ _ _ _ _ _ _ _ _ _ _ _ _ _ _ _ _ _ _ _ _ _ _ _ _ _ _ _ _ _ _ _ _ _ _ _ w _ (decide (n3 = 0)) (HS.out.next hb7) HF.out ANS hA hfr NE NT yc.out ru.out (zH ?_)
    rw [vU.out,BQ.out]; simp
theorem Hf (kind : Int) (chan name label : Str) (xk : Int) (xn : Str) (xs xv : Int) (xt : Str) (af exprs : List Ex) (names : List Str) (tk ts : Int) (tn : Str) (tl : List Str) (ag : List Ty) (labels : List Str) (kids : List Pr) (A1 : Option Addr) (n1 c1 : Nat) (A2 : Option Addr) (n2 c2 : Nat) (A3 : Option Addr) (n3 c3 : Nat) (A4 : Option Addr) (n4 c4 : Nat) (A5 : Option Addr) (n5 c5 : Nat) (A6 : Option Addr) (n6 c6 : Nat) (A7 : Option Addr) (n7 c7 : Nat) (b q : Nat) (f0 f1 f2 f3 f4 f5 f6 f7 : Bool) (f8 : Nat) (w wz : World) (B : Bool) {u0 u2 u5 u6 u7 u8 u9 jI jJ jk jl iW iY u16 jc jd je jL mW mX jM jB jG jH jQ jR jS jT jU u32 jV jW jX jY jZ ku kw kz kC kD kE kF kG kH kJ kK kL kM kN kP kQ kR kS kT kU kV kW kX kY kZ lg u64 lh lm lq lu lJ lK lL lM lN lQ lS lT lU lV lW lX lY lZ l9 mf mg mi mr mD mF lD lw mP nP nD oH oI oJ oK oL dE dF dG dH dI dJ dK dL dM dN dO bP bQ bT bU bV bW bY bZ cu cO cZ dh di dw dC dD gJ gK gQ gU gV fO fP fQ fU fV fZ gp gq gu gy gB gG gI eu eF eG eH eP eQ eU eX eY fA fB fC fD fE fF fG fH dS dU dV dW dX dY dZ ed : Value} (hS : (wI w wz b q (.mk kind chan name label xk xn xs xv xt af exprs names tk ts tn tl ag labels kids) (.agg #[.int .i64 kind,.string ⟨chan.toArray⟩,.string ⟨name.toArray⟩,.string ⟨label.toArray⟩,.int .i64 xk,.string ⟨xn.toArray⟩,.int .i64 xs,.int .i64 xv,.string ⟨xt.toArray⟩,.slice A1 n1 c1,.slice A2 n2 c2,.slice A3 n3 c3,.int .i64 tk,.int .i64 ts,.string ⟨tn.toArray⟩,.slice A4 n4 c4,.slice A5 n5 c5,.slice A6 n6 c6,.slice A7 n7 c7]) (.slice A1 n1 c1) (.slice A2 n2 c2) (.slice A3 n3 c3) (.slice A4 n4 c4) (.slice A5 n5 c5) (.slice A6 n6 c6) (.slice A7 n7 c7) (⟨f0,f1,f2,f3,f4,f5,f6,f7,f8⟩ : uN))) (hf : bF 1048576 (.mk kind chan name label xk xn xs xv xt af exprs names tk ts tn tl ag labels kids)) (ANS : Int) (hA : Hid (nU (.mk kind chan name label xk xn xs xv xt af exprs names tk ts tn tl ag labels kids) = ANS)) (hfr : Hid (jw kind n6 = (⟨f0,f1,f2,f3,f4,f5,f6,f7,f8⟩ : uN))) (NE NT : Bool)
  (hne : ∀ w,Calls Tryz.prog 23 #[.agg #[.int .i64 xk,.string ⟨xn.toArray⟩,.int .i64 xs,.int .i64 xv,.string ⟨xt.toArray⟩,.slice A1 n1 c1],.agg #[.int .i64 0,.string ⟨#[]⟩,.int .i64 0,.int .i64 0,.string ⟨#[]⟩,.slice none 0 0]] w fun e w' => e = .returned (.bool NE) ∧ Below w.heap.size w w')
  (hnt : ∀ w,Calls Tryz.prog 38 #[.agg #[.int .i64 tk,.int .i64 ts,.string ⟨tn.toArray⟩,.slice A4 n4 c4,.slice A5 n5 c5],.agg #[.int .i64 0,.int .i64 0,.string ⟨#[]⟩,.slice none 0 0,.slice none 0 0]] w fun e w' => e = .returned (.bool NT) ∧ Below w.heap.size w w')
  (vU : Hid (zh (.mk kind chan name label xk xn xs xv xt af exprs names tk ts tn tl ag labels kids) = (B && (((f7 && aJ labels) || (!f7 && decide (n6 = 0))) && (((f5 && aZ names) || decide (n3 = 0)) && (((f4 && decide (n2 ≤ 6)) || decide (n2 = 0)) && ((f3 || NE) && ((f6 || NT) && decide (n7 = f8))))))))) :
  Code.wp Tryz.prog EM (bodyPost Tryz.prog Tryz.f41 (fun e w' => e = .returned (.int .i64 ANS) ∧ Below w.heap.size w w')) { tmps:=#[u0,.pointer (some ⟨b,0,none⟩),u2,.pointer (some ⟨q,0,none⟩),.bool B,u5,u6,u7,u8,u9,jI,jJ,jk,jl,iW,iY,u16,jc,jd,je,jL,mW,mX,jM,jB,jG,jH,jQ,jR,jS,jT,jU,u32,jV,jW,jX,jY,jZ,ku,kw,kz,kC,kD,kE,kF,kG,kH,kJ,kK,kL,kM,kN,kP,kQ,kR,kS,kT,kU,kV,kW,kX,kY,kZ,lg,u64,lh,lm,lq,lu,lJ,lK,lL,lM,lN,lQ,lS,lT,lU,lV,lW,lX,lY,lZ,l9,mf,mg,mi,mr,mD,mF,lD,lw,mP,nP,nD,oH,oI,oJ,oK,oL,dE,dF,dG,dH,dI,dJ,dK,dL,dM,dN,dO,bP,bQ,bT,bU,bV,bW,bY,bZ,cu,cO,cZ,dh,di,dw,dC,dD,gJ,gK,gQ,gU,gV,fO,fP,fQ,fU,fV,fZ,gp,gq,gu,gy,gB,gG,gI,eu,eF,eG,eH,eP,eQ,eU,eX,eY,fA,fB,fC,fD,fE,fF,fG,fH,dS,dU,dV,dW,dX,dY,dZ,ed],defers:=[] } wz:=by
 have h : EM = Code.seq _ _:=rfl
 rw [h]
 clear h
 have HF:=zH hf
 have HS:=zH hS
 have yc:=zH hne
 have ru:=zH hnt
 obtain ⟨bb,ff,-,-,-⟩:=id hS
 have k10:=bb.c17
 have LK:=ff.c3
 have hnm : aF wz (.slice A6 n6 c6) labels:=by
  obtain ⟨w1,w2,w3,w4,w5,w6,w7,e,q1,q2,q3,q4,q5,q6,q7⟩:=hS.pv
  simp only [Value.agg.injEq,Pr.aN,Pr.aT,Pr.aI,Pr.aW,Pr.jm,Pr.jo,Pr.jq,Pr.jv,Pr.jr,Pr.aY,Pr.aV,Pr.aU,Pr.jg,Pr.ji,Pr.jh,Pr.jA,Pr.aX,Pr.aH,Pr.aK] at e q1 q2 q3 q4 q5 q6 q7
  have e':=congrArg Array.toList e
  simp only [List.cons.injEq,and_true,true_and] at e'
  obtain ⟨e1,e2,e3,e4,e5,e6,e7⟩:=e'
  subst e1 e2 e3 e4 e5 e6 e7
  exact q6.is
 have PN:=zH hnm
 have hnl : (∀ s ∈ labels,s.length ≤ 9223372036854775807) ∧ labels.length ≤ 9223372036854775807:=by
  have hp:=hf.parts
  simp only [Pr.aN,Pr.aT,Pr.aI,Pr.aW,Pr.jm,Pr.jo,Pr.jq,Pr.jv,Pr.jr,Pr.aY,Pr.aV,Pr.aU,Pr.jg,Pr.ji,Pr.jh,Pr.jA,Pr.aX,Pr.aH,Pr.aK] at hp
  have h1:=hp.2.2.2.2.2.2.2.2.2.2.2.2.2.2.2.2.2.2.2.2.2.2.1
  have h2:=hp.2.2.2.2.2.2.2.2.2.2.2.2.2.2.2.2.2.2.2.2.2.2.2.1
  exact ⟨fun s hs => by have:=h2 s hs; omega,by omega⟩
 have uQ:=zH hnl
 clear hnm hnl
 clear hS hf hne hnt bb ff
 go_step
 go_step
 rename_i K8 h8
 have H8:=zH h8
 clear h8
 cases B with
 | false =>
  go_wp2_with fail
  refine H8.out _ _ ?_
  clear H8
  refine MN _ _ _ _ _ _ _ _ _ _ _ _ _ _ _ _ _ _ _ _ _ _ _ _ _ _ _ _ _ _ _ _ _ _ _ _ _ _ _ _ _ _ _ _ _ _ _ _ _ _ _ w _ false HS.out HF.out ANS hA hfr NE NT yc.out ru.out (zH ?_)
  rw [vU.out]; simp [*]
 | true =>
  have e0 : ((n6 : Int) == 0) = decide (n6 = 0):=by rw [Bool.eq_iff_iff]; simp
  cases f7 with
  | false =>
   simp only [dQ] at LK
   go_wp2_with fail
   refine H8.out _ _ ?_
   clear H8
   refine MN _ _ _ _ _ _ _ _ _ _ _ _ _ _ _ _ _ _ _ _ _ _ _ _ _ _ _ _ _ _ _ _ _ _ _ _ _ _ _ _ _ _ _ _ _ _ _ _ _ _ _ w _ (decide (n6 = 0)) HS.out HF.out ANS hA hfr NE NT yc.out ru.out (zH ?_)
   rw [vU.out]; simp [*]
  | true =>
   simp only [dQ] at LK
   obtain ⟨BN,hBN⟩ : ∃ x,aJ labels = x:=⟨_,rfl⟩
   have BQ:=zH hBN
   clear hBN
   cases BN with
   | true =>
    go_wp2_with fail
    refine (uC _ labels _ PN.out uQ.out.1 uQ.out.2).mono ?_
    rw [BQ.out]
    rintro e w7 ⟨rfl,hb7⟩
    go_wp2_with fail
    refine H8.out _ _ ?_
    clear H8
    refine MN _ _ _ _ _ _ _ _ _ _ _ _ _ _ _ _ _ _ _ _ _ _ _ _ _ _ _ _ _ _ _ _ _ _ _ _ _ _ _ _ _ _ _ _ _ _ _ _ _ _ _ w _ true (HS.out.next hb7) HF.out ANS hA hfr NE NT yc.out ru.out (zH ?_)
    rw [vU.out,BQ.out]; simp
   | false =>
    go_wp2_with fail
    refine (uC _ labels _ PN.out uQ.out.1 uQ.out.2).mono ?_
    rw [BQ.out]
    rintro e w7 ⟨rfl,hb7⟩
    have l10:=ae k10 hb7
    have l4:=ae LK hb7
    go_wp2_with fail
    refine H8.out _ _ ?_
    clear H8
    refine MN _ _ _ _ _ _ _ _ _ _ _ _ _ _ _ _ _ _ _ _ _ _ _ _ _ _ _ _ _ _ _ _ _ _ _ _ _ _ _ _ _ _ _ _ _ _ _ _ _ _ _ w _ false (HS.out.next hb7) HF.out ANS hA hfr NE NT yc.out ru.out (zH ?_)
    rw [vU.out,BQ.out]; simp
theorem ou (f : Bool) (l : Str) (w : World) (hl : l.length ≤ 9223372036854775807) :
  Calls Tryz.prog 75 #[.int .i64 (dQ f 1),.string ⟨l.toArray⟩] w fun e w' => e = .returned (.bool (ai f (!decide (l = [])) (ah l))) ∧ Below w.heap.size w w':=by
 cases f with
 | true => exact Ec 1 l w hl (Or.inr rfl)
 | false => exact Ec 0 l w hl (Or.inl rfl)
theorem pa_3 (kind : Int) (chan name label : Str) (xk : Int) (xn : Str) (xs xv : Int) (xt : Str) (af exprs : List Ex) (names : List Str) (tk ts : Int) (tn : Str) (tl : List Str) (ag : List Ty) (labels : List Str) (kids : List Pr) (A1 : Option Addr) (n1 c1 : Nat) (A2 : Option Addr) (n2 c2 : Nat) (A3 : Option Addr) (n3 c3 : Nat) (A4 : Option Addr) (n4 c4 : Nat) (A5 : Option Addr) (n5 c5 : Nat) (A6 : Option Addr) (n6 c6 : Nat) (A7 : Option Addr) (n7 c7 : Nat) (b q : Nat) (f0 f1 f2 f3 f4 f5 f6 f7 : Bool) (f8 : Nat) (w wz : World) (B : Bool) {u0 u2 u6 u7 u8 u9 jI jJ jk jl iW iY u16 jc jd je jL mW mX jM jB jG jH jQ jR jS jT jU u32 jV jW jX jY jZ ku kw kz kC kD kE kF kG kH kJ kK kL kM kN kP kQ kR kS kT kU kV kW kX kY kZ lg u64 lh lm lq lu lJ lK lL lM lN lQ lS lT lU lV lW lX lY lZ l9 mf mg mi mr mD mF lD lw mP nP nD oH oI oJ oK oL dE dF dG dH dI dJ dK dL dM dN dO bP bQ bT bU bV bW bY bZ cu cO cZ dh di dw dC dD gJ gK gQ gU gV fO fP fQ fU fV fZ gp gq gu gy gB gG gI eu eF eG eH eP eQ eU eX eY fA fB fC fD fE fF fG fH dS dU dV dW dX dY dZ ed : Value} (hS : (wI w wz b q (.mk kind chan name label xk xn xs xv xt af exprs names tk ts tn tl ag labels kids) (.agg #[.int .i64 kind,.string ⟨chan.toArray⟩,.string ⟨name.toArray⟩,.string ⟨label.toArray⟩,.int .i64 xk,.string ⟨xn.toArray⟩,.int .i64 xs,.int .i64 xv,.string ⟨xt.toArray⟩,.slice A1 n1 c1,.slice A2 n2 c2,.slice A3 n3 c3,.int .i64 tk,.int .i64 ts,.string ⟨tn.toArray⟩,.slice A4 n4 c4,.slice A5 n5 c5,.slice A6 n6 c6,.slice A7 n7 c7]) (.slice A1 n1 c1) (.slice A2 n2 c2) (.slice A3 n3 c3) (.slice A4 n4 c4) (.slice A5 n5 c5) (.slice A6 n6 c6) (.slice A7 n7 c7) (⟨f0,f1,f2,f3,f4,f5,f6,f7,f8⟩ : uN))) (hf : bF 1048576 (.mk kind chan name label xk xn xs xv xt af exprs names tk ts tn tl ag labels kids)) (ANS : Int) (hA : Hid (nU (.mk kind chan name label xk xn xs xv xt af exprs names tk ts tn tl ag labels kids) = ANS)) (hfr : Hid (jw kind n6 = (⟨f0,f1,f2,f3,f4,f5,f6,f7,f8⟩ : uN))) (NE NT : Bool)
  (hne : ∀ w,Calls Tryz.prog 23 #[.agg #[.int .i64 xk,.string ⟨xn.toArray⟩,.int .i64 xs,.int .i64 xv,.string ⟨xt.toArray⟩,.slice A1 n1 c1],.agg #[.int .i64 0,.string ⟨#[]⟩,.int .i64 0,.int .i64 0,.string ⟨#[]⟩,.slice none 0 0]] w fun e w' => e = .returned (.bool NE) ∧ Below w.heap.size w w')
  (hnt : ∀ w,Calls Tryz.prog 38 #[.agg #[.int .i64 tk,.int .i64 ts,.string ⟨tn.toArray⟩,.slice A4 n4 c4,.slice A5 n5 c5],.agg #[.int .i64 0,.int .i64 0,.string ⟨#[]⟩,.slice none 0 0,.slice none 0 0]] w fun e w' => e = .returned (.bool NT) ∧ Below w.heap.size w w')
  (vU : Hid (zh (.mk kind chan name label xk xn xs xv xt af exprs names tk ts tn tl ag labels kids) = (B && (ai f0 (!decide (chan = [])) (ah chan) && (ai f1 (!decide (name = [])) (ah name) && (ai f2 (!decide (label = [])) (ah label) && ((!decide (kind = 13) || nz name) && (((f7 && aJ labels) || (!f7 && decide (n6 = 0))) && (((f5 && aZ names) || decide (n3 = 0)) && (((f4 && decide (n2 ≤ 6)) || decide (n2 = 0)) && ((f3 || NE) && ((f6 || NT) && decide (n7 = f8))))))))))))) :
  Code.wp Tryz.prog BH (bodyPost Tryz.prog Tryz.f41 (fun e w' => e = .returned (.int .i64 ANS) ∧ Below w.heap.size w w')) { tmps:=#[u0,.pointer (some ⟨b,0,none⟩),u2,.pointer (some ⟨q,0,none⟩),.bool B,.func (.func 75) #[] #[],u6,u7,u8,u9,jI,jJ,jk,jl,iW,iY,u16,jc,jd,je,jL,mW,mX,jM,jB,jG,jH,jQ,jR,jS,jT,jU,u32,jV,jW,jX,jY,jZ,ku,kw,kz,kC,kD,kE,kF,kG,kH,kJ,kK,kL,kM,kN,kP,kQ,kR,kS,kT,kU,kV,kW,kX,kY,kZ,lg,u64,lh,lm,lq,lu,lJ,lK,lL,lM,lN,lQ,lS,lT,lU,lV,lW,lX,lY,lZ,l9,mf,mg,mi,mr,mD,mF,lD,lw,mP,nP,nD,oH,oI,oJ,oK,oL,dE,dF,dG,dH,dI,dJ,dK,dL,dM,dN,dO,bP,bQ,bT,bU,bV,bW,bY,bZ,cu,cO,cZ,dh,di,dw,dC,dD,gJ,gK,gQ,gU,gV,fO,fP,fQ,fU,fV,fZ,gp,gq,gu,gy,gB,gG,gI,eu,eF,eG,eH,eP,eQ,eU,eX,eY,fA,fB,fC,fD,fE,fF,fG,fH,dS,dU,dV,dW,dX,dY,dZ,ed],defers:=[] } wz:=by
 have h : BH = Code.seq _ _:=rfl
 rw [h]
 clear h
 have HF:=zH hf
 have HS:=zH hS
 have yc:=zH hne
 have ru:=zH hnt
 have hln : chan.length ≤ 1048576 ∧ name.length ≤ 1048576 ∧ label.length ≤ 1048576:=by
  have hp:=hf.parts
  simp only [Pr.aN,Pr.aT,Pr.aI,Pr.aW,Pr.jm,Pr.jo,Pr.jq,Pr.jv,Pr.jr,Pr.aY,Pr.aV,Pr.aU,Pr.jg,Pr.ji,Pr.jh,Pr.jA,Pr.aX,Pr.aH,Pr.aK] at hp
  exact ⟨hp.2.1,hp.2.2.1,hp.2.2.2.1⟩
 obtain ⟨hl1,hl2,hl3⟩:=hln
 obtain ⟨bb,ff,-,-,-⟩:=id hS
 have x0:=bb.c0
 have x1:=bb.c1
 have x2:=bb.c2
 have x3:=bb.c3
 have g0:=ff.c0
 have g1:=ff.c1
 have g2:=ff.c2
 simp only [Pr.aN,Pr.aT,Pr.aI,Pr.aW,Pr.jm,Pr.jo,Pr.jq,Pr.jv,Pr.jr,Pr.aY,Pr.aV,Pr.aU,Pr.jg,Pr.ji,Pr.jh,Pr.jA,Pr.aX,Pr.aH,Pr.aK] at x0 x1 x2 x3 g0 g1 g2
 obtain ⟨C0,hC0⟩ : ∃ x,ai f0 (!decide (chan = [])) (ah chan) = x:=⟨_,rfl⟩
 obtain ⟨C1,UG⟩ : ∃ x,ai f1 (!decide (name = [])) (ah name) = x:=⟨_,rfl⟩
 obtain ⟨C2,hC2⟩ : ∃ x,ai f2 (!decide (label = [])) (ah label) = x:=⟨_,rfl⟩
 obtain ⟨C3,UH⟩ : ∃ x,nz name = x:=⟨_,rfl⟩
 have IG:=zH hC0
 have ER:=zH UG
 have HC2:=zH hC2
 have RV:=zH UH
 clear hS hf hne hnt bb ff hC0 UG hC2 UH
 go_step
 go_step
 rename_i K8 h8
 have H8:=zH h8
 clear h8
 cases B with
 | false =>
  go_wp2_with fail
  refine H8.out _ _ ?_
  clear H8
  refine Hf _ _ _ _ _ _ _ _ _ _ _ _ _ _ _ _ _ _ _ _ _ _ _ _ _ _ _ _ _ _ _ _ _ _ _ _ _ _ _ _ _ _ _ _ _ _ _ _ _ _ _ w _ false HS.out HF.out ANS hA hfr NE NT yc.out ru.out (zH ?_)
  rw [vU.out]; simp
 | true =>
  cases C0 with
  | false =>
   go_wp2_with fail
   refine (ou f0 chan wz (by omega)).mono ?_
   rw [IG.out]
   rintro e w1 ⟨rfl,hb1⟩
   have Hm:=ae x0 hb1
   have x11:=ae x1 hb1
   have Ho:=ae x2 hb1
   have x31:=ae x3 hb1
   have GX:=ae g0 hb1
   have g11:=ae g1 hb1
   have g21:=ae g2 hb1
   clear x0 x1 x2 x3 g0 g1 g2
   go_wp2_with fail
   refine H8.out _ _ ?_
   clear H8
   refine Hf _ _ _ _ _ _ _ _ _ _ _ _ _ _ _ _ _ _ _ _ _ _ _ _ _ _ _ _ _ _ _ _ _ _ _ _ _ _ _ _ _ _ _ _ _ _ _ _ _ _ _ w _ false (HS.out.next hb1) HF.out ANS hA hfr NE NT yc.out ru.out (zH ?_)
   rw [vU.out,IG.out,ER.out,HC2.out]; simp
  | true =>
   cases C1 with
   | false =>
    go_wp2_with fail
    refine (ou f0 chan wz (by omega)).mono ?_
    rw [IG.out]
    rintro e w1 ⟨rfl,hb1⟩
    have Hm:=ae x0 hb1
    have x11:=ae x1 hb1
    have Ho:=ae x2 hb1
    have x31:=ae x3 hb1
    have GX:=ae g0 hb1
    have g11:=ae g1 hb1
    have g21:=ae g2 hb1
    clear x0 x1 x2 x3 g0 g1 g2
    go_wp2_with fail
    refine (ou f1 name w1 (by omega)).mono ?_
    rw [ER.out]
    rintro e w2 ⟨rfl,hb2⟩
    have IQ:=ae Hm hb2
    have x12:=ae x11 hb2
    have IR:=ae Ho hb2
    have x32:=ae x31 hb2
    have II:=ae GX hb2
    have g12:=ae g11 hb2
    have g22:=ae g21 hb2
    clear Hm x11 Ho x31 GX g11 g21
    go_wp2_with fail
    refine H8.out _ _ ?_
    clear H8
    refine Hf _ _ _ _ _ _ _ _ _ _ _ _ _ _ _ _ _ _ _ _ _ _ _ _ _ _ _ _ _ _ _ _ _ _ _ _ _ _ _ _ _ _ _ _ _ _ _ _ _ _ _ w _ false ((HS.out.next hb1).next hb2) HF.out ANS hA hfr NE NT yc.out ru.out (zH ?_)
    rw [vU.out,IG.out,ER.out,HC2.out]; simp
   | true =>
    cases C2 with
    | false =>
     go_wp2_with fail
     refine (ou f0 chan wz (by omega)).mono ?_
     rw [IG.out]
     rintro e w1 ⟨rfl,hb1⟩
     have Hm:=ae x0 hb1
     have x11:=ae x1 hb1
     have Ho:=ae x2 hb1
     have x31:=ae x3 hb1
     have GX:=ae g0 hb1
     have g11:=ae g1 hb1
     have g21:=ae g2 hb1
     clear x0 x1 x2 x3 g0 g1 g2
     go_wp2_with fail
     refine (ou f1 name w1 (by omega)).mono ?_
     rw [ER.out]
     rintro e w2 ⟨rfl,hb2⟩
     have IQ:=ae Hm hb2
     have x12:=ae x11 hb2
     have IR:=ae Ho hb2
     have x32:=ae x31 hb2
     have II:=ae GX hb2
     have g12:=ae g11 hb2
     have g22:=ae g21 hb2
     clear Hm x11 Ho x31 GX g11 g21
     go_wp2_with fail
     refine (ou f2 label w2 (by omega)).mono ?_
     rw [HC2.out]
     rintro e w3 ⟨rfl,hb3⟩
     have Ub:=ae IQ hb3
     have MR:=ae x12 hb3
     have Uc:=ae IR hb3
     have Ud:=ae x32 hb3
     have TM:=ae II hb3
     have g13:=ae g12 hb3
     have g23:=ae g22 hb3
     clear IQ x12 IR x32 II g12 g22
     go_wp2_with fail
     refine H8.out _ _ ?_
     clear H8
     refine Hf _ _ _ _ _ _ _ _ _ _ _ _ _ _ _ _ _ _ _ _ _ _ _ _ _ _ _ _ _ _ _ _ _ _ _ _ _ _ _ _ _ _ _ _ _ _ _ _ _ _ _ w _ false (((HS.out.next hb1).next hb2).next hb3) HF.out ANS hA hfr NE NT yc.out ru.out (zH ?_)
     rw [vU.out,IG.out,ER.out,HC2.out]; simp
    | true =>
     by_cases h13 : kind = 13
     ·have hk13 : (kind != 13) = false:=by rw [bne_eq_false_iff_eq]; exact h13
      have LY:=zH h13
      clear h13
      cases C3 with
      | false =>
       go_wp2_with fail
       refine (ou f0 chan wz (by omega)).mono ?_
       rw [IG.out]
       rintro e w1 ⟨rfl,hb1⟩
       have Hm:=ae x0 hb1
       have x11:=ae x1 hb1
       have Ho:=ae x2 hb1
       have x31:=ae x3 hb1
       have GX:=ae g0 hb1
       have g11:=ae g1 hb1
       have g21:=ae g2 hb1
       clear x0 x1 x2 x3 g0 g1 g2
       go_wp2_with fail
       refine (ou f1 name w1 (by omega)).mono ?_
       rw [ER.out]
       rintro e w2 ⟨rfl,hb2⟩
       have IQ:=ae Hm hb2
       have x12:=ae x11 hb2
       have IR:=ae Ho hb2
       have x32:=ae x31 hb2
       have II:=ae GX hb2
       have g12:=ae g11 hb2
       have g22:=ae g21 hb2
       clear Hm x11 Ho x31 GX g11 g21
       go_wp2_with fail
       refine (ou f2 label w2 (by omega)).mono ?_
       rw [HC2.out]
       rintro e w3 ⟨rfl,hb3⟩
       have Ub:=ae IQ hb3
       have MR:=ae x12 hb3
       have Uc:=ae IR hb3
       have Ud:=ae x32 hb3
       have TM:=ae II hb3
       have g13:=ae g12 hb3
       have g23:=ae g22 hb3
       clear IQ x12 IR x32 II g12 g22
       go_wp2_with fail
       refine (qf name w3 (by omega)).mono ?_
       rw [RV.out]
       rintro e w4 ⟨rfl,hb4⟩
       go_wp2_with fail
       refine H8.out _ _ ?_
       clear H8
       refine Hf _ _ _ _ _ _ _ _ _ _ _ _ _ _ _ _ _ _ _ _ _ _ _ _ _ _ _ _ _ _ _ _ _ _ _ _ _ _ _ _ _ _ _ _ _ _ _ _ _ _ _ w _ false ((((HS.out.next hb1).next hb2).next hb3).next hb4) HF.out ANS hA hfr NE NT yc.out ru.out (zH ?_)
       rw [vU.out,IG.out,ER.out,HC2.out,RV.out,decide_eq_true LY.out]; simp
      | true =>
       go_wp2_with fail
       refine (ou f0 chan wz (by omega)).mono ?_
       rw [IG.out]
       rintro e w1 ⟨rfl,hb1⟩
       have Hm:=ae x0 hb1
       have x11:=ae x1 hb1
       have Ho:=ae x2 hb1
       have x31:=ae x3 hb1
       have GX:=ae g0 hb1
       have g11:=ae g1 hb1
       have g21:=ae g2 hb1
       clear x0 x1 x2 x3 g0 g1 g2
       go_wp2_with fail
       refine (ou f1 name w1 (by omega)).mono ?_
       rw [ER.out]
       rintro e w2 ⟨rfl,hb2⟩
       have IQ:=ae Hm hb2
       have x12:=ae x11 hb2
       have IR:=ae Ho hb2
       have x32:=ae x31 hb2
       have II:=ae GX hb2
       have g12:=ae g11 hb2
       have g22:=ae g21 hb2
       clear Hm x11 Ho x31 GX g11 g21
       go_wp2_with fail
       refine (ou f2 label w2 (by omega)).mono ?_
       rw [HC2.out]
       rintro e w3 ⟨rfl,hb3⟩
       have Ub:=ae IQ hb3
       have MR:=ae x12 hb3
       have Uc:=ae IR hb3
       have Ud:=ae x32 hb3
       have TM:=ae II hb3
       have g13:=ae g12 hb3
       have g23:=ae g22 hb3
       clear IQ x12 IR x32 II g12 g22
       go_wp2_with fail
       refine (qf name w3 (by omega)).mono ?_
       rw [RV.out]
       rintro e w4 ⟨rfl,hb4⟩
       go_wp2_with fail
       refine H8.out _ _ ?_
       clear H8
       refine Hf _ _ _ _ _ _ _ _ _ _ _ _ _ _ _ _ _ _ _ _ _ _ _ _ _ _ _ _ _ _ _ _ _ _ _ _ _ _ _ _ _ _ _ _ _ _ _ _ _ _ _ w _ true ((((HS.out.next hb1).next hb2).next hb3).next hb4) HF.out ANS hA hfr NE NT yc.out ru.out (zH ?_)
       rw [vU.out,IG.out,ER.out,HC2.out,RV.out,decide_eq_true LY.out]; simp
     ·have hk13 : (kind != 13) = true:=by rw [bne_iff_ne]; exact h13
      have LY:=zH h13
      clear h13
      go_wp2_with fail
      refine (ou f0 chan wz (by omega)).mono ?_
      rw [IG.out]
      rintro e w1 ⟨rfl,hb1⟩
      have Hm:=ae x0 hb1
      have x11:=ae x1 hb1
      have Ho:=ae x2 hb1
      have x31:=ae x3 hb1
      have GX:=ae g0 hb1
      have g11:=ae g1 hb1
      have g21:=ae g2 hb1
      clear x0 x1 x2 x3 g0 g1 g2
      go_wp2_with fail
      refine (ou f1 name w1 (by omega)).mono ?_
      rw [ER.out]
      rintro e w2 ⟨rfl,hb2⟩
      have IQ:=ae Hm hb2
      have x12:=ae x11 hb2
      have IR:=ae Ho hb2
      have x32:=ae x31 hb2
      have II:=ae GX hb2
      have g12:=ae g11 hb2
      have g22:=ae g21 hb2
      clear Hm x11 Ho x31 GX g11 g21
      go_wp2_with fail
      refine (ou f2 label w2 (by omega)).mono ?_
      rw [HC2.out]
      rintro e w3 ⟨rfl,hb3⟩
      have Ub:=ae IQ hb3
      have MR:=ae x12 hb3
      have Uc:=ae IR hb3
      have Ud:=ae x32 hb3
      have TM:=ae II hb3
      have g13:=ae g12 hb3
      have g23:=ae g22 hb3
      clear IQ x12 IR x32 II g12 g22
      go_wp2_with fail
      refine H8.out _ _ ?_
      clear H8
      refine Hf _ _ _ _ _ _ _ _ _ _ _ _ _ _ _ _ _ _ _ _ _ _ _ _ _ _ _ _ _ _ _ _ _ _ _ _ _ _ _ _ _ _ _ _ _ _ _ _ _ _ _ w _ true (((HS.out.next hb1).next hb2).next hb3) HF.out ANS hA hfr NE NT yc.out ru.out (zH ?_)
      rw [vU.out,IG.out,ER.out,HC2.out,decide_eq_false LY.out]; simp
theorem frm_call {k : Int} {n : Nat} (h : k = 13) : (jw k n).name = true:=by subst h; rfl
theorem prOk_ref (p : Pr) : zh p = (isKind p.kind && (ai (jw p.kind p.labels.length).chan (!decide (p.chan = [])) (ah p.chan) && (ai (jw p.kind p.labels.length).name (!decide (p.name = [])) (ah p.name) && (ai (jw p.kind p.labels.length).label (!decide (p.label = [])) (ah p.label) && ((!decide (p.kind = 13) || nz p.name) && ((((jw p.kind p.labels.length).labels && aJ p.labels) || (!(jw p.kind p.labels.length).labels && decide (p.labels.length = 0))) && ((((jw p.kind p.labels.length).names && aZ p.names) || decide (p.names.length = 0)) && ((((jw p.kind p.labels.length).exprs && decide (p.exprs.length ≤ 6)) || decide (p.exprs.length = 0)) && (((jw p.kind p.labels.length).expr || Ha p) && (((jw p.kind p.labels.length).type || He p) && decide (p.kids.length = (jw p.kind p.labels.length).kids))))))))))):=by
 have e1 : ai (jw p.kind p.labels.length).name (!decide (p.name = [])) (named p) = (ai (jw p.kind p.labels.length).name (!decide (p.name = [])) (ah p.name) && (!decide (p.kind = 13) || nz p.name)):=by
  unfold named ai
  by_cases h : p.kind = 13
  ·rw [frm_call h]; simp [h]
  ·simp [h]
 have e2 : ai (jw p.kind p.labels.length).labels (!decide (p.labels.length = 0)) (aJ p.labels) = (((jw p.kind p.labels.length).labels && aJ p.labels) || (!(jw p.kind p.labels.length).labels && decide (p.labels.length = 0))):=by
  unfold ai; rw [Bool.not_not]
 have e3 : ai (jw p.kind p.labels.length).names (!decide (p.names.length = 0)) (aZ p.names) = (((jw p.kind p.labels.length).names && aZ p.names) || decide (p.names.length = 0)):=by
  unfold ai
  rw [Bool.not_not]
  by_cases h : p.names.length = 0
  ·have : aZ p.names = true:=by rw [List.eq_nil_of_length_eq_zero h]; rfl
   rw [this]; cases (jw p.kind p.labels.length).names <;> simp [h]
  ·simp [h]
 have e4 : ai (jw p.kind p.labels.length).exprs (!decide (p.exprs.length = 0)) (decide (p.exprs.length ≤ 6)) = (((jw p.kind p.labels.length).exprs && decide (p.exprs.length ≤ 6)) || decide (p.exprs.length = 0)):=by
  unfold ai
  rw [Bool.not_not]
  by_cases h : p.exprs.length = 0
  ·cases (jw p.kind p.labels.length).exprs <;> simp [h]
  ·simp [h]
 have e5 : ai (jw p.kind p.labels.length).expr (!Ha p) true = ((jw p.kind p.labels.length).expr || Ha p):=by
  unfold ai; cases (jw p.kind p.labels.length).expr <;> simp
 have e6 : ai (jw p.kind p.labels.length).type (!He p) true = ((jw p.kind p.labels.length).type || He p):=by
  unfold ai; cases (jw p.kind p.labels.length).type <;> simp
 unfold zh isKind
 rw [e1,e2,e3,e4,e5,e6]
 clear e1 e2 e3 e4 e5 e6
 generalize ai (jw p.kind p.labels.length).chan (!decide (p.chan = [])) (ah p.chan) = a1
 generalize ai (jw p.kind p.labels.length).name (!decide (p.name = [])) (ah p.name) = a2
 generalize ai (jw p.kind p.labels.length).label (!decide (p.label = [])) (ah p.label) = a3
 generalize (!decide (p.kind = 13) || nz p.name) = a4
 generalize (((jw p.kind p.labels.length).labels && aJ p.labels) || (!(jw p.kind p.labels.length).labels && decide (p.labels.length = 0))) = a5
 generalize (((jw p.kind p.labels.length).names && aZ p.names) || decide (p.names.length = 0)) = a6
 generalize (((jw p.kind p.labels.length).exprs && decide (p.exprs.length ≤ 6)) || decide (p.exprs.length = 0)) = a7
 generalize ((jw p.kind p.labels.length).expr || Ha p) = a8
 generalize ((jw p.kind p.labels.length).type || He p) = a9
 generalize decide (p.kids.length = (jw p.kind p.labels.length).kids) = a10
 generalize decide (1 ≤ p.kind) = b1
 generalize decide (p.kind ≤ 13) = b2
 ac_rfl
theorem refAlone_any (p : Pr) (v : Value) (w : World) (hv : zn All w v p) (hf : bF 1048576 p) (hT : Tabs w) :
  Calls Tryz.prog 41 #[v] w fun e w' => e = .returned (.int .i64 (nU p)) ∧ Below w.heap.size w w':=by
 obtain ⟨kind,chan,name,label,xk,xn,xs,xv,xt,af,exprs,names,tk,ts,tn,tl,ag,labels,kids⟩:=p
 have HVV:=zH hv
 obtain ⟨A1,n1,c1,A2,n2,c2,A3,n3,c3,A4,n4,c4,A5,n5,c5,A6,n6,c6,A7,n7,c7,rfl,q1,q2,q3,q4,q5,q6,q7⟩:=hv.one'
 simp only [Pr.aN,Pr.aT,Pr.aI,Pr.aW,Pr.jm,Pr.jo,Pr.jq,Pr.jv,Pr.jr,Pr.aY,Pr.aV,Pr.aU,Pr.jg,Pr.ji,Pr.jh,Pr.jA,Pr.aX,Pr.aH,Pr.aK] at q1 q2 q3 q4 q5 q6 q7 ⊢
 have hok : zh (.mk kind chan name label xk xn xs xv xt af exprs names tk ts tn tl ag labels kids) = (isKind kind && (ai (jw kind labels.length).chan (!decide (chan = [])) (ah chan) && (ai (jw kind labels.length).name (!decide (name = [])) (ah name) && (ai (jw kind labels.length).label (!decide (label = [])) (ah label) && ((!decide (kind = 13) || nz name) && ((((jw kind labels.length).labels && aJ labels) || (!(jw kind labels.length).labels && decide (labels.length = 0))) && ((((jw kind labels.length).names && aZ names) || decide (names.length = 0)) && ((((jw kind labels.length).exprs && decide (exprs.length ≤ 6)) || decide (exprs.length = 0)) && (((jw kind labels.length).expr || Ha (.mk kind chan name label xk xn xs xv xt af exprs names tk ts tn tl ag labels kids)) && (((jw kind labels.length).type || He (.mk kind chan name label xk xn xs xv xt af exprs names tk ts tn tl ag labels kids)) && decide (kids.length = (jw kind labels.length).kids))))))))))):=prOk_ref (.mk kind chan name label xk xn xs xv xt af exprs names tk ts tn tl ag labels kids)
 have l1 : n1 = af.length:=by obtain ⟨_,_,e,-⟩:=q1; injection e
 have l2 : n2 = exprs.length:=by obtain ⟨_,_,e,-⟩:=q2; injection e
 have l3 : n3 = names.length:=by obtain ⟨_,_,e,-⟩:=q3; injection e
 have l4 : n4 = tl.length:=by obtain ⟨_,_,e,-⟩:=q4; injection e
 have l5 : n5 = ag.length:=by obtain ⟨_,_,e,-⟩:=q5; injection e
 have l6 : n6 = labels.length:=by obtain ⟨_,_,e,-⟩:=q6; injection e
 have l7 : n7 = kids.length:=by obtain ⟨_,_,e,-⟩:=q7; injection e
 have hp:=hf.parts
 simp only [Pr.aN,Pr.aT,Pr.aI,Pr.aW,Pr.jm,Pr.jo,Pr.jq,Pr.jv,Pr.jr,Pr.aY,Pr.aV,Pr.aU,Pr.jg,Pr.ji,Pr.jh,Pr.jA,Pr.aX,Pr.aH,Pr.aK] at hp
 obtain ⟨NE,Me⟩ : ∃ x,Ha (.mk kind chan name label xk xn xs xv xt af exprs names tk ts tn tl ag labels kids) = x:=⟨_,rfl⟩
 obtain ⟨NT,MB⟩ : ∃ x,He (.mk kind chan name label xk xn xs xv xt af exprs names tk ts tn tl ag labels kids) = x:=⟨_,rfl⟩
 have hne : ∀ w,Calls Tryz.prog 23 #[.agg #[.int .i64 xk,.string ⟨xn.toArray⟩,.int .i64 xs,.int .i64 xv,.string ⟨xt.toArray⟩,.slice A1 n1 c1],.agg #[.int .i64 0,.string ⟨#[]⟩,.int .i64 0,.int .i64 0,.string ⟨#[]⟩,.slice none 0 0]] w fun e w' => e = .returned (.bool NE) ∧ Below w.heap.size w w':=by
  intro w
  have:=sameNoExpr_cells xk xn xs xv xt A1 n1 c1 w
  refine this.mono ?_
  rintro e w' ⟨h1,h2⟩
  refine ⟨?_,h2⟩
  rw [h1,← Me,l1]
  rfl
 have hnt : ∀ w,Calls Tryz.prog 38 #[.agg #[.int .i64 tk,.int .i64 ts,.string ⟨tn.toArray⟩,.slice A4 n4 c4,.slice A5 n5 c5],.agg #[.int .i64 0,.int .i64 0,.string ⟨#[]⟩,.slice none 0 0,.slice none 0 0]] w fun e w' => e = .returned (.bool NT) ∧ Below w.heap.size w w':=by
  intro w
  have:=sameNoType_cells tk ts tn A4 n4 c4 A5 n5 c5 w (by rw [l4]; exact hp.2.2.2.2.2.2.2.2.2.2.2.2.2.2.2.2.2.2.1) (by rw [l5]; exact hp.2.2.2.2.2.2.2.2.2.2.2.2.2.2.2.2.2.2.2.2.1)
  refine this.mono ?_
  rintro e w' ⟨h1,h2⟩
  refine ⟨?_,h2⟩
  rw [h1,← MB,l4,l5]
  rfl
 rw [Me,MB] at hok
 obtain ⟨ANS,hA⟩ : ∃ x,nU (.mk kind chan name label xk xn xs xv xt af exprs names tk ts tn tl ag labels kids) = x:=⟨_,rfl⟩
 have HA:=zH hA
 rw [hA]
 obtain ⟨B,hB⟩ : ∃ x,isKind kind = x:=⟨_,rfl⟩
 obtain ⟨f,hfr⟩ : ∃ f,jw kind n6 = f:=⟨_,rfl⟩
 have hC:=fun w => allows_cells kind chan name label xk xn xs xv xt A1 n1 c1 A2 n2 c2 A3 n3 c3 tk ts tn A4 n4 c4 A5 n5 c5 A6 n6 c6 A7 n7 c7 w
 rw [hfr,hB] at hC
 rw [← l6,hfr,hB,← l2,← l3,← l7] at hok
 obtain ⟨f0,f1,f2,f3,f4,f5,f6,f7,f8⟩:=f
 simp only [rq] at hC
 simp only at hok
 have vU:=zH hok
 have MV:=zH hfr
 have yc:=zH hne
 have ru:=zH hnt
 have HC:=zH hC
 have HF:=zH hf
 have HT:=zH hT
 clear hok hfr hne hnt hC hf hT hv q1 q2 q3 q4 q5 q6 q7 Me MB hA hB l1 l2 l3 l4 l5 l6 l7 hp
 go_enter Tryz.func41,Tryz.ntmps41
 change Code.wp _ (Code.seq _ (Code.seq _ (Code.seq _ BH))) _ _ _
 iterate 14 (first | go_values | go_skip | go_guarded | go_step | go_upon | go_back)
 obtain ⟨W,hW⟩ : ∃ W,w.alloc (.cells #[.int .i64 kind,.string ⟨chan.toArray⟩,.string ⟨name.toArray⟩,.string ⟨label.toArray⟩,.int .i64 xk,.string ⟨xn.toArray⟩,.int .i64 xs,.int .i64 xv,.string ⟨xt.toArray⟩,.slice A1 n1 c1,.slice A2 n2 c2,.slice A3 n3 c3,.int .i64 tk,.int .i64 ts,.string ⟨tn.toArray⟩,.slice A4 n4 c4,.slice A5 n5 c5,.slice A6 n6 c6,.slice A7 n7 c7] 85) = W:=⟨_,rfl⟩
 rw [hW]
 have hbW : Below w.heap.size w W:=by subst hW; go_grown
 have hB : nK W w.heap.size (.mk kind chan name label xk xn xs xv xt af exprs names tk ts tn tl ag labels kids) (.slice A1 n1 c1) (.slice A2 n2 c2) (.slice A3 n3 c3) (.slice A4 n4 c4) (.slice A5 n5 c5) (.slice A6 n6 c6) (.slice A7 n7 c7):=by
  subst hW
  exact wG w (.mk kind chan name label xk xn xs xv xt af exprs names tk ts tn tl ag labels kids) _ _ _ _ _ _ _ 85
 clear hW
 refine uF hB rfl (.tmp 1) rfl rfl ?_
 simp only [Pr.aN,Pr.aT,Pr.aI,Pr.aW,Pr.jm,Pr.jo,Pr.jq,Pr.jv,Pr.jr,Pr.jg,Pr.ji,Pr.jh]
 go_wp2_with fail
 refine (HC.out _).mono ?_
 rintro e w1 ⟨rfl,hb1⟩
 have hB1:=hB.kept hb1
 have Js:=chain hbW hb1
 have HB1:=zH hB1
 have yB:=zH Js
 clear hB hbW hB1 Js hb1 HC
 go_wp2_with fail
 generalize hW2 : World.alloc w1 _ = W2
 have hb2 : Below w1.heap.size w1 W2:=by subst hW2; exact (Below.refl _ _).alloc (Nat.le_refl _) _
 have SE : IV W2 w1.heap.size ⟨f0,f1,f2,f3,f4,f5,f6,f7,f8⟩:=by subst hW2; exact ⟨by simp [go_sem],by simp [go_sem],by simp [go_sem],by simp [go_sem],by simp [go_sem],by simp [go_sem],by simp [go_sem],by simp [go_sem],by simp [go_sem]⟩
 clear hW2
 have hbw2:=chain yB.out hb2
 refine pa_3 _ _ _ _ _ _ _ _ _ _ _ _ _ _ _ _ _ _ _ _ _ _ _ _ _ _ _ _ _ _ _ _ _ _ _ _ _ _ _ _ _ _ _ _ _ _ _ _ _ _ _ w W2 B  ⟨HB1.out.kept hb2,SE,hbw2,HVV.out.below hbw2,HT.out.below hbw2⟩ HF.out ANS HA MV NE NT yc.out ru.out vU
noncomputable def rsBody : Code:=((Tryz.f13.body).bind zg).getD .skip
noncomputable def SV : Code:=BG (zu (bH rsBody))
noncomputable def JM : Code:=bH SV
noncomputable def JO : Code:=bH JM
noncomputable def JP : Code:=bH JO
noncomputable def Nq : Code:=bH JP
structure ET (w wz : World) (g : Nat) (l : List Df) (A : Option Addr) (c : Nat) : Prop where
 bl : Below w.heap.size w wz
 ds : zX All wz (.slice A l.length c) l
 tb : Tabs wz
 gx : wz.cell? ⟨g,0,none⟩ = some (.slice A l.length c)
theorem ET.next {w wz w2 : World} {p : Nat} {l : List Df} {A : Option Addr} {c : Nat} (h : ET w wz p l A c) (hb : Below wz.heap.size wz w2) : ET w w2 p l A c :=
 ⟨chain h.bl hb,h.ds.below hb,h.tb.below hb,ae h.gx hb⟩
def BZ (u0 jk jl iW iY u16 jc jd je jL mW mX jM jB jG jH : Value) (l : List Df) (j : Nat) (A : Option Addr) (c : Nat) (w : World) (g : Nat) (ANS : Int) (N : Act → World → Prop) : Prop :=
 ∀ (wz : World) (n0 : Nat),ET w wz g l A c → n0 ≤ 200 → Hid (nS (l.drop (j + 1)) ((200 - n0 : Nat) : Int) = ANS) → ∀ (v2 v5 v6 v7 v8 v9 Ns Nu JU JW JX JY Iz JZ J3 J4 J5 J6 Ih J7 J8 J9 Ko Kq Kr Kt Ku Hl Kv Kw Ky Kz IL KA IA KC KD KE KF KG KH KI KJ KL KN KO KP KQ KU KW KX IB KY IC KZ La IM IP Lc Ld Le Lh Lj Ll Lm Lp Lr Ls Lt Lu LC Ny Nz RJ RN UY UZ U0 U1 U2 U3 QW QX QY QZ Q8 MQ Q9 Rf Rh Ri Rj Rk Rl Rn Ro Rq Rt O3 Ru Rw Rx Ry Rz RD O4 RF RG : Value),N { tmps:=#[u0,.pointer (some ⟨g,0,none⟩),v2,.int .i64 n0,.int .i64 j,v5,v6,v7,v8,v9,Ns,Nu,jk,jl,iW,iY,u16,jc,jd,je,jL,mW,mX,jM,jB,jG,jH,JU,JW,JX,JY,Iz,JZ,J3,J4,J5,J6,Ih,J7,J8,J9,Ko,Kq,Kr,Kt,Ku,Hl,Kv,Kw,Ky,Kz,IL,KA,IA,KC,KD,KE,KF,KG,KH,KI,KJ,KL,KN,KO,KP,KQ,KU,KW,KX,IB,KY,IC,KZ,La,IM,IP,Lc,Ld,Le,Lh,Lj,Ll,Lm,Lp,Lr,Ls,Lt,Lu,LC,Ny,Nz,RJ,RN,UY,UZ,U0,U1,U2,U3,QW,QX,QY,QZ,Q8,MQ,Q9,Rf,Rh,Ri,Rj,Rk,Rl,Rn,Ro,Rq,Rt,O3,Ru,Rw,Rx,Ry,Rz,RD,O4,RF,RG],defers:=[] } wz
structure LH (wz : World) (q : Nat) (cs : List Value) (d : Df) : Prop where
 bx : qh wz q cs
 dc : Gh All wz cs d
theorem LH.next {wz w2 : World} {q : Nat} {cs : List Value} {d : Df} (h : LH wz q cs d) (hb : Below wz.heap.size wz w2) : LH w2 q cs d :=
 ⟨h.bx.keep hb h.bx.lt,h.dc.keep (Same.below hb) (fun _ h _ => h)⟩
theorem listP_cons (m : Nat) (t : Pr) (r : List Pr) : uP (m + 1) (t :: r) = if nU t = 0 then uP m (t.kids ++ r) else (nU t,m):=rfl
theorem Gp.kids_at {D : aj} {w : World} {cs : List Value} {t : Pr} (h : Gp D w cs t) : ∃ A n c,cs[18]? = some (.slice A n c) ∧ yC D w (.slice A n c) t.kids:=by
 obtain ⟨v1,v2,v3,v4,v5,v6,v7,rfl,q1,q2,q3,q4,q5,q6,q7⟩:=h.cells
 have h7:=q7
 obtain ⟨A,c,rfl,-⟩:=q7
 exact ⟨A,_,c,rfl,h7⟩
end Go.Proofs.YtpidjanngbaiiaaGreatDoor
