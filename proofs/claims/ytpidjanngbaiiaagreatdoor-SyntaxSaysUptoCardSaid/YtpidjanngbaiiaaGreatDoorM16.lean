/-
  PrV11 PrV12 PrV13 PrVk PrV PrW2 PrB PrQ0 PrQ22 PrQ16
-/
import Derived.Test.YtpidjanngbaiiaaGreatDoorM14
import Derived.Test.YtpidjanngbaiiaaGreatDoorM15
import Derived.Test.YtpidjanngbaiiaaGreatDoorM12
import Derived.Test.YtpidjanngbaiiaaGreatDoorM13
import Derived.Test.YtpidjanngbaiiaaGreatDoorM11
namespace Go.Proofs.YtpidjanngbaiiaaGreatDoor
open Go.RowKit Go.Proofs
set_option maxRecDepth 100000
set_option maxHeartbeats 32000000

theorem wk_11 (chan name label : Str) (xk : Int) (xn : Str) (xs xv : Int) (xt : Str) (af exprs : List Ex) (names : List Str) (tk ts : Int) (tn : Str) (tl : List Str) (ag : List Ty) (labels : List Str) (kids : List Pr) (A1 : Option Addr) (n1 c1 : Nat) (A2 : Option Addr) (n2 c2 : Nat) (A3 : Option Addr) (n3 c3 : Nat) (A4 : Option Addr) (n4 c4 : Nat) (A5 : Option Addr) (n5 c5 : Nat) (A6 : Option Addr) (n6 c6 : Nat) (A7 : Option Addr) (n7 c7 : Nat) (b : Nat) (w wz : World) {u0 u2 u4 u5 u6 u7 u8 u9 jI jJ jk jl iW iY u16 jc jd je jL mW mX jM jB jG jH jQ jR jS jT jU u32 jV jW jX jY jZ ku kw kz kC kD kE kF kG kH kJ kK kL kM kN kP kQ kR kS kT kU kV kW kX kY kZ lg u64 lh lm lq lu lJ lK lL lM lN lQ lS lT lU lV lW lX lY lZ l9 mf mg mi mr mD mF lD lw mP nP nD oH oI oJ oK oL dE dF dG dH dI dJ dK dL dM dN dO bP bQ bT bU bV bW bY bZ cu cO cZ dh di dw dC dD gJ gK gQ gU gV fO fP fQ fU fV fZ gp gq gu gy gB gG gI eu eF eG eH eP eQ eU eX eY fA fB fC fD fE fF fG fH dS dU dV dW dX dY dZ ed iq iw iy iC iD iE iF iG iH iI iJ iK iL iM iO iP iQ iR iT iU mZ ng sH sJ sK sN sO sQ sS sU sV sW sZ tq tu tC tH tJ tK tN tV tX tY tZ uf ug uh ui uj ul um uo uq ut uu uw : Value} (nx : Str) (hS : (Hy 11 chan name label xk xn xs xv xt af exprs names tk ts tn tl ag labels kids A1 n1 c1 A2 n2 c2 A3 n3 c3 A4 n4 c4 A5 n5 c5 A6 n6 c6 A7 n7 c7 w wz b)) (hf : bF 1048576 (.mk 11 chan name label xk xn xs xv xt af exprs names tk ts tn tl ag labels kids)) (hH : oM (.mk 11 chan name label xk xn xs xv xt af exprs names tk ts tn tl ag labels kids)) (hnl : nx.length ≤ 1000000000000) (R : Str) (HR : Hid (([108,101,116,32] : Str) ++ name ++ [32,61,32] ++ ik (.mk xk xn xs xv xt af) ++ nx = R)) :
  Code.wp Tryz.prog ni (bodyPost Tryz.prog Tryz.f43 (fun e w' => e = .returned (.string ⟨R.toArray⟩) ∧ Below w.heap.size w w')) { tmps:=#[u0,.pointer (some ⟨b,0,none⟩),u2,.string ⟨nx.toArray⟩,u4,u5,u6,u7,u8,u9,jI,jJ,jk,jl,iW,iY,u16,jc,jd,je,jL,mW,mX,jM,jB,jG,jH,jQ,jR,jS,jT,jU,u32,jV,jW,jX,jY,jZ,ku,kw,kz,kC,kD,kE,kF,kG,kH,kJ,kK,kL,kM,kN,kP,kQ,kR,kS,kT,kU,kV,kW,kX,kY,kZ,lg,u64,lh,lm,lq,lu,lJ,lK,lL,lM,lN,lQ,lS,lT,lU,lV,lW,lX,lY,lZ,l9,mf,mg,mi,mr,mD,mF,lD,lw,mP,nP,nD,oH,oI,oJ,oK,oL,dE,dF,dG,dH,dI,dJ,dK,dL,dM,dN,dO,bP,bQ,bT,bU,bV,bW,bY,bZ,cu,cO,cZ,dh,di,dw,dC,dD,gJ,gK,gQ,gU,gV,fO,fP,fQ,fU,fV,fZ,gp,gq,gu,gy,gB,gG,gI,eu,eF,eG,eH,eP,eQ,eU,eX,eY,fA,fB,fC,fD,fE,fF,fG,fH,dS,dU,dV,dW,dX,dY,dZ,ed,iq,iw,iy,iC,iD,iE,iF,iG,iH,iI,iJ,iK,iL,iM,iO,iP,iQ,iR,iT,iU,mZ,ng,sH,sJ,sK,sN,sO,sQ,sS,sU,sV,sW,sZ,tq,tu,tC,tH,tJ,tK,tN,tV,tX,tY,tZ,uf,ug,uh,ui,uj,ul,um,uo,uq,ut,uu,uw],defers:=[] } wz:=by
 have h : ni = Code.seq _ _:=rfl
 rw [h]
 clear h
 have HS:=zH hS
 have HF:=zH hf
 have HH:=zH hH
 obtain ⟨k0,_,k2,_,k4,k5,k6,k7,k8,k9,_,_,_,_,_,_,_,_,_⟩:=hS.bx.mkc
 have z1 : chan.length ≤ 8:=hH.ch
 have z2 : name.length ≤ 8:=hH.nm
 have z3 : label.length ≤ 8:=hH.lb
 clear hS hf hH
 obtain ⟨e1,e2,e3,e4,e5,e6,e7,e,q1,q2,q3,q4,q5,q6,q7⟩:=id HS.out.pv
 simp only [Value.agg.injEq,Pr.aN,Pr.aT,Pr.aI,Pr.aW,Pr.jm,Pr.jo,Pr.jq,Pr.jv,Pr.jr,Pr.aY,Pr.aV,Pr.aU,Pr.jg,Pr.ji,Pr.jh,Pr.jA,Pr.aX,Pr.aH,Pr.aK] at e q1 q2 q3 q4 q5 q6 q7
 have e':=congrArg Array.toList e
 simp only [List.cons.injEq,and_true,true_and] at e'
 obtain ⟨Ag,Ah,Ai,Aj,Am,Ap,Aq⟩:=e'
 subst Ag Ah Ai Aj Am Ap Aq
 have hxv : uy All wz (.agg #[.int .i64 xk,.string ⟨xn.toArray⟩,.int .i64 xs,.int .i64 xv,.string ⟨xt.toArray⟩,.slice A1 n1 c1]) (.mk xk xn xs xv xt af):=⟨_,rfl,q1⟩
 have hxe : lF (.mk xk xn xs xv xt af) = 0:=HH.out.ex rfl
 have yY : bI 1048576 (.mk xk xn xs xv xt af):=wM HF.out
 obtain ⟨X,hX⟩ : ∃ x,ik (.mk xk xn xs xv xt af) = x:=⟨_,rfl⟩
 have LM : X.length ≤ 240000000:=by rw [← hX]; exact qj hxe yY
 have HX:=zH hX
 have GG:=zH hxv
 have Gz:=zH hxe
 have E8:=zH yY
 have BB:=zH (And.intro HS.out.tb HS.out.pw)
 rw [hX] at HR
 clear e q1 q2 q3 q4 q5 q6 q7 hX hxv hxe yY
 go_wp2_with fail
 have hb0 : Below wz.heap.size wz wz.drew:=(Below.refl _ _).drew
 have fJ:=zH (fun (wq : World) (hSw : Below wz.heap.size wz wq) => And.intro (ae k2 hSw) (And.intro (ae k4 hSw) (And.intro (ae k5 hSw) (And.intro (ae k6 hSw) (And.intro (ae k7 hSw) (And.intro (ae k8 hSw) (ae k9 hSw)))))))
 refine aC 10 (fun w' : World => Below wz.heap.size wz w') (by kernel_rfl) ?_
 refine zT 0 ?_ rfl (Or.inl ⟨by rfl,?_⟩) hb0 ?_
 rotate_left
 ·(intro wq hSw; obtain ⟨_,_,_,_,_,_,_⟩:=fJ.out wq hSw; go_simp; all_goals first | with_reducible rfl | rw [zI])
 try simp only [zA,zB,zC,Act.put,zD,zE,zF]
 refine zT 1 ?_ rfl (Or.inl ⟨by rfl,?_⟩) hb0 ?_
 rotate_left
 ·(intro wq hSw; obtain ⟨_,_,_,_,_,_,_⟩:=fJ.out wq hSw; go_simp; all_goals first | with_reducible rfl | rw [zI])
 try simp only [zA,zB,zC,Act.put,zD,zE,zF]
 refine zT 2 ?_ rfl (Or.inl ⟨by rfl,?_⟩) hb0 ?_
 rotate_left
 ·(intro wq hSw; obtain ⟨_,_,_,_,_,_,_⟩:=fJ.out wq hSw; go_simp; all_goals first | with_reducible rfl | rw [zI])
 try simp only [zA,zB,zC,Act.put,zD,zE,zF]
 refine zT 3 ?_ rfl (Or.inl ⟨by rfl,?_⟩) hb0 ?_
 rotate_left
 ·(intro wq hSw; obtain ⟨_,_,_,_,_,_,_⟩:=fJ.out wq hSw; go_simp; all_goals first | with_reducible rfl | rw [zI])
 try simp only [zA,zB,zC,Act.put,zD,zE,zF]
 refine zT 4 ?_ rfl (Or.inl ⟨by rfl,?_⟩) hb0 ?_
 rotate_left
 ·(intro wq hSw; obtain ⟨_,_,_,_,_,_,_⟩:=fJ.out wq hSw; go_simp; all_goals first | with_reducible rfl | rw [zI])
 try simp only [zA,zB,zC,Act.put,zD,zE,zF]
 refine zT 5 ?_ rfl (Or.inl ⟨by rfl,?_⟩) hb0 ?_
 rotate_left
 ·(intro wq hSw; obtain ⟨_,_,_,_,_,_,_⟩:=fJ.out wq hSw; go_simp; all_goals first | with_reducible rfl | rw [zI])
 try simp only [zA,zB,zC,Act.put,zD,zE,zF]
 refine zT 8 ?_ rfl (Or.inl ⟨by rfl,?_⟩) hb0 ?_
 rotate_left
 ·(intro wq hSw; obtain ⟨_,_,_,_,_,_,_⟩:=fJ.out wq hSw; go_simp; all_goals first | with_reducible rfl | rw [zI])
 try simp only [zA,zB,zC,Act.put,zD,zE,zF]
 refine zO 6 fun K hK => ?_
 go_simp
 refine Calls.mono (xB (.mk xk xn xs xv xt af) _ wz.drew (GG.out.below hb0) E8.out (BB.out.1.below hb0) (BB.out.2.below hb0) Gz.out) ?_
 rw [HX.out]
 rintro e w2 ⟨rfl,hq⟩
 have hb1:=chain hb0 hq
 clear hq
 refine hK.out _ _ (fun _ => hb1) ?_
 clear hK K
 try simp only [zA,zB,zC,Act.put,zD,zE,zF]
 refine zT 7 ?_ rfl (Or.inl ⟨by rfl,?_⟩) hb1 ?_
 rotate_left
 ·(intro wq hSw; obtain ⟨_,_,_,_,_,_,_⟩:=fJ.out wq hSw; go_simp; all_goals first | with_reducible rfl | rw [zI])
 try simp only [zA,zB,zC,Act.put,zD,zE,zF]
 refine zT 9 ?_ rfl (Or.inl ⟨by rfl,?_⟩) hb1 ?_
 rotate_left
 ·(intro wq hSw; obtain ⟨_,_,_,_,_,_,_⟩:=fJ.out wq hSw; go_simp; all_goals first | with_reducible rfl | rw [zI])
 try simp only [zA,zB,zC,Act.put,zD,zE,zF]
 refine zO 10 fun K hK => ?_
 go_simp
 refine hK.out _ _ (fun h => absurd h (by decide)) ?_
 clear hK K
 try simp only [zA,zB,zC,Act.put,zD,zE,zF]
 refine bf (by kernel_rfl) ?_
 go_wp2_with fail
 go_ret
 exact ⟨by rw [← HR.out]; simp,(HS.out.next hb1).bl⟩
theorem wk_12 (chan name label : Str) (xk : Int) (xn : Str) (xs xv : Int) (xt : Str) (af exprs : List Ex) (names : List Str) (tk ts : Int) (tn : Str) (tl : List Str) (ag : List Ty) (labels : List Str) (kids : List Pr) (A1 : Option Addr) (n1 c1 : Nat) (A2 : Option Addr) (n2 c2 : Nat) (A3 : Option Addr) (n3 c3 : Nat) (A4 : Option Addr) (n4 c4 : Nat) (A5 : Option Addr) (n5 c5 : Nat) (A6 : Option Addr) (n6 c6 : Nat) (A7 : Option Addr) (n7 c7 : Nat) (b : Nat) (w wz : World) {u0 u2 u4 u5 u6 u7 u8 u9 jI jJ jk jl iW iY u16 jc jd je jL mW mX jM jB jG jH jQ jR jS jT jU u32 jV jW jX jY jZ ku kw kz kC kD kE kF kG kH kJ kK kL kM kN kP kQ kR kS kT kU kV kW kX kY kZ lg u64 lh lm lq lu lJ lK lL lM lN lQ lS lT lU lV lW lX lY lZ l9 mf mg mi mr mD mF lD lw mP nP nD oH oI oJ oK oL dE dF dG dH dI dJ dK dL dM dN dO bP bQ bT bU bV bW bY bZ cu cO cZ dh di dw dC dD gJ gK gQ gU gV fO fP fQ fU fV fZ gp gq gu gy gB gG gI eu eF eG eH eP eQ eU eX eY fA fB fC fD fE fF fG fH dS dU dV dW dX dY dZ ed iq iw iy iC iD iE iF iG iH iI iJ iK iL iM iO iP iQ iR iT iU mZ ng sH sJ sK sN sO sQ sS sU sV sW sZ tq tu tC tH tJ tK tN tV tX tY tZ uf ug uh ui uj ul um uo uq ut uu uw : Value} (nx : Str) (hS : (Hy 12 chan name label xk xn xs xv xt af exprs names tk ts tn tl ag labels kids A1 n1 c1 A2 n2 c2 A3 n3 c3 A4 n4 c4 A5 n5 c5 A6 n6 c6 A7 n7 c7 w wz b)) (hf : bF 1048576 (.mk 12 chan name label xk xn xs xv xt af exprs names tk ts tn tl ag labels kids)) (hH : oM (.mk 12 chan name label xk xn xs xv xt af exprs names tk ts tn tl ag labels kids)) (hnl : nx.length ≤ 1000000000000) (R : Str) (HR : Hid (([112,114,105,110,116,32] : Str) ++ ik (.mk xk xn xs xv xt af) ++ nx = R)) :
  Code.wp Tryz.prog ni (bodyPost Tryz.prog Tryz.f43 (fun e w' => e = .returned (.string ⟨R.toArray⟩) ∧ Below w.heap.size w w')) { tmps:=#[u0,.pointer (some ⟨b,0,none⟩),u2,.string ⟨nx.toArray⟩,u4,u5,u6,u7,u8,u9,jI,jJ,jk,jl,iW,iY,u16,jc,jd,je,jL,mW,mX,jM,jB,jG,jH,jQ,jR,jS,jT,jU,u32,jV,jW,jX,jY,jZ,ku,kw,kz,kC,kD,kE,kF,kG,kH,kJ,kK,kL,kM,kN,kP,kQ,kR,kS,kT,kU,kV,kW,kX,kY,kZ,lg,u64,lh,lm,lq,lu,lJ,lK,lL,lM,lN,lQ,lS,lT,lU,lV,lW,lX,lY,lZ,l9,mf,mg,mi,mr,mD,mF,lD,lw,mP,nP,nD,oH,oI,oJ,oK,oL,dE,dF,dG,dH,dI,dJ,dK,dL,dM,dN,dO,bP,bQ,bT,bU,bV,bW,bY,bZ,cu,cO,cZ,dh,di,dw,dC,dD,gJ,gK,gQ,gU,gV,fO,fP,fQ,fU,fV,fZ,gp,gq,gu,gy,gB,gG,gI,eu,eF,eG,eH,eP,eQ,eU,eX,eY,fA,fB,fC,fD,fE,fF,fG,fH,dS,dU,dV,dW,dX,dY,dZ,ed,iq,iw,iy,iC,iD,iE,iF,iG,iH,iI,iJ,iK,iL,iM,iO,iP,iQ,iR,iT,iU,mZ,ng,sH,sJ,sK,sN,sO,sQ,sS,sU,sV,sW,sZ,tq,tu,tC,tH,tJ,tK,tN,tV,tX,tY,tZ,uf,ug,uh,ui,uj,ul,um,uo,uq,ut,uu,uw],defers:=[] } wz:=by
 have h : ni = Code.seq _ _:=rfl
 rw [h]
 clear h
 have HS:=zH hS
 have HF:=zH hf
 have HH:=zH hH
 obtain ⟨k0,_,_,_,k4,k5,k6,k7,k8,k9,_,_,_,_,_,_,_,_,_⟩:=hS.bx.mkc
 have z1 : chan.length ≤ 8:=hH.ch
 have z2 : name.length ≤ 8:=hH.nm
 have z3 : label.length ≤ 8:=hH.lb
 clear hS hf hH
 obtain ⟨e1,e2,e3,e4,e5,e6,e7,e,q1,q2,q3,q4,q5,q6,q7⟩:=id HS.out.pv
 simp only [Value.agg.injEq,Pr.aN,Pr.aT,Pr.aI,Pr.aW,Pr.jm,Pr.jo,Pr.jq,Pr.jv,Pr.jr,Pr.aY,Pr.aV,Pr.aU,Pr.jg,Pr.ji,Pr.jh,Pr.jA,Pr.aX,Pr.aH,Pr.aK] at e q1 q2 q3 q4 q5 q6 q7
 have e':=congrArg Array.toList e
 simp only [List.cons.injEq,and_true,true_and] at e'
 obtain ⟨Ag,Ah,Ai,Aj,Am,Ap,Aq⟩:=e'
 subst Ag Ah Ai Aj Am Ap Aq
 have hxv : uy All wz (.agg #[.int .i64 xk,.string ⟨xn.toArray⟩,.int .i64 xs,.int .i64 xv,.string ⟨xt.toArray⟩,.slice A1 n1 c1]) (.mk xk xn xs xv xt af):=⟨_,rfl,q1⟩
 have hxe : lF (.mk xk xn xs xv xt af) = 0:=HH.out.ex rfl
 have yY : bI 1048576 (.mk xk xn xs xv xt af):=wM HF.out
 obtain ⟨X,hX⟩ : ∃ x,ik (.mk xk xn xs xv xt af) = x:=⟨_,rfl⟩
 have LM : X.length ≤ 240000000:=by rw [← hX]; exact qj hxe yY
 have HX:=zH hX
 have GG:=zH hxv
 have Gz:=zH hxe
 have E8:=zH yY
 have BB:=zH (And.intro HS.out.tb HS.out.pw)
 rw [hX] at HR
 clear e q1 q2 q3 q4 q5 q6 q7 hX hxv hxe yY
 go_wp2_with fail
 refine (xB (.mk xk xn xs xv xt af) _ wz (GG.out.below (Below.refl _ _)) E8.out (BB.out.1.below (Below.refl _ _)) (BB.out.2.below (Below.refl _ _)) Gz.out).mono ?_
 rw [HX.out]
 rintro e w2 ⟨rfl,hb2⟩
 go_wp2_with fail
 go_ret
 exact ⟨by rw [← HR.out]; simp,(HS.out.next hb2).bl⟩
theorem wk_13 (chan name label : Str) (xk : Int) (xn : Str) (xs xv : Int) (xt : Str) (af exprs : List Ex) (names : List Str) (tk ts : Int) (tn : Str) (tl : List Str) (ag : List Ty) (labels : List Str) (kids : List Pr) (A1 : Option Addr) (n1 c1 : Nat) (A2 : Option Addr) (n2 c2 : Nat) (A3 : Option Addr) (n3 c3 : Nat) (A4 : Option Addr) (n4 c4 : Nat) (A5 : Option Addr) (n5 c5 : Nat) (A6 : Option Addr) (n6 c6 : Nat) (A7 : Option Addr) (n7 c7 : Nat) (b : Nat) (w wz : World) {u0 u2 u4 u5 u6 u7 u8 u9 jI jJ jk jl iW iY u16 jc jd je jL mW mX jM jB jG jH jQ jR jS jT jU u32 jV jW jX jY jZ ku kw kz kC kD kE kF kG kH kJ kK kL kM kN kP kQ kR kS kT kU kV kW kX kY kZ lg u64 lh lm lq lu lJ lK lL lM lN lQ lS lT lU lV lW lX lY lZ l9 mf mg mi mr mD mF lD lw mP nP nD oH oI oJ oK oL dE dF dG dH dI dJ dK dL dM dN dO bP bQ bT bU bV bW bY bZ cu cO cZ dh di dw dC dD gJ gK gQ gU gV fO fP fQ fU fV fZ gp gq gu gy gB gG gI eu eF eG eH eP eQ eU eX eY fA fB fC fD fE fF fG fH dS dU dV dW dX dY dZ ed iq iw iy iC iD iE iF iG iH iI iJ iK iL iM iO iP iQ iR iT iU mZ ng sH sJ sK sN sO sQ sS sU sV sW sZ tq tu tC tH tJ tK tN tV tX tY tZ uf ug uh ui uj ul um uo uq ut uu uw : Value} (nx : Str) (hS : (Hy 13 chan name label xk xn xs xv xt af exprs names tk ts tn tl ag labels kids A1 n1 c1 A2 n2 c2 A3 n3 c3 A4 n4 c4 A5 n5 c5 A6 n6 c6 A7 n7 c7 w wz b)) (hf : bF 1048576 (.mk 13 chan name label xk xn xs xv xt af exprs names tk ts tn tl ag labels kids)) (hH : oM (.mk 13 chan name label xk xn xs xv xt af exprs names tk ts tn tl ag labels kids)) (hnl : nx.length ≤ 1000000000000) (R : Str) (HR : Hid (name ++ ([40] : Str) ++ bn comma (exprs.map ik) ++ (if n3 = 0 then [] else [59,32] ++ bn comma names) ++ [41] = R)) :
  Code.wp Tryz.prog ni (bodyPost Tryz.prog Tryz.f43 (fun e w' => e = .returned (.string ⟨R.toArray⟩) ∧ Below w.heap.size w w')) { tmps:=#[u0,.pointer (some ⟨b,0,none⟩),u2,.string ⟨nx.toArray⟩,u4,u5,u6,u7,u8,u9,jI,jJ,jk,jl,iW,iY,u16,jc,jd,je,jL,mW,mX,jM,jB,jG,jH,jQ,jR,jS,jT,jU,u32,jV,jW,jX,jY,jZ,ku,kw,kz,kC,kD,kE,kF,kG,kH,kJ,kK,kL,kM,kN,kP,kQ,kR,kS,kT,kU,kV,kW,kX,kY,kZ,lg,u64,lh,lm,lq,lu,lJ,lK,lL,lM,lN,lQ,lS,lT,lU,lV,lW,lX,lY,lZ,l9,mf,mg,mi,mr,mD,mF,lD,lw,mP,nP,nD,oH,oI,oJ,oK,oL,dE,dF,dG,dH,dI,dJ,dK,dL,dM,dN,dO,bP,bQ,bT,bU,bV,bW,bY,bZ,cu,cO,cZ,dh,di,dw,dC,dD,gJ,gK,gQ,gU,gV,fO,fP,fQ,fU,fV,fZ,gp,gq,gu,gy,gB,gG,gI,eu,eF,eG,eH,eP,eQ,eU,eX,eY,fA,fB,fC,fD,fE,fF,fG,fH,dS,dU,dV,dW,dX,dY,dZ,ed,iq,iw,iy,iC,iD,iE,iF,iG,iH,iI,iJ,iK,iL,iM,iO,iP,iQ,iR,iT,iU,mZ,ng,sH,sJ,sK,sN,sO,sQ,sS,sU,sV,sW,sZ,tq,tu,tC,tH,tJ,tK,tN,tV,tX,tY,tZ,uf,ug,uh,ui,uj,ul,um,uo,uq,ut,uu,uw],defers:=[] } wz:=by
 have h : ni = Code.seq _ _:=rfl
 rw [h]
 clear h
 have HS:=zH hS
 have HF:=zH hf
 have HH:=zH hH
 obtain ⟨k0,_,k2,_,_,_,_,_,_,_,k10,k11,_,_,_,_,_,_,_⟩:=hS.bx.mkc
 have z1 : chan.length ≤ 8:=hH.ch
 have z2 : name.length ≤ 8:=hH.nm
 have z3 : label.length ≤ 8:=hH.lb
 clear hS hf hH
 obtain ⟨e1,e2,e3,e4,e5,e6,e7,e,q1,q2,q3,q4,q5,q6,q7⟩:=id HS.out.pv
 simp only [Value.agg.injEq,Pr.aN,Pr.aT,Pr.aI,Pr.aW,Pr.jm,Pr.jo,Pr.jq,Pr.jv,Pr.jr,Pr.aY,Pr.aV,Pr.aU,Pr.jg,Pr.ji,Pr.jh,Pr.jA,Pr.aX,Pr.aH,Pr.aK] at e q1 q2 q3 q4 q5 q6 q7
 have e':=congrArg Array.toList e
 simp only [List.cons.injEq,and_true,true_and] at e'
 obtain ⟨Ag,Ah,Ai,Aj,Am,Ap,Aq⟩:=e'
 subst Ag Ah Ai Aj Am Ap Aq
 have hn2 : n2 = exprs.length:=by obtain ⟨_,_,e,-⟩:=q2; injection e
 have hn3 : n3 = names.length:=by obtain ⟨_,_,e,-⟩:=q3; injection e
 have hes:=HH.out.es
 have hns:=HH.out.ns
 simp only [Pr.aV,Pr.aU] at hes hns
 obtain ⟨P,hP⟩ : ∃ x,exprs.map ik = x:=⟨_,rfl⟩
 have hPl : P.length = n2:=by rw [← hP,List.length_map,hn2]
 have hfx : ∀ x ∈ exprs,bI 1048576 x:=HF.out.parts.2.2.2.2.2.2.2.2.2.2.2.2.1
 have DV : ∀ s ∈ P,s.length ≤ 240000000:=by
  rw [← hP]
  intro s hs
  obtain ⟨x,hx,rfl⟩:=List.mem_map.1 hs
  exact qj (HH.out.e0 x hx) (hfx x hx)
 have Jv:=nN (sep:=comma) (l:=P) (B:=240000000) DV
 have hjN:=nN (sep:=comma) (l:=names) (B:=8) HH.out.n8
 have hcl : comma.length = 2:=rfl
 rw [hcl] at Jv hjN
 rw [hP] at HR
 obtain ⟨JE,EI⟩ : ∃ x,bn comma P = x:=⟨_,rfl⟩
 obtain ⟨JN,Mc⟩ : ∃ x,bn comma names = x:=⟨_,rfl⟩
 have hn2l : n2 ≤ 6:=by omega
 have hn3l : n3 ≤ 6:=by omega
 have Oq : JE.length ≤ 1500000000:=by rw [← EI]; omega
 have hJNl : JN.length ≤ 60:=by rw [← Mc]; omega
 rw [EI,Mc] at HR
 have HP:=zH hP
 have DU:=zH hPl
 have HPS:=zH DV
 have I4:=zH EI
 have LW:=zH Mc
 have I7:=zH hn2
 have Ht:=zH hn3
 have PR:=zH q2
 have L6 : Hid (aF wz (.slice A3 n3 c3) names):=zH q3.is
 have BB:=zH (And.intro HS.out.tb HS.out.pw)
 have TD : Hid (∀ x ∈ exprs,lF x = 0 ∧ bI 1048576 x):=fun x hx => ⟨HH.out.e0 x hx,hfx x hx⟩
 clear e q1 q2 q3 q4 q5 q6 q7 hP DV EI Mc hn2 hn3 hes hns Jv hjN hcl hfx hPl
 have K2:=zH k2
 have TF:=zH k11
 go_wp2_with fail
 go_loopw [9,198] (fun lv iv wr => ∃ (k : Nat),k ≤ n2 ∧ iv = .int .i64 k ∧ Hid (wr.ownsRow wz.heap.size 9 1 lv k ((P.take k).map fun s => .string ⟨s.toArray⟩)) ∧ Hid (Below wz.heap.size wz wr)) (fun _ iv _ => n2 - (intOf iv).toNat)
 case atStart => exact ⟨0,by omega,rfl,zH (World.ownsRow_nil _ _ _ _),zH (Below.refl _ _)⟩
 case round =>
  obtain ⟨k,hk,rfl,HOWN,qF⟩:=hrel
  obtain ⟨Av,cv,rfl⟩:=bg HOWN.out
  have hzz : wz.heap.size ≤ wr.heap.size:=qF.out.size
  by_cases hlt : k < n2
  ·obtain ⟨c,hc'⟩ : ∃ y,exprs[k]? = some y:=⟨_,List.getElem?_eq_getElem (by have:=I7.out; omega)⟩
   have yz : P[k]? = some (ik c):=by rw [← HP.out,List.getElem?_map,hc']; rfl
   obtain ⟨-,-,b',off,A9,n9,c9,rfl,-,y0,y1,y2,y3,y4,y5,hk'⟩:=pF (PR.out.below qF.out) hc'
   have hcx:=TD.out c (az hc')
   have htl : (ik c).length ≤ 240000000:=qj hcx.1 hcx.2
   have rP:=zH hk'
   have PG:=zH hcx
   obtain ⟨X,hX⟩ : ∃ x,ik c = x:=⟨_,rfl⟩
   rw [hX] at yz htl
   have HX:=zH hX
   have Ja:=zH yz
   clear hk' hc' hcx hX yz
   obtain ⟨wa,mQ⟩ : ∃ y,wr.alloc (.cells #[.int .i64 c.kind,.string ⟨c.name.toArray⟩,.int .i64 c.vs,.int .i64 c.vn,.string ⟨c.vt.toArray⟩,.slice A9 n9 c9] 52) = y:=⟨_,rfl⟩
   have hba : Below wr.heap.size wr wa:=by subst mQ; exact (Below.refl _ _).alloc (Nat.le_refl _) _
   have hkb : jf wa wr.heap.size c (.slice A9 n9 c9):=by subst mQ; exact pG wr c _ _
   obtain ⟨z0,z1',z2',z3',z4,z5,z6,z7⟩:=id hkb
   have DL:=zH hba
   clear hba hkb
   go_wp2_with fail
   try rw [mQ]
   clear mQ
   refine (xB c _ wa (rD (rP.out.below DL.out)) PG.out.2 (BB.out.1.below (chain qF.out DL.out)) (BB.out.2.below (chain qF.out DL.out)) PG.out.1).mono ?_
   rw [HX.out]
   rintro e w7 ⟨rfl,hb7⟩
   have MG:=chain DL.out hb7
   have FO:=qI HOWN.out MG (Nat.le_refl _)
   have UN:=MG.size
   have IU:=zH MG
   clear hb7 MG
   go_wp2_with (at_builtin; go_must (refine pK nO w7 (.string ⟨X.toArray⟩) rfl (.tmp 202) (.tmp 205) rfl wz.heap.size (.slice Av k cv) k _ rfl FO rfl rfl (by omega) (by omega) (by omega) ?_; intro v4 w4 o1 o2 o3 o4; obtain ⟨Ue,UE,rfl⟩:=bg o1; have I8:=zH o1; have PO:=zH o4; clear o1 o2 o3 o4))
   go_roundw
   case rel =>
    refine ⟨k + 1,by omega,by go_num,zH ?_,zH ((chain qF.out IU.out).trans PO.out)⟩
    rw [List.take_add_one,Ja.out]
    simpa using I8.out
   case measure => simp [intOf]; omega
  ·have hkn : k = n2:=by omega
   subst hkn
   have hpv : aF wr (.slice Av k cv) P:=by
    have h1:=HOWN.out
    rw [List.take_of_length_le (by rw [DU.out]; exact Nat.le_refl _)] at h1
    have h2 : wr.ownsRow wz.heap.size 9 1 (.slice Av k cv) P.length (P.map fun s => .string ⟨s.toArray⟩):=by rw [DU.out]; exact h1
    exact (uX (D:=All) h2 fun _ _ => trivial).is
   have Ip:=zH hpv
   have r2:=ae K2.out qF.out
   have r11:=ae TF.out qF.out
   clear hpv k0 k2 k10 k11
   go_wp2_with fail
   have hc0 : Below wr.heap.size wr wr.drew:=(Below.refl _ _).drew
   have fJ:=zH (fun (wq : World) (hSw : Below wr.heap.size wr wq) => ae r2 hSw)
   refine aC 6 (fun w' : World => Below wr.heap.size wr w') (by kernel_rfl) ?_
   refine zT 0 ?_ rfl (Or.inl ⟨by rfl,?_⟩) hc0 ?_
   rotate_left
   ·(intro wq hSw; have:=fJ.out wq hSw; go_simp; all_goals first | with_reducible rfl | rw [zI])
   try simp only [zA,zB,zC,Act.put,zD,zE,zF]
   refine zT 1 ?_ rfl (Or.inl ⟨by rfl,?_⟩) hc0 ?_
   rotate_left
   ·(intro wq hSw; have:=fJ.out wq hSw; go_simp; all_goals first | with_reducible rfl | rw [zI])
   try simp only [zA,zB,zC,Act.put,zD,zE,zF]
   refine zT 2 ?_ rfl (Or.inl ⟨by rfl,?_⟩) hc0 ?_
   rotate_left
   ·(intro wq hSw; have:=fJ.out wq hSw; go_simp; all_goals first | with_reducible rfl | rw [zI])
   try simp only [zA,zB,zC,Act.put,zD,zE,zF]
   refine zT 3 ?_ rfl (Or.inl ⟨by rfl,?_⟩) hc0 ?_
   rotate_left
   ·(intro wq hSw; have:=fJ.out wq hSw; go_simp; all_goals first | with_reducible rfl | rw [zI])
   try simp only [zA,zB,zC,Act.put,zD,zE,zF]
   refine zO 4 fun K hK => ?_
   go_simp
   refine Calls.mono (zL _ P comma wr.drew (Ip.out.keep hc0) (by have:=DU.out; omega) (by rw [I4.out]; omega)) ?_
   rw [I4.out]
   rintro e x2 ⟨rfl,hq⟩
   have hc1:=chain hc0 hq
   clear hq
   refine hK.out _ _ (fun _ => hc1) ?_
   clear hK K
   try simp only [zA,zB,zC,Act.put,zD,zE,zF]
   refine zT 5 ?_ rfl (Or.inl ⟨by rfl,?_⟩) hc1 ?_
   rotate_left
   ·(intro wq hSw; have:=fJ.out wq hSw; go_simp; all_goals first | with_reducible rfl | rw [zI])
   try simp only [zA,zB,zC,Act.put,zD,zE,zF]
   refine zO 6 fun K hK => ?_
   go_simp
   refine hK.out _ _ (fun h => absurd h (by decide)) ?_
   clear hK K
   try simp only [zA,zB,zC,Act.put,zD,zE,zF]
   refine bf (by kernel_rfl) ?_
   have s11:=ae r11 hc1
   have NL:=zH hc1
   by_cases h0 : n3 = 0
   ·subst h0
    have HR2 : Hid (name ++ ([40] : Str) ++ JE ++ [] ++ [41] = R):=zH (by have:=HR.out; rwa [if_pos rfl] at this)
    go_wp2_with fail
    go_ret
    exact ⟨by rw [← HR2.out]; simp,(HS.out.next (chain qF.out NL.out)).bl⟩
   ·have HR2 : Hid (name ++ ([40] : Str) ++ JE ++ ([59,32] ++ JN) ++ [41] = R):=zH (by have:=HR.out; rwa [if_neg h0] at this)
    have hpos : 0 < n3:=by omega
    clear h0
    go_wp2_with fail
    refine Calls.mono (zL _ names comma x2 (L6.out.keep (chain qF.out NL.out)) (by have:=Ht.out; omega) (by rw [LW.out]; omega)) ?_
    rw [LW.out]
    rintro e x3 ⟨rfl,Po⟩
    go_wp2_with fail
    go_ret
    exact ⟨by rw [← HR2.out]; simp,(HS.out.next (chain qF.out (chain NL.out Po))).bl⟩
theorem Gf (m : Nat) (ih : Jg m) (kind : Int) (chan name label : Str) (xk : Int) (xn : Str) (xs xv : Int) (xt : Str) (af exprs : List Ex) (names : List Str) (tk ts : Int) (tn : Str) (tl : List Str) (ag : List Ty) (labels : List Str) (kids : List Pr) (A1 : Option Addr) (n1 c1 : Nat) (A2 : Option Addr) (n2 c2 : Nat) (A3 : Option Addr) (n3 c3 : Nat) (A4 : Option Addr) (n4 c4 : Nat) (A5 : Option Addr) (n5 c5 : Nat) (A6 : Option Addr) (n6 c6 : Nat) (A7 : Option Addr) (n7 c7 : Nat) (b : Nat) (hm : bG (.mk kind chan name label xk xn xs xv xt af exprs names tk ts tn tl ag labels kids) ≤ m + 1) (hm2 : bG (.mk kind chan name label xk xn xs xv xt af exprs names tk ts tn tl ag labels kids) ≤ 200) (hg : Hid (pq (.mk kind chan name label xk xn xs xv xt af exprs names tk ts tn tl ag labels kids))) (w wz : World) {u0 u2 u4 u5 u6 u7 u8 u9 jI jJ jk jl iW iY u16 jc jd je jL mW mX jM jB jG jH jQ jR jS jT jU u32 jV jW jX jY jZ ku kw kz kC kD kE kF kG kH kJ kK kL kM kN kP kQ kR kS kT kU kV kW kX kY kZ lg u64 lh lm lq lu lJ lK lL lM lN lQ lS lT lU lV lW lX lY lZ l9 mf mg mi mr mD mF lD lw mP nP nD oH oI oJ oK oL dE dF dG dH dI dJ dK dL dM dN dO bP bQ bT bU bV bW bY bZ cu cO cZ dh di dw dC dD gJ gK gQ gU gV fO fP fQ fU fV fZ gp gq gu gy gB gG gI eu eF eG eH eP eQ eU eX eY fA fB fC fD fE fF fG fH dS dU dV dW dX dY dZ ed iq iw iy iC iD iE iF iG iH iI iJ iK iL iM iO iP iQ iR iT iU mZ ng sH sJ sK sN sO sQ sS sU sV sW sZ tq tu tC tH tJ tK tN tV tX tY tZ uf ug uh ui uj ul um uo uq ut uu uw : Value} (nx : Str) (hnx : nx = if kids.length = 0 then [] else [59,32] ++ lC (kids.getLastD xY)) (hS : (Hy kind chan name label xk xn xs xv xt af exprs names tk ts tn tl ag labels kids A1 n1 c1 A2 n2 c2 A3 n3 c3 A4 n4 c4 A5 n5 c5 A6 n6 c6 A7 n7 c7 w wz b)) (hf : Hid (bF 1048576 (.mk kind chan name label xk xn xs xv xt af exprs names tk ts tn tl ag labels kids))) (HH : Hid (oM (.mk kind chan name label xk xn xs xv xt af exprs names tk ts tn tl ag labels kids))) (hnl : nx.length ≤ 1000000000000) (hn3 : n3 = names.length) (R : Str) (hR : Hid (lC (.mk kind chan name label xk xn xs xv xt af exprs names tk ts tn tl ag labels kids) = R)) :
  Code.wp Tryz.prog ni (bodyPost Tryz.prog Tryz.f43 (fun e w' => e = .returned (.string ⟨R.toArray⟩) ∧ Below w.heap.size w w')) { tmps:=#[u0,.pointer (some ⟨b,0,none⟩),u2,.string ⟨nx.toArray⟩,u4,u5,u6,u7,u8,u9,jI,jJ,jk,jl,iW,iY,u16,jc,jd,je,jL,mW,mX,jM,jB,jG,jH,jQ,jR,jS,jT,jU,u32,jV,jW,jX,jY,jZ,ku,kw,kz,kC,kD,kE,kF,kG,kH,kJ,kK,kL,kM,kN,kP,kQ,kR,kS,kT,kU,kV,kW,kX,kY,kZ,lg,u64,lh,lm,lq,lu,lJ,lK,lL,lM,lN,lQ,lS,lT,lU,lV,lW,lX,lY,lZ,l9,mf,mg,mi,mr,mD,mF,lD,lw,mP,nP,nD,oH,oI,oJ,oK,oL,dE,dF,dG,dH,dI,dJ,dK,dL,dM,dN,dO,bP,bQ,bT,bU,bV,bW,bY,bZ,cu,cO,cZ,dh,di,dw,dC,dD,gJ,gK,gQ,gU,gV,fO,fP,fQ,fU,fV,fZ,gp,gq,gu,gy,gB,gG,gI,eu,eF,eG,eH,eP,eQ,eU,eX,eY,fA,fB,fC,fD,fE,fF,fG,fH,dS,dU,dV,dW,dX,dY,dZ,ed,iq,iw,iy,iC,iD,iE,iF,iG,iH,iI,iJ,iK,iL,iM,iO,iP,iQ,iR,iT,iU,mZ,ng,sH,sJ,sK,sN,sO,sQ,sS,sU,sV,sW,sZ,tq,tu,tC,tH,tJ,tK,tN,tV,tX,tY,tZ,uf,ug,uh,ui,uj,ul,um,uo,uq,ut,uu,uw],defers:=[] } wz:=by
 have h1 : 1 ≤ kind:=HH.out.k1
 have h2 : kind ≤ 13:=HH.out.k2
 rcases (by omega : kind = 1 ∨ kind = 2 ∨ kind = 3 ∨ kind = 4 ∨ kind = 5 ∨ kind = 6 ∨ kind = 7 ∨ kind = 8 ∨ kind = 9 ∨ kind = 10 ∨ kind = 11 ∨ kind = 12 ∨ kind = 13) with rfl | rfl | rfl | rfl | rfl | rfl | rfl | rfl | rfl | rfl | rfl | rfl | rfl
 ·refine wk_1 _ _ _ _ _ _ _ _ _ _ _ _ _ _ _ _ _ _ _ _ _ _ _ _ _ _ _ _ _ _ _ _ _ _ _ _ _ _ _ _ w wz nx hS hf.out HH.out hnl R (zH ?_)
  ·rw [← hR.out,jK (.mk 1 chan name label xk xn xs xv xt af exprs names tk ts tn tl ag labels _),Dj rfl]; try rw [hnx]
   all_goals (first | rfl | (simp [List.getLastD,Pr.ex,Pr.ty]; done) | (simp [List.getLastD,Pr.ex,Pr.ty]; rfl))
 ·obtain ⟨k,rfl⟩ : ∃ k,kids = [k]:=by
   have : kids.length = 1:=HH.out.kids
   match kids,this with
   | [k],_ => exact ⟨k,rfl⟩
  refine wk_2 _ _ _ _ _ _ _ _ _ _ _ _ _ _ _ _ _ _ _ _ _ _ _ _ _ _ _ _ _ _ _ _ _ _ _ _ _ _ _ _ w wz nx hS hf.out HH.out hnl R (zH ?_)
  ·rw [← hR.out,jK (.mk 2 chan name label xk xn xs xv xt af exprs names tk ts tn tl ag labels _),Dk rfl]; try rw [hnx]
   all_goals (first | rfl | (simp [List.getLastD,Pr.ex,Pr.ty]; done) | (simp [List.getLastD,Pr.ex,Pr.ty]; rfl))
 ·obtain ⟨k,rfl⟩ : ∃ k,kids = [k]:=by
   have : kids.length = 1:=HH.out.kids
   match kids,this with
   | [k],_ => exact ⟨k,rfl⟩
  refine wk_3 _ _ _ _ _ _ _ _ _ _ _ _ _ _ _ _ _ _ _ _ _ _ _ _ _ _ _ _ _ _ _ _ _ _ _ _ _ _ _ _ w wz nx hS hf.out HH.out hnl R (zH ?_)
  ·rw [← hR.out,jK (.mk 3 chan name label xk xn xs xv xt af exprs names tk ts tn tl ag labels _),Dl rfl]; try rw [hnx]
   all_goals (first | rfl | (simp [List.getLastD,Pr.ex,Pr.ty]; done) | (simp [List.getLastD,Pr.ex,Pr.ty]; rfl))
 ·obtain ⟨k,rfl⟩ : ∃ k,kids = [k]:=by
   have : kids.length = 1:=HH.out.kids
   match kids,this with
   | [k],_ => exact ⟨k,rfl⟩
  refine wk_4 _ _ _ _ _ _ _ _ _ _ _ _ _ _ _ _ _ _ _ _ _ _ _ _ _ _ _ _ _ _ _ _ _ _ _ _ _ _ _ _ w wz nx hS hf.out HH.out hnl R (zH ?_)
  ·rw [← hR.out,jK (.mk 4 chan name label xk xn xs xv xt af exprs names tk ts tn tl ag labels _),Dn rfl]; try rw [hnx]
   all_goals (first | rfl | (simp [List.getLastD,Pr.ex,Pr.ty]; done) | (simp [List.getLastD,Pr.ex,Pr.ty]; rfl))
 ·obtain ⟨k,rfl⟩ : ∃ k,kids = [k]:=by
   have : kids.length = 1:=HH.out.kids
   match kids,this with
   | [k],_ => exact ⟨k,rfl⟩
  refine wk_5 _ _ _ _ _ _ _ _ _ _ _ _ _ _ _ _ _ _ _ _ _ _ _ _ _ _ _ _ _ _ _ _ _ _ _ _ _ _ _ _ w wz nx hS hf.out HH.out hnl R (zH ?_)
  ·rw [← hR.out,jK (.mk 5 chan name label xk xn xs xv xt af exprs names tk ts tn tl ag labels _),Dp rfl]; try rw [hnx]
   all_goals (first | rfl | (simp [List.getLastD,Pr.ex,Pr.ty]; done) | (simp [List.getLastD,Pr.ex,Pr.ty]; rfl))
 ·obtain ⟨k,rfl⟩ : ∃ k,kids = [k]:=by
   have : kids.length = 1:=HH.out.kids
   match kids,this with
   | [k],_ => exact ⟨k,rfl⟩
  refine wk_6 _ _ _ _ _ _ _ _ _ _ _ _ _ _ _ _ _ _ _ _ _ _ _ _ _ _ _ _ _ _ _ _ _ _ _ _ _ _ _ _ w wz nx hS hf.out HH.out hnl R (zH ?_)
  ·rw [← hR.out,jK (.mk 6 chan name label xk xn xs xv xt af exprs names tk ts tn tl ag labels _),Dq rfl]; try rw [hnx]
   all_goals (first | rfl | (simp [List.getLastD,Pr.ex,Pr.ty]; done) | (simp [List.getLastD,Pr.ex,Pr.ty]; rfl))
 ·refine wk_7 _ _ _ _ _ _ _ _ _ _ _ _ _ _ _ _ _ _ _ _ _ _ _ _ _ _ _ _ _ _ _ _ _ _ _ _ _ _ _ _ m ih hm hm2 hg.out w wz nx hS hf.out HH.out hnl R (zH ?_)
  ·rw [← hR.out,jK (.mk 7 chan name label xk xn xs xv xt af exprs names tk ts tn tl ag labels _),Dt rfl]; try rw [hnx]
   all_goals (first | rfl | (simp [List.getLastD,Pr.ex,Pr.ty]; done) | (simp [List.getLastD,Pr.ex,Pr.ty]; rfl))
 ·obtain ⟨k,rfl⟩ : ∃ k,kids = [k]:=by
   have : kids.length = 1:=HH.out.kids
   match kids,this with
   | [k],_ => exact ⟨k,rfl⟩
  refine wk_8 _ _ _ _ _ _ _ _ _ _ _ _ _ _ _ _ _ _ _ _ _ _ _ _ _ _ _ _ _ _ _ _ _ _ _ _ _ _ _ _ w wz nx hS hf.out HH.out hnl R (zH ?_)
  ·rw [← hR.out,jK (.mk 8 chan name label xk xn xs xv xt af exprs names tk ts tn tl ag labels _),Du rfl]; try rw [hnx]
   all_goals (first | rfl | (simp [List.getLastD,Pr.ex,Pr.ty]; done) | (simp [List.getLastD,Pr.ex,Pr.ty]; rfl))
 ·obtain ⟨ka,kb,rfl⟩ : ∃ a b,kids = [a,b]:=by
   have : kids.length = 2:=HH.out.kids
   match kids,this with
   | [a,b],_ => exact ⟨a,b,rfl⟩
  refine wk_9 _ _ _ _ _ _ _ _ _ _ _ _ _ _ _ _ _ _ _ _ _ _ _ _ _ _ _ _ _ _ _ _ _ _ _ _ _ _ _ _ m ih hm hm2 hg.out w wz nx hS hf.out HH.out hnl R (zH ?_)
  ·rw [← hR.out,jK (.mk 9 chan name label xk xn xs xv xt af exprs names tk ts tn tl ag labels _),Dv rfl]; try rw [hnx]
   all_goals (first | rfl | (simp [List.getLastD,Pr.ex,Pr.ty]; done) | (simp [List.getLastD,Pr.ex,Pr.ty]; rfl))
 ·obtain ⟨ka,kb,rfl⟩ : ∃ a b,kids = [a,b]:=by
   have : kids.length = 2:=HH.out.kids
   match kids,this with
   | [a,b],_ => exact ⟨a,b,rfl⟩
  refine wk_10 _ _ _ _ _ _ _ _ _ _ _ _ _ _ _ _ _ _ _ _ _ _ _ _ _ _ _ _ _ _ _ _ _ _ _ _ _ _ _ _ m ih hm hm2 hg.out w wz nx hS hf.out HH.out hnl R (zH ?_)
  ·rw [← hR.out,jK (.mk 10 chan name label xk xn xs xv xt af exprs names tk ts tn tl ag labels _),Az rfl]; try rw [hnx]
   all_goals (first | rfl | (simp [List.getLastD,Pr.ex,Pr.ty]; done) | (simp [List.getLastD,Pr.ex,Pr.ty]; rfl))
 ·obtain ⟨k,rfl⟩ : ∃ k,kids = [k]:=by
   have : kids.length = 1:=HH.out.kids
   match kids,this with
   | [k],_ => exact ⟨k,rfl⟩
  refine wk_11 _ _ _ _ _ _ _ _ _ _ _ _ _ _ _ _ _ _ _ _ _ _ _ _ _ _ _ _ _ _ _ _ _ _ _ _ _ _ _ _ w wz nx hS hf.out HH.out hnl R (zH ?_)
  ·rw [← hR.out,jK (.mk 11 chan name label xk xn xs xv xt af exprs names tk ts tn tl ag labels _),AA rfl]; try rw [hnx]
   all_goals (first | rfl | (simp [List.getLastD,Pr.ex,Pr.ty]; done) | (simp [List.getLastD,Pr.ex,Pr.ty]; rfl))
 ·obtain ⟨k,rfl⟩ : ∃ k,kids = [k]:=by
   have : kids.length = 1:=HH.out.kids
   match kids,this with
   | [k],_ => exact ⟨k,rfl⟩
  refine wk_12 _ _ _ _ _ _ _ _ _ _ _ _ _ _ _ _ _ _ _ _ _ _ _ _ _ _ _ _ _ _ _ _ _ _ _ _ _ _ _ _ w wz nx hS hf.out HH.out hnl R (zH ?_)
  ·rw [← hR.out,jK (.mk 12 chan name label xk xn xs xv xt af exprs names tk ts tn tl ag labels _),AB rfl]; try rw [hnx]
   all_goals (first | rfl | (simp [List.getLastD,Pr.ex,Pr.ty]; done) | (simp [List.getLastD,Pr.ex,Pr.ty]; rfl))
 ·refine wk_13 _ _ _ _ _ _ _ _ _ _ _ _ _ _ _ _ _ _ _ _ _ _ _ _ _ _ _ _ _ _ _ _ _ _ _ _ _ _ _ _ w wz nx hS hf.out HH.out hnl R (zH ?_)
  ·rw [← hR.out,jK,AC rfl,hn3]
   all_goals (first | rfl | (simp [List.getLastD,Pr.ex,Pr.ty]; done) | (simp [List.getLastD,Pr.ex,Pr.ty]; rfl))
theorem prwrite_any : ∀ (m : Nat),Jg m:=by
 intro m
 induction m with
 | zero => intro t v w h; cases t; simp only [bG] at h; omega
 | succ m ih =>
  intro t v w hm hm2 hv hf hg hT hP hSo
  unfold GI
  have HIH:=zH ih
  obtain ⟨kind,chan,name,label,xk,xn,xs,xv,xt,af,exprs,names,tk,ts,tn,tl,ag,labels,kids⟩:=t
  have HVV:=zH hv
  have HH:=zH (Ie hg.one)
  have HG:=zH hg
  have HF:=zH hf
  obtain ⟨A1,n1,c1,A2,n2,c2,A3,n3,c3,A4,n4,c4,A5,n5,c5,A6,n6,c6,A7,n7,c7,rfl,q1,q2,q3,q4,q5,q6,q7⟩:=hv.one'
  simp only [Pr.aN,Pr.aT,Pr.aI,Pr.aW,Pr.jm,Pr.jo,Pr.jq,Pr.jv,Pr.jr,Pr.aY,Pr.aV,Pr.aU,Pr.jg,Pr.ji,Pr.jh,Pr.jA,Pr.aX,Pr.aH,Pr.aK] at q1 q2 q3 q4 q5 q6 q7 ⊢
  have hn3 : n3 = names.length:=by obtain ⟨_,_,e,-⟩:=q3; injection e
  have G5 : n7 = kids.length:=by obtain ⟨_,_,e,-⟩:=q7; injection e
  obtain ⟨R,hR⟩ : ∃ x,lC (.mk kind chan name label xk xn xs xv xt af exprs names tk ts tn tl ag labels kids) = x:=⟨_,rfl⟩
  rw [hR]
  have HR:=zH hR
  have MX:=zH q7
  have Ht:=zH hn3
  have Bo:=zH G5
  have HM:=zH (And.intro hm hm2)
  have L9:=zH (And.intro hT (And.intro hP hSo))
  have hn7m : n7 ≤ 1048576:=by
   have:=HF.out.parts
   simp only [Pr.aN,Pr.aT,Pr.aI,Pr.aW,Pr.jm,Pr.jo,Pr.jq,Pr.jv,Pr.jr,Pr.aY,Pr.aV,Pr.aU,Pr.jg,Pr.ji,Pr.jh,Pr.jA,Pr.aX,Pr.aH,Pr.aK] at this
   have h1:=this.2.2.2.2.2.2.2.2.2.2.2.2.2.2.2.2.2.2.2.2.2.2.2.2.1
   omega
  clear hm hm2 hv hf hg hT hP hSo q1 q2 q3 q4 q5 q6 q7 hR hn3 G5 ih
  go_enter Tryz.func43,Tryz.ntmps43
  change Code.wp _ (Code.seq _ (Code.seq _ (Code.seq _ ni))) _ _ _
  iterate 14 (first | go_values | go_skip | go_guarded | go_step | go_upon | go_back)
  obtain ⟨W,hW⟩ : ∃ W,w.alloc (.cells #[.int .i64 kind,.string ⟨chan.toArray⟩,.string ⟨name.toArray⟩,.string ⟨label.toArray⟩,.int .i64 xk,.string ⟨xn.toArray⟩,.int .i64 xs,.int .i64 xv,.string ⟨xt.toArray⟩,.slice A1 n1 c1,.slice A2 n2 c2,.slice A3 n3 c3,.int .i64 tk,.int .i64 ts,.string ⟨tn.toArray⟩,.slice A4 n4 c4,.slice A5 n5 c5,.slice A6 n6 c6,.slice A7 n7 c7] 85) = W:=⟨_,rfl⟩
  rw [hW]
  have hbW : Below w.heap.size w W:=by subst hW; go_grown
  have hB : nK W w.heap.size (.mk kind chan name label xk xn xs xv xt af exprs names tk ts tn tl ag labels kids) (.slice A1 n1 c1) (.slice A2 n2 c2) (.slice A3 n3 c3) (.slice A4 n4 c4) (.slice A5 n5 c5) (.slice A6 n6 c6) (.slice A7 n7 c7):=by
   subst hW
   exact wG w (.mk kind chan name label xk xn xs xv xt af exprs names tk ts tn tl ag labels kids) _ _ _ _ _ _ _ 85
  clear hW
  have k18:=hB.c18
  have HB:=zH hB
  have yB:=zH hbW
  clear hB hbW
  by_cases h0 : n7 = 0
  ·subst h0
   have hk0 : kids = []:=List.eq_nil_of_length_eq_zero Bo.out.symm
   have hS : Pm w W w.heap.size (.mk kind chan name label xk xn xs xv xt af exprs names tk ts tn tl ag labels kids) (.agg #[.int .i64 kind,.string ⟨chan.toArray⟩,.string ⟨name.toArray⟩,.string ⟨label.toArray⟩,.int .i64 xk,.string ⟨xn.toArray⟩,.int .i64 xs,.int .i64 xv,.string ⟨xt.toArray⟩,.slice A1 n1 c1,.slice A2 n2 c2,.slice A3 n3 c3,.int .i64 tk,.int .i64 ts,.string ⟨tn.toArray⟩,.slice A4 n4 c4,.slice A5 n5 c5,.slice A6 n6 c6,.slice A7 0 c7]) (.slice A1 n1 c1) (.slice A2 n2 c2) (.slice A3 n3 c3) (.slice A4 n4 c4) (.slice A5 n5 c5) (.slice A6 n6 c6) (.slice A7 0 c7):=⟨HB.out,yB.out,HVV.out.below yB.out,L9.out.1.below yB.out,L9.out.2.1.below yB.out,L9.out.2.2.keep yB.out⟩
   have HS:=zH hS
   clear hS
   go_wp2_with fail
   exact Gf m HIH.out kind _ _ _ _ _ _ _ _ _ _ _ _ _ _ _ _ _ _ _ _ _ _ _ _ _ _ _ _ _ _ _ _ _ _ _ _ _ _ _ _ HM.out.1 HM.out.2 HG w W [] (by rw [hk0]; rfl) HS.out HF HH (by simp) Ht.out R HR
  ·obtain ⟨j,hj⟩ : ∃ j,n7 = j + 1:=⟨n7 - 1,by omega⟩
   obtain ⟨c,hc'⟩ : ∃ y,kids[j]? = some y:=⟨_,List.getElem?_eq_getElem (by have:=Bo.out; omega)⟩
   have hlast : kids.getLastD xY = c:=by
    have h1 : kids.length = j + 1:=by have:=Bo.out; omega
    rw [List.getLastD_eq_getLast?,List.getLast?_eq_getElem?,h1]
    simp [hc']
   obtain ⟨A',cap',e,hle,-,hrow⟩:=MX.out.below yB.out
   injection e with e1 e2 e3
   subst e1 e3
   obtain ⟨b',off,rfl,-,hrow⟩:=hrow (by have:=Bo.out; omega)
   obtain ⟨cs,hrg,hcs⟩:=(zo hrow hc').range
   have hcl:=hcs.len
   have hmem:=az hc'
   have hgc : pq c:=HG.out.kid c hmem
   have hfc : bF 1048576 c:=HF.out.kid c hmem
   have hpc : bG c ≤ m ∧ bG c ≤ 200:=by
    have h2:=uZ hmem
    have h3 : 1 + oG kids ≤ 200:=HM.out.2
    have h4 : 1 + oG kids ≤ m + 1:=HM.out.1
    omega
   have htl:=rM c hgc hfc
   obtain ⟨T,hT⟩ : ∃ x,lC c = x:=⟨_,rfl⟩
   have G6 : T.length ≤ 400000000000:=by rw [← hT]; omega
   have Uy:=zH hT
   have DN:=zH hrg
   have NJ:=zH hcs
   have HC:=zH (And.intro hpc (And.intro hgc hfc))
   have HLAST:=zH hlast
   have LP : n7 ≤ c7:=by have:=Bo.out; omega
   have hjl : j ≤ 1048576:=by omega
   have HJ:=zH hj
   subst hj
   clear hc' hlast e2 hle hrow hrg hcs hmem hgc hfc hpc htl hT h0
   go_wp2_with (first | (refine jb DN.out hcl rfl (.tmp 23) rfl rfl ?_))
   refine Calls.mono (HIH.out c (.agg cs.toArray) W HC.out.1.1 HC.out.1.2 NJ.out HC.out.2.2 HC.out.2.1 (L9.out.1.below yB.out) (L9.out.2.1.below yB.out) (L9.out.2.2.keep yB.out)) ?_
   rw [Uy.out]
   rintro e w2 ⟨rfl,hb2⟩
   have hbz:=chain yB.out hb2
   have hS : Pm w w2 w.heap.size (.mk kind chan name label xk xn xs xv xt af exprs names tk ts tn tl ag labels kids) (.agg #[.int .i64 kind,.string ⟨chan.toArray⟩,.string ⟨name.toArray⟩,.string ⟨label.toArray⟩,.int .i64 xk,.string ⟨xn.toArray⟩,.int .i64 xs,.int .i64 xv,.string ⟨xt.toArray⟩,.slice A1 n1 c1,.slice A2 n2 c2,.slice A3 n3 c3,.int .i64 tk,.int .i64 ts,.string ⟨tn.toArray⟩,.slice A4 n4 c4,.slice A5 n5 c5,.slice A6 n6 c6,.slice (some ⟨b',off,none⟩) (j + 1) c7]) (.slice A1 n1 c1) (.slice A2 n2 c2) (.slice A3 n3 c3) (.slice A4 n4 c4) (.slice A5 n5 c5) (.slice A6 n6 c6) (.slice (some ⟨b',off,none⟩) (j + 1) c7):=⟨HB.out.kept hb2,hbz,HVV.out.below hbz,L9.out.1.below hbz,L9.out.2.1.below hbz,L9.out.2.2.keep hbz⟩
   have HS:=zH hS
   clear hS hb2 hbz
   go_wp2_with fail
   exact Gf m HIH.out kind _ _ _ _ _ _ _ _ _ _ _ _ _ _ _ _ _ _ _ _ _ _ _ _ _ _ _ _ _ _ _ _ _ _ _ _ _ _ _ _ HM.out.1 HM.out.2 HG w w2 (59 :: 32 :: T) (by rw [if_neg (by have:=Bo.out; omega),HLAST.out,Uy.out]; rfl) HS.out HF HH (by simp only [List.length_cons]; omega) Ht.out R HR
theorem sortWord_txt {s : Int} (h1 : 1 ≤ s) (h3 : s ≤ 3) : pX s = uU s:=by
 rcases (by omega : s = 1 ∨ s = 2 ∨ s = 3) with rfl | rfl | rfl <;> rfl
theorem xU {s : Int} : (uU s).length ≤ 4:=by
 unfold uU
 repeat' split
 all_goals decide
structure o7 (d : Df) : Prop where
 nm : d.name.length ≤ 8
 vl : d.vals.length ≤ 6
 v8 : ∀ s ∈ d.vals,s.length ≤ 8
 cl : d.chans.length ≤ 6
 c8 : ∀ s ∈ d.chans,s.length ≤ 8
 vs : d.vals.length = d.sorts.length
 ct : d.chans.length = d.types.length
 s3 : ∀ s ∈ d.sorts,1 ≤ s ∧ s ≤ 3
 t0 : ∀ t ∈ d.types,pg t = 0
 bd : pq d.body
 bp : bG d.body ≤ 200
theorem dfGood {d : Df} {left : Int} (h : (yF d left).1 = 0) (h0 : 0 ≤ left) (wu : left ≤ 200) : o7 d:=by
 unfold yF at h
 split at h
 ·rename_i hok
  split at h
  ·rename_i hs
   split at h
   ·rename_i ht
    unfold EG at hok
    simp only [Bool.and_eq_true,decide_eq_true_eq] at hok
    obtain ⟨k1,k2,k3,k4,k5⟩:=hok
    unfold aZ at k2 k3
    rw [Bool.and_eq_true,decide_eq_true_eq,List.all_eq_true] at k2 k3
    unfold nz at k1
    rw [Bool.and_eq_true] at k1
    refine ⟨(pM k1.1).2,k2.1,fun s hs => (pM (k2.2 s hs)).2,k3.1,fun s hs => (pM (k3.2 s hs)).2,k4,k5,fun s hs' => ?_,DD ht,FH _ _ h,?_⟩
    ·unfold mO at hs
     rw [List.all_eq_true] at hs
     have:=hs s hs'
     rw [Bool.and_eq_true,decide_eq_true_eq,decide_eq_true_eq] at this
     exact this
    ·have h1:=CB d.body left h
     have h2:=(zt d.body left).2 h h0
     omega
   ·rename_i ht; exact absurd h ht
  ·simp at h
 ·simp at h
theorem dfOne_le {d : Df} {left : Int} (h : (yF d left).1 = 0) (h0 : 0 ≤ left) : 0 ≤ (yF d left).2 ∧ (yF d left).2 ≤ left:=by
 unfold yF at h ⊢
 split at h
 ·rename_i h1
  rw [if_pos h1]
  split at h
  ·rename_i h2
   rw [if_pos h2]
   split at h
   ·rename_i h3
    rw [if_pos h3]
    have:=zt d.body left
    exact ⟨this.2 h h0,this.1⟩
   ·rename_i h3; exact absurd h h3
  ·simp at h
 ·simp at h
theorem Fv : ∀ (l : List Df) (left : Int),nS l left = 0 → 0 ≤ left → left ≤ 200 → ∀ d ∈ l,o7 d
 | [],_,_,_,_,d,hd => by simp at hd
 | x :: r,left,h,h0,wu,d,hd => by
  rw [nS] at h
  split at h
  ·rename_i h1
   rcases List.mem_cons.1 hd with rfl | hd
   ·exact dfGood h1 h0 wu
   ·have:=dfOne_le h1 h0
    exact Fv r _ h this.1 (by omega) d hd
  ·rename_i h1; exact absurd h h1
theorem Ed {l : List Df} (h : oP l = 0) : (∀ d ∈ l,o7 d) ∧ l.length ≤ 10:=by
 unfold oP at h
 split at h
 ·simp at h
 ·split at h
  ·simp at h
  ·exact ⟨Fv l 200 h (by omega) (by omega),by omega⟩
def gX (d : Df) : List Str:=List.zipWith (fun s n => s ++ [58] ++ uU n) d.vals d.sorts
def fM (d : Df) : List Str:=List.zipWith (fun s t => s ++ [58] ++ txt t) d.chans d.types
theorem zl {d : Df} {i : Nat} {s : Str} {n : Int} (h1 : d.vals[i]? = some s) (h2 : d.sorts[i]? = some n) : (gX d)[i]? = some (s ++ [58] ++ uU n):=by
 unfold gX
 rw [List.getElem?_zipWith,h1,h2]
theorem xy {d : Df} {i : Nat} {s : Str} {t : Ty} (h1 : d.chans[i]? = some s) (h2 : d.types[i]? = some t) : (fM d)[i]? = some (s ++ [58] ++ txt t):=by
 unfold fM
 rw [List.getElem?_zipWith,h1,h2]
theorem vS {d : Df} (h : o7 d) : (gX d).length = d.vals.length ∧ ∀ s ∈ gX d,s.length ≤ 20:=by
 have hl : (gX d).length = d.vals.length:=by unfold gX; rw [List.length_zipWith,← h.vs,Nat.min_self]
 refine ⟨hl,fun s hs => ?_⟩
 obtain ⟨i,hi⟩:=List.mem_iff_getElem?.1 hs
 have hil : i < d.vals.length:=by rw [← hl]; exact (List.getElem?_eq_some_iff.1 hi).1
 have h1:=List.getElem?_eq_getElem hil
 have h2:=List.getElem?_eq_getElem (l:=d.sorts) (show i < d.sorts.length by rw [← h.vs]; exact hil)
 rw [zl h1 h2] at hi
 rw [← Option.some.inj hi]
 have h3:=h.v8 _ (List.mem_iff_getElem?.2 ⟨i,h1⟩)
 have h4:=xU (s:=d.sorts[i]'(by rw [← h.vs]; exact hil))
 simp only [zG,zJ,zK]
 omega
theorem rC {d : Df} (h : o7 d) : (fM d).length = d.chans.length ∧ ∀ s ∈ fM d,s.length ≤ 6010:=by
 have hl : (fM d).length = d.chans.length:=by unfold fM; rw [List.length_zipWith,← h.ct,Nat.min_self]
 refine ⟨hl,fun s hs => ?_⟩
 obtain ⟨i,hi⟩:=List.mem_iff_getElem?.1 hs
 have hil : i < d.chans.length:=by rw [← hl]; exact (List.getElem?_eq_some_iff.1 hi).1
 have h1:=List.getElem?_eq_getElem hil
 have h2:=List.getElem?_eq_getElem (l:=d.types) (show i < d.types.length by rw [← h.ct]; exact hil)
 rw [xy h1 h2] at hi
 rw [← Option.some.inj hi]
 have h3:=h.c8 _ (List.mem_iff_getElem?.2 ⟨i,h1⟩)
 have h4:=AP (h.t0 _ (List.mem_iff_getElem?.2 ⟨i,h2⟩))
 simp only [zG,zJ,zK]
 omega
theorem vP {d : Df} (h : o7 d) : (bn comma (gX d)).length ≤ 200:=by
 have h1:=vS h
 have h2:=nN (sep:=comma) h1.2
 have h3 : comma.length = 2:=rfl
 have:=h.vl
 rw [h3,h1.1] at h2
 omega
theorem uS {d : Df} (h : o7 d) : (bn comma (fM d)).length ≤ 40000:=by
 have h1:=rC h
 have h2:=nN (sep:=comma) h1.2
 have h3 : comma.length = 2:=rfl
 have:=h.cl
 rw [h3,h1.1] at h2
 omega
theorem Cc {d : Df} (h : o7 d) (hf : bF 1048576 d.body) : (lC d.body).length ≤ 400000000000:=by
 have h1:=rM d.body h.bd hf
 have:=h.bp
 omega
theorem CE (d : Df) : yG d = ([100,101,102,32] : Str) ++ d.name ++ [40] ++ bn comma (gX d) ++ (if d.chans.length = 0 then [] else [59,32] ++ bn comma (fM d)) ++ [41,32,61,32] ++ lC d.body ++ [10]:=rfl
theorem dfTxt_len {d : Df} (h : o7 d) (hf : bF 1048576 d.body) : (yG d).length ≤ 500000000000:=by
 have h1:=vP h
 have h2:=uS h
 have h3:=Cc h hf
 have h4:=h.nm
 rw [CE]
 simp only [zG,zJ,zK]
 split
 ·simp only [List.length_nil]; omega
 ·simp only [zG,zJ,zK]; omega
theorem wR {l : List Df} {j : Nat} {d : Df} (h : l[j]? = some d) : nZ (l.take (j + 1)) = nZ (l.take j) ++ yG d:=by
 unfold nZ
 rw [List.take_add_one,h,List.flatMap_append]
 simp
theorem Bd {l : List Df} (h : ∀ d ∈ l,o7 d ∧ bF 1048576 d.body) (hl : l.length ≤ 10) (j : Nat) : (nZ (l.take j)).length ≤ 500000000000 * j:=by
 induction j with
 | zero => simp [nZ]
 | succ j ih =>
  by_cases hj : j < l.length
  ·have h1:=List.getElem?_eq_getElem hj
   rw [wR h1,List.length_append]
   have:=h _ (List.mem_iff_getElem?.2 ⟨j,h1⟩)
   have:=dfTxt_len this.1 this.2
   omega
  ·rw [List.take_of_length_le (by omega)] at ih ⊢
   omega
theorem copyCheckQ_any (B b : Nat) (bs : List Value) (w : World) (h : Lib.IsBuilder 92 5 B b bs w) :
  Calls Tryz.prog 77 #[.pointer (some ⟨b,0,none⟩)] w fun e w' => e = .returned (.tuple #[]) ∧ Lib.BuilderAt 92 5 B b (.pointer (some ⟨b,0,none⟩)) bs w' ∧ Below B w w' ∧ ((∃ u,w' = w.setCell ⟨b,0,none⟩ u) ∨ w' = w):=by
 have hsz : (Tryz.prog.info? 92).map (·.size) = some 2:=by kernel_rfl
 obtain ⟨j,hj,hjs⟩:=Option.map_eq_some_iff.1 hsz
 have hlies : liesAt Tryz.prog Tryz.prog.depth 92 (2 / Tryz.prog.cellsOf 92) 0 92 1 = true:=by kernel_rfl
 rcases h with h | h
 ·have h0:=h.cell0
  have hsh:=h.shape
  have hfz:=h.frozen0
  go_enter Tryz.func77,Tryz.ntmps77
  go_wp2
  rw [Lib.run_to_unsafe w ⟨b,0,none⟩ Tryz.underlying90 Tryz.underlying164 hj (by rw [hjs]; decide) hsh (Nat.zero_lt_succ 1)]
  simp only [Result.andThen]
  rw [Oper.upon_value]
  go_wp2
  rw [run_callFunc_extern Tryz.func108 (by kernel_rfl) (by kernel_rfl) (by kernel_rfl) (e:=Extern.AbiNoEscape.same) (by kernel_rfl)]
  rw [Lib.run_noEscape]
  simp only [Result.andThen]
  rw [Oper.upon_value]
  go_wp2
  rw [Lib.run_from_unsafe w ⟨b,0,none⟩ Tryz.underlying164 Tryz.underlying90 hj hsh hlies]
  simp only [Result.andThen]
  rw [Oper.upon_value]
  go_wp2
  go_end0
  exact ⟨rfl,h.used _,(Below.refl B w).setCell (p:=⟨b,0,none⟩) h.1 _,Or.inl ⟨_,rfl⟩⟩
 ·have h0:=h.cell0
  go_enter Tryz.func77,Tryz.ntmps77
  go_wp2
  rw [Lib.run_neq_ptr_same w _ Tryz.underlying90 hj]
  go_wp2
  go_end0
  exact ⟨rfl,h,Below.refl _ _,Or.inr rfl⟩
theorem writeStringQ_any (B b q : Nat) (l s : List UInt8) (w : World) (hq : q < w.heap.size) (UL : q ≠ b) (hty : ∀ cur fz,w.heap[q]? ≠ some (.cells cur 5 fz)) (h : uI B b l w) (hlen : l.length + s.length ≤ 140737488355328) (hBw : B ≤ w.heap.size) :
  Calls Tryz.prog 42 #[.pointer (some ⟨b,0,none⟩),.string ⟨s.toArray⟩] w fun e w' => e = .returned (.tuple #[.int .i64 s.length,.nilIface]) ∧ uI B b (l ++ s) w' ∧ Below B w w' ∧ w'.heap[q]? = w.heap[q]?:=by
 obtain ⟨i0,hi,hz0,hz1,hz2⟩:=info_parts (show (Tryz.prog.info? 5).map (fun i => (i.zero,i.size,i.bytes)) = some (some (.int .u8 0),1,1) by kernel_rfl)
 go_enter Tryz.func42,Tryz.ntmps42
 go_wp2_with fail
 refine (copyCheckQ_any B b _ _ h).mono ?_
 rintro e w1 ⟨rfl,h1,hb1,hfr⟩
 have hsz1 : w1.heap.size = w.heap.size:=by rcases hfr with ⟨u,rfl⟩ | rfl; exact World.size_setCell _ _ _; rfl
 have hq1 : w1.heap[q]? = w.heap[q]?:=by rcases hfr with ⟨u,rfl⟩ | rfl; exact Below.heap_setCell _ _ _ _ (fun e => UL e); rfl
 clear hfr
 obtain ⟨hB,v,hbk,hown,hne⟩:=h1
 rw [Lib.byteCells_length] at hown
 have c0 : w1.cell? ⟨b,0,none⟩ = some (.pointer (some ⟨b,0,none⟩)):=by rw [Lib.cell_of_heap hbk]; rfl
 have c1 : w1.cell? ⟨b,1,none⟩ = some v:=by rw [Lib.cell_of_heap hbk]; rfl
 have hss : (⟨s.toArray⟩ : ByteArray).size = s.length:=by simp [ByteArray.size]
 go_wp2_with (at_builtin; refine Lib.wpList_append_own_string _ rfl _ _ 62 9 rfl B 5 i0 Tryz.underlying62 Tryz.underlying9 hi hz0 hz1 hz2 _ _ _ rfl hown ⟨s.toArray⟩ rfl ?c3 ?c4 ?c5 ?_)
 case c3 => unfold maxLen; rw [hss]; omega
 case c4 => rw [hss]; omega
 case c5 => have:=hb1.size; omega
 intro v' w2 hown' hgrow hob
 have hvq : v.ownBlock ≠ some q:=by
  intro e
  rcases hown.2 with ⟨rfl,_⟩ | ⟨g,cap,cur,rfl,_,hh,_⟩
  ·simp [Value.ownBlock] at e
  ·have e' : g = q:=by simpa [Value.ownBlock] using e
   rw [e',hq1] at hh
   exact hty _ _ hh
 have PR:=zH ((hgrow.block q (by omega) (fun e => hvq e.symm)).trans hq1)
 clear hvq hob
 have hlt : b < w1.heap.size:=(Array.getElem?_eq_some_iff.1 hbk).1
 have hb2 : w2.heap[b]? = some (.cells #[.pointer (some ⟨b,0,none⟩),v] 92 (0,0)):=by
  rw [hgrow.block b hlt (fun e => hne e.symm)]
  exact hbk
 have d0 : w2.cell? ⟨b,0,none⟩ = some (.pointer (some ⟨b,0,none⟩)):=by rw [Lib.cell_of_heap hb2]; rfl
 have d1 : w2.cell? ⟨b,1,none⟩ = some v:=by rw [Lib.cell_of_heap hb2]; rfl
 have f1 : w2.frozen? ⟨b,1,none⟩ = false:=Lib.frozen_of_heap hb2 1
 obtain ⟨ao,n',cap,rfl⟩ : ∃ ao n' cap,v' = .slice ao n' cap:=by
  rcases hown'.2 with ⟨hv,_⟩ | ⟨g,cap,cur,hv,_⟩
  ·exact ⟨_,_,_,hv⟩
  ·exact ⟨_,_,_,hv⟩
 clear hss
 go_wp2_with fail
 go_ret2
 have e : Lib.byteCells (l ++ s) = Lib.byteCells l ++ Lib.strCells ⟨s.toArray⟩:=by simp [Lib.byteCells,Lib.strCells]
 refine ⟨rfl,?_,?_,?_⟩
 ·rw [uI,e]
  exact Or.inr (Lib.BuilderAt.put (T:=92) (e:=5) hB hb2 (bs':=Lib.byteCells l ++ Lib.strCells ⟨s.toArray⟩) (by simpa [Lib.byteCells_length,Lib.strCells_length,ByteArray.size] using hown') (by decide))
 ·exact (hb1.grown hgrow (by have:=hb1.size; omega) (fun k hk => (hown.lt k hk).1)).setCell (p:=⟨b,1,none⟩) hB _
 ·rw [Below.heap_setCell _ _ _ _ (fun e => UL e)]
  exact PR.out
theorem bldKeep {B b : Nat} {l : Str} {w w' : World} (h : uI B b l w) (hb : Below w.heap.size w w') : uI B b l w':=by
 have key : ∀ p,Lib.BuilderAt 92 5 B b p (Lib.byteCells l) w → Lib.BuilderAt 92 5 B b p (Lib.byteCells l) w':=by
  rintro p ⟨h1,v,h2,h3,h4⟩
  have hlt:=(Array.getElem?_eq_some_iff.1 h2).1
  exact ⟨h1,v,(hb.block b hlt).trans h2,qI h3 hb (Nat.le_refl _),h4⟩
 exact h.imp (key _) (key _)
theorem uI.lt {B b : Nat} {l : Str} {w : World} (h : uI B b l w) : b < w.heap.size:=by
 rcases h with ⟨_,_,h2,_⟩ | ⟨_,_,h2,_⟩
 ·exact (Array.getElem?_eq_some_iff.1 h2).1
 ·exact (Array.getElem?_eq_some_iff.1 h2).1
noncomputable def qwBody : Code:=((Tryz.f14.body).bind zg).getD .skip
noncomputable def SS : Code:=BG (zu (bH (bH qwBody)))
noncomputable def OY : Code:=bH SS
noncomputable def OZ : Code:=bH OY
noncomputable def JK : Code:=bH OZ
noncomputable def Np : Code:=bH JK
structure Pj (w : World) (A : Option Addr) (c : Nat) (l : List Df) : Prop where
 tb : Tabs w
 pw : ql w
 so : oN w
 ps : xh w
 ds : zX All w (.slice A l.length c) l
structure QS (w wz : World) (b : Nat) (S : Str) : Prop where
 bl : Below w.heap.size w wz
 bd : uI b b S wz
 wb : w.heap.size ≤ b
 bz : b ≤ wz.heap.size
theorem QS.next {w wz w2 : World} {b : Nat} {S : Str} (h : QS w wz b S) (hb : Below wz.heap.size wz w2) : QS w w2 b S :=
 ⟨chain h.bl hb,bldKeep h.bd hb,h.wb,Nat.le_trans h.bz hb.size⟩
structure QD (wz : World) (b q : Nat) (cs : List Value) : Prop where
 bx : qh wz q cs
 ty : ∃ C fz,wz.heap[q]? = some (.cells C 87 fz)
 qb : q ≠ b
theorem QD.next {wz w2 : World} {b q : Nat} {cs : List Value} (h : QD wz b q cs) (hb : Below wz.heap.size wz w2) : QD w2 b q cs:=by
 obtain ⟨C,fz,hc⟩:=h.ty
 exact ⟨h.bx.keep hb h.bx.lt,⟨C,fz,(hb.block q h.bx.lt).trans hc⟩,h.qb⟩
theorem QD.of_heap {wz w2 : World} {b q : Nat} {cs : List Value} (h : QD wz b q cs) (he : w2.heap[q]? = wz.heap[q]?) (hs : wz.heap.size ≤ w2.heap.size) : QD w2 b q cs:=by
 obtain ⟨C,fz,hc⟩:=h.ty
 refine ⟨⟨fun j v hv => (World.cell?_of_block (a:=⟨q,0 + j,none⟩) he).trans (h.bx.rg j v hv),fun j => (World.frozen?_of_block (a:=⟨q,j,none⟩) he).trans (h.bx.fr j),Nat.lt_of_lt_of_le h.bx.lt hs⟩,⟨C,fz,he.trans hc⟩,h.qb⟩
theorem zi {w wz : World} {b q : Nat} {S : Str} {cs : List Value} (hQ : QS w wz b S) (hD : QD wz b q cs) (s : Str) (hl : S.length + s.length ≤ 140737488355328) :
  Calls Tryz.prog 42 #[.pointer (some ⟨b,0,none⟩),.string ⟨s.toArray⟩] wz fun e w' => e = .returned (.tuple #[.int .i64 s.length,.nilIface]) ∧ QS w w' b (S ++ s) ∧ QD w' b q cs:=by
 obtain ⟨C,fz,hc⟩:=hD.ty
 refine (writeStringQ_any b b q S s wz hD.bx.lt hD.qb (fun cur fz' e => ?_) hQ.bd hl hQ.bz).mono ?_
 ·rw [hc] at e
  have:=Option.some.inj e
  injection this with _ h2
  exact absurd h2 (by decide)
 ·rintro e w2 ⟨h1,h2,h3,h4⟩
  exact ⟨h1,⟨hQ.bl.trans (h3.mono hQ.wb),h2,hQ.wb,Nat.le_trans hQ.bz h3.size⟩,hD.of_heap h4 h3.size⟩
def Fb (u0 u1 u2 u3 u4 u6 iW iY u16 jc jd je jM lD lw : Value) (l : List Df) (j : Nat) (A : Option Addr) (c : Nat) (w : World) (b : Nat) (S' : Str) (N : Act → World → Prop) : Prop :=
 ∀ (wz : World),QS w wz b S' → ∀ (v7 v8 v9 Ns Nu TZ UR Px Nv Nw JU JW JX JY Iz JZ J3 J4 J5 J6 Ih J7 J8 J9 Ko Kq Kr Kt Ku Hl Kv Kw Ky Kz IL KA IA KC KD KE KF KG KH KI KJ KL KN KO KP KQ KU KW KX IB KY IC KZ La IM IP Lc Ld Le Lh Lj Ll Lm Lp Lr Ls Lt Lu LC : Value),N { tmps:=#[u0,u1,u2,u3,u4,.pointer (some ⟨b,0,none⟩),u6,v7,v8,v9,Ns,Nu,TZ,UR,iW,iY,u16,jc,jd,je,.slice A l.length c,.int .i64 l.length,.int .i64 j,jM,Px,Nv,Nw,JU,JW,JX,JY,Iz,JZ,J3,J4,J5,J6,Ih,J7,J8,J9,Ko,Kq,Kr,Kt,Ku,Hl,Kv,Kw,Ky,Kz,IL,KA,IA,KC,KD,KE,KF,KG,KH,KI,KJ,KL,KN,KO,KP,KQ,KU,KW,KX,IB,KY,IC,KZ,La,IM,IP,Lc,Ld,Le,Lh,Lj,Ll,Lm,Lp,Lr,Ls,Lt,Lu,LC,lD,lw],defers:=[] } wz
theorem Bg (b : Nat) : ∀ (vs : List Value) (o : Nat) (w : World) (C : Array Value) (T : TypeId) (fz : Nat × Nat),w.heap[b]? = some (.cells C T fz) → ∃ C',(w.setCells b o vs).heap[b]? = some (.cells C' T fz)
 | [],_,_,C,_,_,h => ⟨C,h⟩
 | v :: r,o,w,C,T,fz,h => by
  refine Bg b r (o + 1) (w.setCell ⟨b,o,none⟩ v) (C.setIfInBounds o v) T fz ?_
  have hlt:=lt_of_block h
  have h' : w.heap[b] = .cells C T fz:=by simpa [Array.getElem?_eq_getElem hlt] using h
  show (w.heap.modify b _)[b]? = _
  rw [Array.getElem?_eq_getElem (by simpa using hlt),Array.getElem_modify_self,h']
  rfl
theorem wpList_storeDfT {ops : Array Oper} {rest : List Oper} {op : Oper} {a : Act} {w : World} {Q : Exit → Act → World → Prop} {b : Nat} {c0 cs : List Value} (h : qh w b c0) (hl0 : c0.length = 24) (hl : cs.length = 24) (h1 : ∀ v ∈ cs,v.oneCell' = true) (hgd : op.guard = none) (x y : Operand) (ho : op.op = .store 87 x y) (hx : a.eval x = .pointer (some ⟨b,0,none⟩)) (hy : a.eval y = .agg cs.toArray) (hty : ∃ C fz,w.heap[b]? = some (.cells C 87 fz))
  (hK : ∀ W,qh W b cs → (∃ C fz,W.heap[b]? = some (.cells C 87 fz)) → (∀ B a0,B ≤ b → Below B a0 w → Below B a0 W) → wpList Tryz.prog ops Q rest (a.put op.dst undef) W) : wpList Tryz.prog ops Q (op :: rest) a w:=by
 refine wpList_store_mid hgd 87 x y ho b 0 cs.toArray hx hy ?_ ?_ (all_oneCell_toArray h1) ?_
 ·have:=h.there
  rw [hl0] at this
  simpa [hl] using this
 ·simp only [List.size_toArray,hl]
  kernel_rfl
 ·rw [List.toList_toArray]
  obtain ⟨C,fz,hc⟩:=hty
  obtain ⟨C',hc'⟩:=Bg b cs 0 w C _ fz hc
  exact hK _ (h.fill cs (by rw [hl,hl0])) ⟨C',fz,hc'⟩ fun B a0 hB hb => qO hB _ _ hb
theorem qw_22 (l : List Df) (j : Nat) (A : Option Addr) (c : Nat) (w wz : World) (b : Nat) (S S' : Str) (q : Nat) (cs : List Value) (d : Df) {u0 u1 u2 u3 u4 u6 u8 u9 jI jJ jk jl iW iY u16 jc jd je jM jB jG jH jQ jR jS jT jU u32 jV jW jX jY jZ ku kw kz kC kD kE kF kG kH kJ kK kL kM kN kP kQ kR kS kT kU kV kW kX kY kZ lg u64 lh lm lq lu lJ lK lL lM lN lQ lS lT lU lV lW lX lY lZ l9 mf mg mi mr mD mF lD lw : Value} (N : Act → World → Prop) (Qx : Exit → Act → World → Prop) (hin : Pj w A c l) (hw : QS w wz b S) (hd : QD wz b q cs) (hc : Gh All w cs d) (hf : oh 1048576 d) (hg : o7 d) (hsl : S.length ≤ 6000000000000) (hS : Hid (S ++ (([41,32,61,32] : Str) ++ lC d.body ++ [10]) = S')) (hN : Fb u0 u1 u2 u3 u4 u6 iW iY u16 jc jd je jM lD lw l j A c w b S' N) (hP : ∀ c (a : Act) i (v : Value) w,Qx (Exit.panic c) (a.put i v) w → Qx (Exit.panic c) a w) :
  Code.wp Tryz.prog Np (Exit.then N Qx) { tmps:=#[u0,u1,u2,u3,u4,.pointer (some ⟨b,0,none⟩),u6,.pointer (some ⟨q,0,none⟩),u8,u9,jI,jJ,jk,jl,iW,iY,u16,jc,jd,je,.slice A l.length c,.int .i64 l.length,.int .i64 j,jM,jB,jG,jH,jQ,jR,jS,jT,jU,u32,jV,jW,jX,jY,jZ,ku,kw,kz,kC,kD,kE,kF,kG,kH,kJ,kK,kL,kM,kN,kP,kQ,kR,kS,kT,kU,kV,kW,kX,kY,kZ,lg,u64,lh,lm,lq,lu,lJ,lK,lL,lM,lN,lQ,lS,lT,lU,lV,lW,lX,lY,lZ,l9,mf,mg,mi,mr,mD,mF,lD,lw],defers:=[] } wz:=by
 have h : Np = Code.region _ _ _:=rfl
 rw [h]
 clear h
 have HN:=zH hN
 have HP:=zH hP
 have HW:=zH hw
 have HF:=zH hf
 have HG:=zH hg
 have Gi:=zH hin
 have HD:=zH hd
 have HC:=zH hc
 clear hN hP hw hf hg hin hd hc
 obtain ⟨v1,v2,v3,v4,ps,rfl,g1,g2,g3,g4,g5⟩:=id HC.out
 have hpl : ps.length = 19:=g5.len
 have MW:=zH g5
 have hrg : wz.rangeAt q 5 ps:=fun i v hi => by
  have:=HD.out.bx.rg (i + 5) v (by simpa using hi)
  rwa [show 0 + (i + 5) = 5 + i by omega] at this
 have DN:=zH hrg
 have LM:=Cc HG.out HF.out.2.2.2.2.2.2.2.2.2
 have hbl:=HW.out.bl
 have hcall:=prwrite_any (bG d.body) d.body (.agg ps.toArray) wz (Nat.le_refl _) HG.out.bp (MW.out.keep (Same.below hbl) (fun _ h _ => h)) HF.out.2.2.2.2.2.2.2.2.2 HG.out.bd (Gi.out.tb.below hbl) (Gi.out.pw.below hbl) (Gi.out.so.keep hbl)
 unfold GI at hcall
 obtain ⟨X,hX⟩ : ∃ x,lC d.body = x:=⟨_,rfl⟩
 rw [hX] at LM hS hcall
 have dP:=zH hcall
 clear g1 g2 g3 g4 g5 hrg hX hbl hcall
 go_wp2_with (first | (refine jb DN.out hpl rfl (.tmp 84) rfl rfl ?_))
 refine Calls.mono dP.out ?_
 rintro e w2 ⟨rfl,hb2⟩
 have HW2:=zH (HW.out.next hb2)
 have HD2:=zH (HD.out.next hb2)
 clear hb2 dP
 go_wp2_with fail
 refine Calls.mono (zi HW2.out HD2.out (41 :: 32 :: 61 :: 32 :: (X ++ [10])) (by simp; omega)) ?_
 rintro e w3 ⟨rfl,hw3,-⟩
 have HW3:=zH hw3
 clear hw3
 go_wp2_with fail
 exact HN.out w3 (by rw [← hS.out]; have:=HW3.out; simpa using this) _ _ _ _ _ _ _ _ _ _ _ _ _ _ _ _ _ _ _ _ _ _ _ _ _ _ _ _ _ _ _ _ _ _ _ _ _ _ _ _ _ _ _ _ _ _ _ _ _ _ _ _ _ _ _ _ _ _ _ _ _ _ _ _ _ _ _ _ _ _ _ _ _ 
def pU (d : Df) (k : Nat) : Str:=if k = 0 then [] else ([59,32] : Str) ++ bn comma ((fM d).take k)
theorem chanPart_step {d : Df} {k : Nat} {x : Str} (h : (fM d)[k]? = some x) : pU d (k + 1) = pU d k ++ ((if k = 0 then ([59,32] : Str) else [44,32]) ++ x):=by
 unfold pU
 rw [if_neg (by omega),wQ h]
 by_cases hk : k = 0
 ·simp [hk]
 ·simp [hk,comma]
theorem chanPart_len {d : Df} (h : o7 d) (k : Nat) : (pU d k).length ≤ 40010:=by
 unfold pU
 have h1:=yZ (sep:=comma) (fM d) k
 have h2:=uS h
 split
 ·simp
 ·simp only [zG,zJ,zK]; omega
theorem qw_16 (l : List Df) (j : Nat) (A : Option Addr) (c : Nat) (w wz : World) (b : Nat) (S S' : Str) (q : Nat) (cs : List Value) (d : Df) {u0 u1 u2 u3 u4 u6 u8 u9 jI jJ jk jl iW iY u16 jc jd je jM jB jG jH jQ jR jS jT jU u32 jV jW jX jY jZ ku kw kz kC kD kE kF kG kH kJ kK kL kM kN kP kQ kR kS kT kU kV kW kX kY kZ lg u64 lh lm lq lu lJ lK lL lM lN lQ lS lT lU lV lW lX lY lZ l9 mf mg mi mr mD mF lD lw : Value} (N : Act → World → Prop) (Qx : Exit → Act → World → Prop) (hin : Pj w A c l) (hw : QS w wz b S) (hd : QD wz b q cs) (hc : Gh All w cs d) (hf : oh 1048576 d) (hg : o7 d) (hsl : S.length ≤ 5900000000000) (hS : Hid (S ++ ((if d.chans.length = 0 then [] else ([59,32] : Str) ++ bn comma (fM d)) ++ (([41,32,61,32] : Str) ++ lC d.body ++ [10])) = S')) (hN : Fb u0 u1 u2 u3 u4 u6 iW iY u16 jc jd je jM lD lw l j A c w b S' N) (hP : ∀ c (a : Act) i (v : Value) w,Qx (Exit.panic c) (a.put i v) w → Qx (Exit.panic c) a w) :
  Code.wp Tryz.prog JK (Exit.then N Qx) { tmps:=#[u0,u1,u2,u3,u4,.pointer (some ⟨b,0,none⟩),u6,.pointer (some ⟨q,0,none⟩),u8,u9,jI,jJ,jk,jl,iW,iY,u16,jc,jd,je,.slice A l.length c,.int .i64 l.length,.int .i64 j,jM,jB,jG,jH,jQ,jR,jS,jT,jU,u32,jV,jW,jX,jY,jZ,ku,kw,kz,kC,kD,kE,kF,kG,kH,kJ,kK,kL,kM,kN,kP,kQ,kR,kS,kT,kU,kV,kW,kX,kY,kZ,lg,u64,lh,lm,lq,lu,lJ,lK,lL,lM,lN,lQ,lS,lT,lU,lV,lW,lX,lY,lZ,l9,mf,mg,mi,mr,mD,mF,lD,lw],defers:=[] } wz:=by
 have h : JK = Code.seq _ _:=rfl
 rw [h]
 clear h
 have HN:=zH hN
 have HP:=zH hP
 have HW:=zH hw
 have HF:=zH hf
 have HG:=zH hg
 have Gi:=zH hin
 have HD:=zH hd
 have HC:=zH hc
 clear hN hP hw hf hg hin hd hc
 obtain ⟨v1,v2,v3,v4,ps,rfl,g1,g2,g3,g4,g5⟩:=id HC.out
 obtain ⟨e3,p3,rfl,hp3,-⟩:=id g3
 obtain ⟨e4,p4,rfl,OL,-⟩:=id g4
 obtain ⟨n,hn⟩ : ∃ n,d.chans.length = n:=⟨_,rfl⟩
 have hn4 : d.types.length = n:=by rw [← HG.out.ct]; exact hn
 have D7 : n ≤ 6:=by rw [← hn]; exact HG.out.cl
 have k3 : wz.cell? ⟨q,3,none⟩ = some (.slice e3 n p3):=by rw [← hn]; exact HD.out.bx.at_ (j:=3) rfl
 rw [hn] at hp3
 rw [hn4] at OL
 have LU : Hid (bD All w (.slice e3 n p3) d.chans):=zH (by rw [← hn]; exact g3)
 have IZ : Hid (qZ All w (.slice e4 n p4) d.types):=zH (by rw [← hn4]; exact g4)
 have H4 : Hid ((Value.string ⟨d.name.toArray⟩ :: v1 :: v2 :: .slice e3 d.chans.length p3 :: .slice e4 d.types.length p4 :: ps)[4]? = some (.slice e4 n p4)):=zH (by rw [hn4]; rfl)
 have Gy:=zH hn
 have ru:=zH hn4
 have NK:=zH (rC HG.out)
 have Ug:=zH (chanPart_len HG.out)
 have hS2:=hS.out
 rw [hn] at hS2
 have HS2:=zH hS2
 obtain ⟨CS,hCS⟩ : ∃ x,(Value.string ⟨d.name.toArray⟩ :: v1 :: v2 :: .slice e3 d.chans.length p3 :: .slice e4 d.types.length p4 :: ps) = x:=⟨_,rfl⟩
 rw [hCS] at HD HC H4
 clear g1 g2 g3 g4 g5 hn hn4 hS hS2 hCS
 go_step
 rename_i K8 h8
 have H8:=zH h8
 clear h8
 go_wp2_with fail
 go_loopw [58] (fun iv wr => ∃ (k : Nat),k ≤ n ∧ iv = .int .i64 k ∧ Hid (QS w wr b (S ++ pU d k)) ∧ Hid (QD wr b q CS)) (fun iv _ => n - (intOf iv).toNat)
 case atStart => exact ⟨0,by omega,rfl,zH (by have:=HW.out; simpa [pU] using this),HD⟩
 case round =>
  obtain ⟨k,hk,rfl,HQ,MS⟩:=hrel
  have r4:=MS.out.bx.at_ H4.out
  have hbl:=HQ.out.bl
  by_cases hlt : k < n
  ·obtain ⟨s,hs⟩ : ∃ y,d.chans[k]? = some y:=⟨_,List.getElem?_eq_getElem (by have:=Gy.out; omega)⟩
   obtain ⟨t,ht⟩ : ∃ y,d.types[k]? = some y:=⟨_,List.getElem?_eq_getElem (by have:=ru.out; omega)⟩
   have yz:=xy hs ht
   have hstep:=chanPart_step yz
   have OO:=HG.out.c8 s (az hs)
   have ht0:=HG.out.t0 t (az ht)
   have htf : Fit t:=HF.out.2.2.2.2.2.2.2.2.1 t (az ht)
   have htl:=AP ht0
   obtain ⟨As,caps,es,hsc,xK⟩:=LU.out
   injection es with es1 es2 es3
   subst es1 es3
   obtain ⟨sb,so,rfl,-,JD⟩:=xK (by have:=Gy.out; omega)
   have hscell:=JD k s hs
   have kl:=(hbl.cell (p:=⟨sb,so + k,none⟩) (cell_lt hscell)).trans hscell
   obtain ⟨-,hc4,b',off,A1,n1,c1,A2,n2,c2,rfl,-,y0,y1,y2,y3,y4,hL,hK2⟩:=qi IZ.out ht
   have z0:=(hbl.cell (p:=⟨b',off + k * 5,none⟩) (cell_lt y0)).trans y0
   have z1:=(hbl.cell (p:=⟨b',off + k * 5 + 1,none⟩) (cell_lt y0)).trans y1
   have z2:=(hbl.cell (p:=⟨b',off + k * 5 + 2,none⟩) (cell_lt y0)).trans y2
   have z3:=(hbl.cell (p:=⟨b',off + k * 5 + 3,none⟩) (cell_lt y0)).trans y3
   have z4:=(hbl.cell (p:=⟨b',off + k * 5 + 4,none⟩) (cell_lt y0)).trans y4
   have hyv : ny wr (.agg #[.int .i64 t.kind,.int .i64 t.sort,.string ⟨t.name.toArray⟩,.slice A1 n1 c1,.slice A2 n2 c2]) t:=⟨_,_,rfl,(hL.keep (Same.below hbl) (fun _ h _ => h)).is,(hK2.keep (Same.below hbl) (fun _ h _ => h)).is⟩
   have hcall:=Fg t _ wr hyv htf ht0 (Gi.out.so.keep hbl)
   obtain ⟨Y,hY⟩ : ∃ x,txt t = x:=⟨_,rfl⟩
   rw [hY] at yz htl hstep hcall
   have dP:=zH hcall
   have EZ:=zH hstep
   have hcp:=Ug.out k
   obtain ⟨Sk,MF⟩ : ∃ x,S ++ pU d k = x:=⟨_,rfl⟩
   have hSkl : Sk.length ≤ 5950000000000:=by rw [← MF,List.length_append]; omega
   rw [MF] at HQ
   have PT:=zH MF
   clear hs ht yz ht0 htf hscell JD xK hsc es2 y0 y1 y2 y3 y4 hL hK2 hyv hY hcall hstep MF hbl hcp
   go_wp2_with fail
   refine Calls.mono dP.out ?_
   rintro e w2 ⟨rfl,hb2⟩
   have HW2:=zH (HQ.out.next hb2)
   have HD2:=zH (MS.out.next hb2)
   have hba:=fun ob => (Below.refl w2.heap.size w2).alloc (Nat.le_refl _) ob
   have DL:=zH hba
   clear hb2 dP z0 z1 z2 z3 z4 kl r4 hba
   by_cases h0 : k = 0
   ·subst h0
    have hmin : min (0 : Int) 1 = 0:=by decide
    go_wp2_with fail
    refine Calls.mono (zi (HW2.out.next (DL.out _)) (HD2.out.next (DL.out _)) (59 :: 32 :: (s ++ 58 :: Y)) (by simp; omega)) ?_
    rintro e w3 ⟨rfl,hw3,hd3⟩
    have HW3:=zH hw3
    have HD3:=zH hd3
    clear hw3 hd3
    go_wp2_with fail
    go_roundw
    case rel => exact ⟨1,by omega,by go_num,zH (by rw [EZ.out,← List.append_assoc,PT.out]; have:=HW3.out; simpa using this),HD3⟩
    case measure => simp [intOf]; omega
   ·have hpos : 0 < k:=by omega
    have hmin : min (k : Int) 1 = 1:=by omega
    go_wp2_with fail
    refine Calls.mono (zi (HW2.out.next (DL.out _)) (HD2.out.next (DL.out _)) (44 :: 32 :: (s ++ 58 :: Y)) (by simp; omega)) ?_
    rintro e w3 ⟨rfl,hw3,hd3⟩
    have HW3:=zH hw3
    have HD3:=zH hd3
    clear hw3 hd3
    go_wp2_with fail
    go_roundw
    case rel => exact ⟨k + 1,by omega,by go_num,zH (by rw [EZ.out,if_neg h0,← List.append_assoc,PT.out]; have:=HW3.out; simpa using this),HD3⟩
    case measure => simp [intOf]; omega
  ·have hkn : k = n:=by omega
   subst hkn
   have QB : pU d k = (if k = 0 then [] else ([59,32] : Str) ++ bn comma (fM d)):=by
    unfold pU
    rw [List.take_of_length_le (by rw [NK.out.1,Gy.out]; exact Nat.le_refl _)]
   have hlen:=Ug.out k
   have hS3 : (S ++ pU d k) ++ (([41,32,61,32] : Str) ++ lC d.body ++ [10]) = S':=by rw [QB,List.append_assoc]; exact HS2.out
   have Jb:=zH hS3
   clear QB hS3
   go_wp2_with fail
   refine H8.out _ _ ?_
   clear H8
   exact qw_22 l j A c w wr b (S ++ pU d k) S' q CS d N Qx Gi.out HQ.out MS.out HC.out HF.out HG.out (by rw [List.length_append]; omega) Jb HN.out HP.out
end Go.Proofs.YtpidjanngbaiiaaGreatDoor
