/-
  PrVa PrV2 PrV7 PrV9 PrV10
-/
import Derived.Test.YtpidjanngbaiiaaGreatDoorM14
namespace Go.Proofs.YtpidjanngbaiiaaGreatDoor
open Go.RowKit Go.Proofs
set_option maxRecDepth 100000
set_option maxHeartbeats 32000000

theorem wk_1 (chan name label : Str) (xk : Int) (xn : Str) (xs xv : Int) (xt : Str) (af exprs : List Ex) (names : List Str) (tk ts : Int) (tn : Str) (tl : List Str) (ag : List Ty) (labels : List Str) (kids : List Pr) (A1 : Option Addr) (n1 c1 : Nat) (A2 : Option Addr) (n2 c2 : Nat) (A3 : Option Addr) (n3 c3 : Nat) (A4 : Option Addr) (n4 c4 : Nat) (A5 : Option Addr) (n5 c5 : Nat) (A6 : Option Addr) (n6 c6 : Nat) (A7 : Option Addr) (n7 c7 : Nat) (b : Nat) (w wz : World) {u0 u2 u4 u5 u6 u7 u8 u9 jI jJ jk jl iW iY u16 jc jd je jL mW mX jM jB jG jH jQ jR jS jT jU u32 jV jW jX jY jZ ku kw kz kC kD kE kF kG kH kJ kK kL kM kN kP kQ kR kS kT kU kV kW kX kY kZ lg u64 lh lm lq lu lJ lK lL lM lN lQ lS lT lU lV lW lX lY lZ l9 mf mg mi mr mD mF lD lw mP nP nD oH oI oJ oK oL dE dF dG dH dI dJ dK dL dM dN dO bP bQ bT bU bV bW bY bZ cu cO cZ dh di dw dC dD gJ gK gQ gU gV fO fP fQ fU fV fZ gp gq gu gy gB gG gI eu eF eG eH eP eQ eU eX eY fA fB fC fD fE fF fG fH dS dU dV dW dX dY dZ ed iq iw iy iC iD iE iF iG iH iI iJ iK iL iM iO iP iQ iR iT iU mZ ng sH sJ sK sN sO sQ sS sU sV sW sZ tq tu tC tH tJ tK tN tV tX tY tZ uf ug uh ui uj ul um uo uq ut uu uw : Value} (nx : Str) (hS : (Hy 1 chan name label xk xn xs xv xt af exprs names tk ts tn tl ag labels kids A1 n1 c1 A2 n2 c2 A3 n3 c3 A4 n4 c4 A5 n5 c5 A6 n6 c6 A7 n7 c7 w wz b)) (hf : bF 1048576 (.mk 1 chan name label xk xn xs xv xt af exprs names tk ts tn tl ag labels kids)) (hH : oM (.mk 1 chan name label xk xn xs xv xt af exprs names tk ts tn tl ag labels kids)) (hnl : nx.length ≤ 1000000000000) (R : Str) (HR : Hid (([115,116,111,112] : Str) = R)) :
  Code.wp Tryz.prog ni (bodyPost Tryz.prog Tryz.f43 (fun e w' => e = .returned (.string ⟨R.toArray⟩) ∧ Below w.heap.size w w')) { tmps:=#[u0,.pointer (some ⟨b,0,none⟩),u2,.string ⟨nx.toArray⟩,u4,u5,u6,u7,u8,u9,jI,jJ,jk,jl,iW,iY,u16,jc,jd,je,jL,mW,mX,jM,jB,jG,jH,jQ,jR,jS,jT,jU,u32,jV,jW,jX,jY,jZ,ku,kw,kz,kC,kD,kE,kF,kG,kH,kJ,kK,kL,kM,kN,kP,kQ,kR,kS,kT,kU,kV,kW,kX,kY,kZ,lg,u64,lh,lm,lq,lu,lJ,lK,lL,lM,lN,lQ,lS,lT,lU,lV,lW,lX,lY,lZ,l9,mf,mg,mi,mr,mD,mF,lD,lw,mP,nP,nD,oH,oI,oJ,oK,oL,dE,dF,dG,dH,dI,dJ,dK,dL,dM,dN,dO,bP,bQ,bT,bU,bV,bW,bY,bZ,cu,cO,cZ,dh,di,dw,dC,dD,gJ,gK,gQ,gU,gV,fO,fP,fQ,fU,fV,fZ,gp,gq,gu,gy,gB,gG,gI,eu,eF,eG,eH,eP,eQ,eU,eX,eY,fA,fB,fC,fD,fE,fF,fG,fH,dS,dU,dV,dW,dX,dY,dZ,ed,iq,iw,iy,iC,iD,iE,iF,iG,iH,iI,iJ,iK,iL,iM,iO,iP,iQ,iR,iT,iU,mZ,ng,sH,sJ,sK,sN,sO,sQ,sS,sU,sV,sW,sZ,tq,tu,tC,tH,tJ,tK,tN,tV,tX,tY,tZ,uf,ug,uh,ui,uj,ul,um,uo,uq,ut,uu,uw],defers:=[] } wz:=by
 have h : ni = Code.seq _ _:=rfl
 rw [h]
 clear h
 have HS:=zH hS
 have HF:=zH hf
 have HH:=zH hH
 obtain ⟨k0,_,_,_,_,_,_,_,_,_,_,_,_,_,_,_,_,_,_⟩:=hS.bx.mkc
 have z1 : chan.length ≤ 8:=hH.ch
 have z2 : name.length ≤ 8:=hH.nm
 have z3 : label.length ≤ 8:=hH.lb
 clear hS hf hH
 go_wp2_with fail
 go_ret
 exact ⟨by rw [← HR.out]; simp,HS.out.bl⟩
theorem wk_3 (chan name label : Str) (xk : Int) (xn : Str) (xs xv : Int) (xt : Str) (af exprs : List Ex) (names : List Str) (tk ts : Int) (tn : Str) (tl : List Str) (ag : List Ty) (labels : List Str) (kids : List Pr) (A1 : Option Addr) (n1 c1 : Nat) (A2 : Option Addr) (n2 c2 : Nat) (A3 : Option Addr) (n3 c3 : Nat) (A4 : Option Addr) (n4 c4 : Nat) (A5 : Option Addr) (n5 c5 : Nat) (A6 : Option Addr) (n6 c6 : Nat) (A7 : Option Addr) (n7 c7 : Nat) (b : Nat) (w wz : World) {u0 u2 u4 u5 u6 u7 u8 u9 jI jJ jk jl iW iY u16 jc jd je jL mW mX jM jB jG jH jQ jR jS jT jU u32 jV jW jX jY jZ ku kw kz kC kD kE kF kG kH kJ kK kL kM kN kP kQ kR kS kT kU kV kW kX kY kZ lg u64 lh lm lq lu lJ lK lL lM lN lQ lS lT lU lV lW lX lY lZ l9 mf mg mi mr mD mF lD lw mP nP nD oH oI oJ oK oL dE dF dG dH dI dJ dK dL dM dN dO bP bQ bT bU bV bW bY bZ cu cO cZ dh di dw dC dD gJ gK gQ gU gV fO fP fQ fU fV fZ gp gq gu gy gB gG gI eu eF eG eH eP eQ eU eX eY fA fB fC fD fE fF fG fH dS dU dV dW dX dY dZ ed iq iw iy iC iD iE iF iG iH iI iJ iK iL iM iO iP iQ iR iT iU mZ ng sH sJ sK sN sO sQ sS sU sV sW sZ tq tu tC tH tJ tK tN tV tX tY tZ uf ug uh ui uj ul um uo uq ut uu uw : Value} (nx : Str) (hS : (Hy 3 chan name label xk xn xs xv xt af exprs names tk ts tn tl ag labels kids A1 n1 c1 A2 n2 c2 A3 n3 c3 A4 n4 c4 A5 n5 c5 A6 n6 c6 A7 n7 c7 w wz b)) (hf : bF 1048576 (.mk 3 chan name label xk xn xs xv xt af exprs names tk ts tn tl ag labels kids)) (hH : oM (.mk 3 chan name label xk xn xs xv xt af exprs names tk ts tn tl ag labels kids)) (hnl : nx.length ≤ 1000000000000) (R : Str) (HR : Hid (([114,101,99,118,32] : Str) ++ chan ++ [32] ++ name ++ nx = R)) :
  Code.wp Tryz.prog ni (bodyPost Tryz.prog Tryz.f43 (fun e w' => e = .returned (.string ⟨R.toArray⟩) ∧ Below w.heap.size w w')) { tmps:=#[u0,.pointer (some ⟨b,0,none⟩),u2,.string ⟨nx.toArray⟩,u4,u5,u6,u7,u8,u9,jI,jJ,jk,jl,iW,iY,u16,jc,jd,je,jL,mW,mX,jM,jB,jG,jH,jQ,jR,jS,jT,jU,u32,jV,jW,jX,jY,jZ,ku,kw,kz,kC,kD,kE,kF,kG,kH,kJ,kK,kL,kM,kN,kP,kQ,kR,kS,kT,kU,kV,kW,kX,kY,kZ,lg,u64,lh,lm,lq,lu,lJ,lK,lL,lM,lN,lQ,lS,lT,lU,lV,lW,lX,lY,lZ,l9,mf,mg,mi,mr,mD,mF,lD,lw,mP,nP,nD,oH,oI,oJ,oK,oL,dE,dF,dG,dH,dI,dJ,dK,dL,dM,dN,dO,bP,bQ,bT,bU,bV,bW,bY,bZ,cu,cO,cZ,dh,di,dw,dC,dD,gJ,gK,gQ,gU,gV,fO,fP,fQ,fU,fV,fZ,gp,gq,gu,gy,gB,gG,gI,eu,eF,eG,eH,eP,eQ,eU,eX,eY,fA,fB,fC,fD,fE,fF,fG,fH,dS,dU,dV,dW,dX,dY,dZ,ed,iq,iw,iy,iC,iD,iE,iF,iG,iH,iI,iJ,iK,iL,iM,iO,iP,iQ,iR,iT,iU,mZ,ng,sH,sJ,sK,sN,sO,sQ,sS,sU,sV,sW,sZ,tq,tu,tC,tH,tJ,tK,tN,tV,tX,tY,tZ,uf,ug,uh,ui,uj,ul,um,uo,uq,ut,uu,uw],defers:=[] } wz:=by
 have h : ni = Code.seq _ _:=rfl
 rw [h]
 clear h
 have HS:=zH hS
 have HF:=zH hf
 have HH:=zH hH
 obtain ⟨k0,k1,k2,_,_,_,_,_,_,_,_,_,_,_,_,_,_,_,_⟩:=hS.bx.mkc
 have z1 : chan.length ≤ 8:=hH.ch
 have z2 : name.length ≤ 8:=hH.nm
 have z3 : label.length ≤ 8:=hH.lb
 clear hS hf hH
 go_wp2_with fail
 go_ret
 exact ⟨by rw [← HR.out]; simp,HS.out.bl⟩
theorem wk_4 (chan name label : Str) (xk : Int) (xn : Str) (xs xv : Int) (xt : Str) (af exprs : List Ex) (names : List Str) (tk ts : Int) (tn : Str) (tl : List Str) (ag : List Ty) (labels : List Str) (kids : List Pr) (A1 : Option Addr) (n1 c1 : Nat) (A2 : Option Addr) (n2 c2 : Nat) (A3 : Option Addr) (n3 c3 : Nat) (A4 : Option Addr) (n4 c4 : Nat) (A5 : Option Addr) (n5 c5 : Nat) (A6 : Option Addr) (n6 c6 : Nat) (A7 : Option Addr) (n7 c7 : Nat) (b : Nat) (w wz : World) {u0 u2 u4 u5 u6 u7 u8 u9 jI jJ jk jl iW iY u16 jc jd je jL mW mX jM jB jG jH jQ jR jS jT jU u32 jV jW jX jY jZ ku kw kz kC kD kE kF kG kH kJ kK kL kM kN kP kQ kR kS kT kU kV kW kX kY kZ lg u64 lh lm lq lu lJ lK lL lM lN lQ lS lT lU lV lW lX lY lZ l9 mf mg mi mr mD mF lD lw mP nP nD oH oI oJ oK oL dE dF dG dH dI dJ dK dL dM dN dO bP bQ bT bU bV bW bY bZ cu cO cZ dh di dw dC dD gJ gK gQ gU gV fO fP fQ fU fV fZ gp gq gu gy gB gG gI eu eF eG eH eP eQ eU eX eY fA fB fC fD fE fF fG fH dS dU dV dW dX dY dZ ed iq iw iy iC iD iE iF iG iH iI iJ iK iL iM iO iP iQ iR iT iU mZ ng sH sJ sK sN sO sQ sS sU sV sW sZ tq tu tC tH tJ tK tN tV tX tY tZ uf ug uh ui uj ul um uo uq ut uu uw : Value} (nx : Str) (hS : (Hy 4 chan name label xk xn xs xv xt af exprs names tk ts tn tl ag labels kids A1 n1 c1 A2 n2 c2 A3 n3 c3 A4 n4 c4 A5 n5 c5 A6 n6 c6 A7 n7 c7 w wz b)) (hf : bF 1048576 (.mk 4 chan name label xk xn xs xv xt af exprs names tk ts tn tl ag labels kids)) (hH : oM (.mk 4 chan name label xk xn xs xv xt af exprs names tk ts tn tl ag labels kids)) (hnl : nx.length ≤ 1000000000000) (R : Str) (HR : Hid (([103,105,118,101,32] : Str) ++ chan ++ [32] ++ name ++ nx = R)) :
  Code.wp Tryz.prog ni (bodyPost Tryz.prog Tryz.f43 (fun e w' => e = .returned (.string ⟨R.toArray⟩) ∧ Below w.heap.size w w')) { tmps:=#[u0,.pointer (some ⟨b,0,none⟩),u2,.string ⟨nx.toArray⟩,u4,u5,u6,u7,u8,u9,jI,jJ,jk,jl,iW,iY,u16,jc,jd,je,jL,mW,mX,jM,jB,jG,jH,jQ,jR,jS,jT,jU,u32,jV,jW,jX,jY,jZ,ku,kw,kz,kC,kD,kE,kF,kG,kH,kJ,kK,kL,kM,kN,kP,kQ,kR,kS,kT,kU,kV,kW,kX,kY,kZ,lg,u64,lh,lm,lq,lu,lJ,lK,lL,lM,lN,lQ,lS,lT,lU,lV,lW,lX,lY,lZ,l9,mf,mg,mi,mr,mD,mF,lD,lw,mP,nP,nD,oH,oI,oJ,oK,oL,dE,dF,dG,dH,dI,dJ,dK,dL,dM,dN,dO,bP,bQ,bT,bU,bV,bW,bY,bZ,cu,cO,cZ,dh,di,dw,dC,dD,gJ,gK,gQ,gU,gV,fO,fP,fQ,fU,fV,fZ,gp,gq,gu,gy,gB,gG,gI,eu,eF,eG,eH,eP,eQ,eU,eX,eY,fA,fB,fC,fD,fE,fF,fG,fH,dS,dU,dV,dW,dX,dY,dZ,ed,iq,iw,iy,iC,iD,iE,iF,iG,iH,iI,iJ,iK,iL,iM,iO,iP,iQ,iR,iT,iU,mZ,ng,sH,sJ,sK,sN,sO,sQ,sS,sU,sV,sW,sZ,tq,tu,tC,tH,tJ,tK,tN,tV,tX,tY,tZ,uf,ug,uh,ui,uj,ul,um,uo,uq,ut,uu,uw],defers:=[] } wz:=by
 have h : ni = Code.seq _ _:=rfl
 rw [h]
 clear h
 have HS:=zH hS
 have HF:=zH hf
 have HH:=zH hH
 obtain ⟨k0,k1,k2,_,_,_,_,_,_,_,_,_,_,_,_,_,_,_,_⟩:=hS.bx.mkc
 have z1 : chan.length ≤ 8:=hH.ch
 have z2 : name.length ≤ 8:=hH.nm
 have z3 : label.length ≤ 8:=hH.lb
 clear hS hf hH
 go_wp2_with fail
 go_ret
 exact ⟨by rw [← HR.out]; simp,HS.out.bl⟩
theorem wk_5 (chan name label : Str) (xk : Int) (xn : Str) (xs xv : Int) (xt : Str) (af exprs : List Ex) (names : List Str) (tk ts : Int) (tn : Str) (tl : List Str) (ag : List Ty) (labels : List Str) (kids : List Pr) (A1 : Option Addr) (n1 c1 : Nat) (A2 : Option Addr) (n2 c2 : Nat) (A3 : Option Addr) (n3 c3 : Nat) (A4 : Option Addr) (n4 c4 : Nat) (A5 : Option Addr) (n5 c5 : Nat) (A6 : Option Addr) (n6 c6 : Nat) (A7 : Option Addr) (n7 c7 : Nat) (b : Nat) (w wz : World) {u0 u2 u4 u5 u6 u7 u8 u9 jI jJ jk jl iW iY u16 jc jd je jL mW mX jM jB jG jH jQ jR jS jT jU u32 jV jW jX jY jZ ku kw kz kC kD kE kF kG kH kJ kK kL kM kN kP kQ kR kS kT kU kV kW kX kY kZ lg u64 lh lm lq lu lJ lK lL lM lN lQ lS lT lU lV lW lX lY lZ l9 mf mg mi mr mD mF lD lw mP nP nD oH oI oJ oK oL dE dF dG dH dI dJ dK dL dM dN dO bP bQ bT bU bV bW bY bZ cu cO cZ dh di dw dC dD gJ gK gQ gU gV fO fP fQ fU fV fZ gp gq gu gy gB gG gI eu eF eG eH eP eQ eU eX eY fA fB fC fD fE fF fG fH dS dU dV dW dX dY dZ ed iq iw iy iC iD iE iF iG iH iI iJ iK iL iM iO iP iQ iR iT iU mZ ng sH sJ sK sN sO sQ sS sU sV sW sZ tq tu tC tH tJ tK tN tV tX tY tZ uf ug uh ui uj ul um uo uq ut uu uw : Value} (nx : Str) (hS : (Hy 5 chan name label xk xn xs xv xt af exprs names tk ts tn tl ag labels kids A1 n1 c1 A2 n2 c2 A3 n3 c3 A4 n4 c4 A5 n5 c5 A6 n6 c6 A7 n7 c7 w wz b)) (hf : bF 1048576 (.mk 5 chan name label xk xn xs xv xt af exprs names tk ts tn tl ag labels kids)) (hH : oM (.mk 5 chan name label xk xn xs xv xt af exprs names tk ts tn tl ag labels kids)) (hnl : nx.length ≤ 1000000000000) (R : Str) (HR : Hid (([116,97,107,101,32] : Str) ++ chan ++ [32] ++ name ++ nx = R)) :
  Code.wp Tryz.prog ni (bodyPost Tryz.prog Tryz.f43 (fun e w' => e = .returned (.string ⟨R.toArray⟩) ∧ Below w.heap.size w w')) { tmps:=#[u0,.pointer (some ⟨b,0,none⟩),u2,.string ⟨nx.toArray⟩,u4,u5,u6,u7,u8,u9,jI,jJ,jk,jl,iW,iY,u16,jc,jd,je,jL,mW,mX,jM,jB,jG,jH,jQ,jR,jS,jT,jU,u32,jV,jW,jX,jY,jZ,ku,kw,kz,kC,kD,kE,kF,kG,kH,kJ,kK,kL,kM,kN,kP,kQ,kR,kS,kT,kU,kV,kW,kX,kY,kZ,lg,u64,lh,lm,lq,lu,lJ,lK,lL,lM,lN,lQ,lS,lT,lU,lV,lW,lX,lY,lZ,l9,mf,mg,mi,mr,mD,mF,lD,lw,mP,nP,nD,oH,oI,oJ,oK,oL,dE,dF,dG,dH,dI,dJ,dK,dL,dM,dN,dO,bP,bQ,bT,bU,bV,bW,bY,bZ,cu,cO,cZ,dh,di,dw,dC,dD,gJ,gK,gQ,gU,gV,fO,fP,fQ,fU,fV,fZ,gp,gq,gu,gy,gB,gG,gI,eu,eF,eG,eH,eP,eQ,eU,eX,eY,fA,fB,fC,fD,fE,fF,fG,fH,dS,dU,dV,dW,dX,dY,dZ,ed,iq,iw,iy,iC,iD,iE,iF,iG,iH,iI,iJ,iK,iL,iM,iO,iP,iQ,iR,iT,iU,mZ,ng,sH,sJ,sK,sN,sO,sQ,sS,sU,sV,sW,sZ,tq,tu,tC,tH,tJ,tK,tN,tV,tX,tY,tZ,uf,ug,uh,ui,uj,ul,um,uo,uq,ut,uu,uw],defers:=[] } wz:=by
 have h : ni = Code.seq _ _:=rfl
 rw [h]
 clear h
 have HS:=zH hS
 have HF:=zH hf
 have HH:=zH hH
 obtain ⟨k0,k1,k2,_,_,_,_,_,_,_,_,_,_,_,_,_,_,_,_⟩:=hS.bx.mkc
 have z1 : chan.length ≤ 8:=hH.ch
 have z2 : name.length ≤ 8:=hH.nm
 have z3 : label.length ≤ 8:=hH.lb
 clear hS hf hH
 go_wp2_with fail
 go_ret
 exact ⟨by rw [← HR.out]; simp,HS.out.bl⟩
theorem wk_6 (chan name label : Str) (xk : Int) (xn : Str) (xs xv : Int) (xt : Str) (af exprs : List Ex) (names : List Str) (tk ts : Int) (tn : Str) (tl : List Str) (ag : List Ty) (labels : List Str) (kids : List Pr) (A1 : Option Addr) (n1 c1 : Nat) (A2 : Option Addr) (n2 c2 : Nat) (A3 : Option Addr) (n3 c3 : Nat) (A4 : Option Addr) (n4 c4 : Nat) (A5 : Option Addr) (n5 c5 : Nat) (A6 : Option Addr) (n6 c6 : Nat) (A7 : Option Addr) (n7 c7 : Nat) (b : Nat) (w wz : World) {u0 u2 u4 u5 u6 u7 u8 u9 jI jJ jk jl iW iY u16 jc jd je jL mW mX jM jB jG jH jQ jR jS jT jU u32 jV jW jX jY jZ ku kw kz kC kD kE kF kG kH kJ kK kL kM kN kP kQ kR kS kT kU kV kW kX kY kZ lg u64 lh lm lq lu lJ lK lL lM lN lQ lS lT lU lV lW lX lY lZ l9 mf mg mi mr mD mF lD lw mP nP nD oH oI oJ oK oL dE dF dG dH dI dJ dK dL dM dN dO bP bQ bT bU bV bW bY bZ cu cO cZ dh di dw dC dD gJ gK gQ gU gV fO fP fQ fU fV fZ gp gq gu gy gB gG gI eu eF eG eH eP eQ eU eX eY fA fB fC fD fE fF fG fH dS dU dV dW dX dY dZ ed iq iw iy iC iD iE iF iG iH iI iJ iK iL iM iO iP iQ iR iT iU mZ ng sH sJ sK sN sO sQ sS sU sV sW sZ tq tu tC tH tJ tK tN tV tX tY tZ uf ug uh ui uj ul um uo uq ut uu uw : Value} (nx : Str) (hS : (Hy 6 chan name label xk xn xs xv xt af exprs names tk ts tn tl ag labels kids A1 n1 c1 A2 n2 c2 A3 n3 c3 A4 n4 c4 A5 n5 c5 A6 n6 c6 A7 n7 c7 w wz b)) (hf : bF 1048576 (.mk 6 chan name label xk xn xs xv xt af exprs names tk ts tn tl ag labels kids)) (hH : oM (.mk 6 chan name label xk xn xs xv xt af exprs names tk ts tn tl ag labels kids)) (hnl : nx.length ≤ 1000000000000) (R : Str) (HR : Hid (([112,105,99,107,32] : Str) ++ chan ++ [32] ++ label ++ nx = R)) :
  Code.wp Tryz.prog ni (bodyPost Tryz.prog Tryz.f43 (fun e w' => e = .returned (.string ⟨R.toArray⟩) ∧ Below w.heap.size w w')) { tmps:=#[u0,.pointer (some ⟨b,0,none⟩),u2,.string ⟨nx.toArray⟩,u4,u5,u6,u7,u8,u9,jI,jJ,jk,jl,iW,iY,u16,jc,jd,je,jL,mW,mX,jM,jB,jG,jH,jQ,jR,jS,jT,jU,u32,jV,jW,jX,jY,jZ,ku,kw,kz,kC,kD,kE,kF,kG,kH,kJ,kK,kL,kM,kN,kP,kQ,kR,kS,kT,kU,kV,kW,kX,kY,kZ,lg,u64,lh,lm,lq,lu,lJ,lK,lL,lM,lN,lQ,lS,lT,lU,lV,lW,lX,lY,lZ,l9,mf,mg,mi,mr,mD,mF,lD,lw,mP,nP,nD,oH,oI,oJ,oK,oL,dE,dF,dG,dH,dI,dJ,dK,dL,dM,dN,dO,bP,bQ,bT,bU,bV,bW,bY,bZ,cu,cO,cZ,dh,di,dw,dC,dD,gJ,gK,gQ,gU,gV,fO,fP,fQ,fU,fV,fZ,gp,gq,gu,gy,gB,gG,gI,eu,eF,eG,eH,eP,eQ,eU,eX,eY,fA,fB,fC,fD,fE,fF,fG,fH,dS,dU,dV,dW,dX,dY,dZ,ed,iq,iw,iy,iC,iD,iE,iF,iG,iH,iI,iJ,iK,iL,iM,iO,iP,iQ,iR,iT,iU,mZ,ng,sH,sJ,sK,sN,sO,sQ,sS,sU,sV,sW,sZ,tq,tu,tC,tH,tJ,tK,tN,tV,tX,tY,tZ,uf,ug,uh,ui,uj,ul,um,uo,uq,ut,uu,uw],defers:=[] } wz:=by
 have h : ni = Code.seq _ _:=rfl
 rw [h]
 clear h
 have HS:=zH hS
 have HF:=zH hf
 have HH:=zH hH
 obtain ⟨k0,k1,_,k3,_,_,_,_,_,_,_,_,_,_,_,_,_,_,_⟩:=hS.bx.mkc
 have z1 : chan.length ≤ 8:=hH.ch
 have z2 : name.length ≤ 8:=hH.nm
 have z3 : label.length ≤ 8:=hH.lb
 clear hS hf hH
 go_wp2_with fail
 go_ret
 exact ⟨by rw [← HR.out]; simp,HS.out.bl⟩
theorem wk_8 (chan name label : Str) (xk : Int) (xn : Str) (xs xv : Int) (xt : Str) (af exprs : List Ex) (names : List Str) (tk ts : Int) (tn : Str) (tl : List Str) (ag : List Ty) (labels : List Str) (kids : List Pr) (A1 : Option Addr) (n1 c1 : Nat) (A2 : Option Addr) (n2 c2 : Nat) (A3 : Option Addr) (n3 c3 : Nat) (A4 : Option Addr) (n4 c4 : Nat) (A5 : Option Addr) (n5 c5 : Nat) (A6 : Option Addr) (n6 c6 : Nat) (A7 : Option Addr) (n7 c7 : Nat) (b : Nat) (w wz : World) {u0 u2 u4 u5 u6 u7 u8 u9 jI jJ jk jl iW iY u16 jc jd je jL mW mX jM jB jG jH jQ jR jS jT jU u32 jV jW jX jY jZ ku kw kz kC kD kE kF kG kH kJ kK kL kM kN kP kQ kR kS kT kU kV kW kX kY kZ lg u64 lh lm lq lu lJ lK lL lM lN lQ lS lT lU lV lW lX lY lZ l9 mf mg mi mr mD mF lD lw mP nP nD oH oI oJ oK oL dE dF dG dH dI dJ dK dL dM dN dO bP bQ bT bU bV bW bY bZ cu cO cZ dh di dw dC dD gJ gK gQ gU gV fO fP fQ fU fV fZ gp gq gu gy gB gG gI eu eF eG eH eP eQ eU eX eY fA fB fC fD fE fF fG fH dS dU dV dW dX dY dZ ed iq iw iy iC iD iE iF iG iH iI iJ iK iL iM iO iP iQ iR iT iU mZ ng sH sJ sK sN sO sQ sS sU sV sW sZ tq tu tC tH tJ tK tN tV tX tY tZ uf ug uh ui uj ul um uo uq ut uu uw : Value} (nx : Str) (hS : (Hy 8 chan name label xk xn xs xv xt af exprs names tk ts tn tl ag labels kids A1 n1 c1 A2 n2 c2 A3 n3 c3 A4 n4 c4 A5 n5 c5 A6 n6 c6 A7 n7 c7 w wz b)) (hf : bF 1048576 (.mk 8 chan name label xk xn xs xv xt af exprs names tk ts tn tl ag labels kids)) (hH : oM (.mk 8 chan name label xk xn xs xv xt af exprs names tk ts tn tl ag labels kids)) (hnl : nx.length ≤ 1000000000000) (R : Str) (HR : Hid (([101,110,100,32] : Str) ++ chan ++ nx = R)) :
  Code.wp Tryz.prog ni (bodyPost Tryz.prog Tryz.f43 (fun e w' => e = .returned (.string ⟨R.toArray⟩) ∧ Below w.heap.size w w')) { tmps:=#[u0,.pointer (some ⟨b,0,none⟩),u2,.string ⟨nx.toArray⟩,u4,u5,u6,u7,u8,u9,jI,jJ,jk,jl,iW,iY,u16,jc,jd,je,jL,mW,mX,jM,jB,jG,jH,jQ,jR,jS,jT,jU,u32,jV,jW,jX,jY,jZ,ku,kw,kz,kC,kD,kE,kF,kG,kH,kJ,kK,kL,kM,kN,kP,kQ,kR,kS,kT,kU,kV,kW,kX,kY,kZ,lg,u64,lh,lm,lq,lu,lJ,lK,lL,lM,lN,lQ,lS,lT,lU,lV,lW,lX,lY,lZ,l9,mf,mg,mi,mr,mD,mF,lD,lw,mP,nP,nD,oH,oI,oJ,oK,oL,dE,dF,dG,dH,dI,dJ,dK,dL,dM,dN,dO,bP,bQ,bT,bU,bV,bW,bY,bZ,cu,cO,cZ,dh,di,dw,dC,dD,gJ,gK,gQ,gU,gV,fO,fP,fQ,fU,fV,fZ,gp,gq,gu,gy,gB,gG,gI,eu,eF,eG,eH,eP,eQ,eU,eX,eY,fA,fB,fC,fD,fE,fF,fG,fH,dS,dU,dV,dW,dX,dY,dZ,ed,iq,iw,iy,iC,iD,iE,iF,iG,iH,iI,iJ,iK,iL,iM,iO,iP,iQ,iR,iT,iU,mZ,ng,sH,sJ,sK,sN,sO,sQ,sS,sU,sV,sW,sZ,tq,tu,tC,tH,tJ,tK,tN,tV,tX,tY,tZ,uf,ug,uh,ui,uj,ul,um,uo,uq,ut,uu,uw],defers:=[] } wz:=by
 have h : ni = Code.seq _ _:=rfl
 rw [h]
 clear h
 have HS:=zH hS
 have HF:=zH hf
 have HH:=zH hH
 obtain ⟨k0,k1,_,_,_,_,_,_,_,_,_,_,_,_,_,_,_,_,_⟩:=hS.bx.mkc
 have z1 : chan.length ≤ 8:=hH.ch
 have z2 : name.length ≤ 8:=hH.nm
 have z3 : label.length ≤ 8:=hH.lb
 clear hS hf hH
 go_wp2_with fail
 go_ret
 exact ⟨by rw [← HR.out]; simp,HS.out.bl⟩
theorem wk_2 (chan name label : Str) (xk : Int) (xn : Str) (xs xv : Int) (xt : Str) (af exprs : List Ex) (names : List Str) (tk ts : Int) (tn : Str) (tl : List Str) (ag : List Ty) (labels : List Str) (kids : List Pr) (A1 : Option Addr) (n1 c1 : Nat) (A2 : Option Addr) (n2 c2 : Nat) (A3 : Option Addr) (n3 c3 : Nat) (A4 : Option Addr) (n4 c4 : Nat) (A5 : Option Addr) (n5 c5 : Nat) (A6 : Option Addr) (n6 c6 : Nat) (A7 : Option Addr) (n7 c7 : Nat) (b : Nat) (w wz : World) {u0 u2 u4 u5 u6 u7 u8 u9 jI jJ jk jl iW iY u16 jc jd je jL mW mX jM jB jG jH jQ jR jS jT jU u32 jV jW jX jY jZ ku kw kz kC kD kE kF kG kH kJ kK kL kM kN kP kQ kR kS kT kU kV kW kX kY kZ lg u64 lh lm lq lu lJ lK lL lM lN lQ lS lT lU lV lW lX lY lZ l9 mf mg mi mr mD mF lD lw mP nP nD oH oI oJ oK oL dE dF dG dH dI dJ dK dL dM dN dO bP bQ bT bU bV bW bY bZ cu cO cZ dh di dw dC dD gJ gK gQ gU gV fO fP fQ fU fV fZ gp gq gu gy gB gG gI eu eF eG eH eP eQ eU eX eY fA fB fC fD fE fF fG fH dS dU dV dW dX dY dZ ed iq iw iy iC iD iE iF iG iH iI iJ iK iL iM iO iP iQ iR iT iU mZ ng sH sJ sK sN sO sQ sS sU sV sW sZ tq tu tC tH tJ tK tN tV tX tY tZ uf ug uh ui uj ul um uo uq ut uu uw : Value} (nx : Str) (hS : (Hy 2 chan name label xk xn xs xv xt af exprs names tk ts tn tl ag labels kids A1 n1 c1 A2 n2 c2 A3 n3 c3 A4 n4 c4 A5 n5 c5 A6 n6 c6 A7 n7 c7 w wz b)) (hf : bF 1048576 (.mk 2 chan name label xk xn xs xv xt af exprs names tk ts tn tl ag labels kids)) (hH : oM (.mk 2 chan name label xk xn xs xv xt af exprs names tk ts tn tl ag labels kids)) (hnl : nx.length ≤ 1000000000000) (R : Str) (HR : Hid (([115,101,110,100,32] : Str) ++ chan ++ [32] ++ ik (.mk xk xn xs xv xt af) ++ nx = R)) :
  Code.wp Tryz.prog ni (bodyPost Tryz.prog Tryz.f43 (fun e w' => e = .returned (.string ⟨R.toArray⟩) ∧ Below w.heap.size w w')) { tmps:=#[u0,.pointer (some ⟨b,0,none⟩),u2,.string ⟨nx.toArray⟩,u4,u5,u6,u7,u8,u9,jI,jJ,jk,jl,iW,iY,u16,jc,jd,je,jL,mW,mX,jM,jB,jG,jH,jQ,jR,jS,jT,jU,u32,jV,jW,jX,jY,jZ,ku,kw,kz,kC,kD,kE,kF,kG,kH,kJ,kK,kL,kM,kN,kP,kQ,kR,kS,kT,kU,kV,kW,kX,kY,kZ,lg,u64,lh,lm,lq,lu,lJ,lK,lL,lM,lN,lQ,lS,lT,lU,lV,lW,lX,lY,lZ,l9,mf,mg,mi,mr,mD,mF,lD,lw,mP,nP,nD,oH,oI,oJ,oK,oL,dE,dF,dG,dH,dI,dJ,dK,dL,dM,dN,dO,bP,bQ,bT,bU,bV,bW,bY,bZ,cu,cO,cZ,dh,di,dw,dC,dD,gJ,gK,gQ,gU,gV,fO,fP,fQ,fU,fV,fZ,gp,gq,gu,gy,gB,gG,gI,eu,eF,eG,eH,eP,eQ,eU,eX,eY,fA,fB,fC,fD,fE,fF,fG,fH,dS,dU,dV,dW,dX,dY,dZ,ed,iq,iw,iy,iC,iD,iE,iF,iG,iH,iI,iJ,iK,iL,iM,iO,iP,iQ,iR,iT,iU,mZ,ng,sH,sJ,sK,sN,sO,sQ,sS,sU,sV,sW,sZ,tq,tu,tC,tH,tJ,tK,tN,tV,tX,tY,tZ,uf,ug,uh,ui,uj,ul,um,uo,uq,ut,uu,uw],defers:=[] } wz:=by
 have h : ni = Code.seq _ _:=rfl
 rw [h]
 clear h
 have HS:=zH hS
 have HF:=zH hf
 have HH:=zH hH
 obtain ⟨k0,k1,_,_,k4,k5,k6,k7,k8,k9,_,_,_,_,_,_,_,_,_⟩:=hS.bx.mkc
 have z1 : chan.length ≤ 8:=hH.ch
 have z2 : name.length ≤ 8:=hH.nm
 have z3 : label.length ≤ 8:=hH.lb
 clear hS hf hH
 obtain ⟨e1,e2,e3,e4,e5,e6,e7,e,q1,q2,q3,q4,q5,q6,q7⟩:=id HS.out.pv
 simp only [Value.agg.injEq,Pr.aN,Pr.aT,Pr.aI,Pr.aW,Pr.jm,Pr.jo,Pr.jq,Pr.jv,Pr.jr,Pr.aY,Pr.aV,Pr.aU,Pr.jg,Pr.ji,Pr.jh,Pr.jA,Pr.aX,Pr.aH,Pr.aK] at e q1 q2 q3 q4 q5 q6 q7
 have e':=congrArg Array.toList e
 simp only [List.cons.injEq,and_true,true_and] at e'
 obtain ⟨Ag,Ah,Ai,Aj,Am,Ap,Aq⟩:=e'
 subst Ag Ah Ai Aj Am Ap Aq
 have hxv : uy All wz (.agg #[.int .i64 xk,.string ⟨xn.toArray⟩,.int .i64 xs,.int .i64 xv,.string ⟨xt.toArray⟩,.slice A1 n1 c1]) (.mk xk xn xs xv xt af):=⟨_,rfl,q1⟩
 have hxe : lF (.mk xk xn xs xv xt af) = 0:=HH.out.ex rfl
 have yY : bI 1048576 (.mk xk xn xs xv xt af):=wM HF.out
 obtain ⟨X,hX⟩ : ∃ x,ik (.mk xk xn xs xv xt af) = x:=⟨_,rfl⟩
 have LM : X.length ≤ 240000000:=by rw [← hX]; exact qj hxe yY
 have HX:=zH hX
 have GG:=zH hxv
 have Gz:=zH hxe
 have E8:=zH yY
 have BB:=zH (And.intro HS.out.tb HS.out.pw)
 rw [hX] at HR
 clear e q1 q2 q3 q4 q5 q6 q7 hX hxv hxe yY
 go_wp2_with fail
 have hb0 : Below wz.heap.size wz wz.drew:=(Below.refl _ _).drew
 have fJ:=zH (fun (wq : World) (hSw : Below wz.heap.size wz wq) => And.intro (ae k1 hSw) (And.intro (ae k4 hSw) (And.intro (ae k5 hSw) (And.intro (ae k6 hSw) (And.intro (ae k7 hSw) (And.intro (ae k8 hSw) (ae k9 hSw)))))))
 refine aC 10 (fun w' : World => Below wz.heap.size wz w') (by kernel_rfl) ?_
 refine zT 0 ?_ rfl (Or.inl ⟨by rfl,?_⟩) hb0 ?_
 rotate_left
 ·(intro wq hSw; obtain ⟨_,_,_,_,_,_,_⟩:=fJ.out wq hSw; go_simp; all_goals first | with_reducible rfl | rw [zI])
 try simp only [zA,zB,zC,Act.put,zD,zE,zF]
 refine zT 1 ?_ rfl (Or.inl ⟨by rfl,?_⟩) hb0 ?_
 rotate_left
 ·(intro wq hSw; obtain ⟨_,_,_,_,_,_,_⟩:=fJ.out wq hSw; go_simp; all_goals first | with_reducible rfl | rw [zI])
 try simp only [zA,zB,zC,Act.put,zD,zE,zF]
 refine zT 2 ?_ rfl (Or.inl ⟨by rfl,?_⟩) hb0 ?_
 rotate_left
 ·(intro wq hSw; obtain ⟨_,_,_,_,_,_,_⟩:=fJ.out wq hSw; go_simp; all_goals first | with_reducible rfl | rw [zI])
 try simp only [zA,zB,zC,Act.put,zD,zE,zF]
 refine zT 3 ?_ rfl (Or.inl ⟨by rfl,?_⟩) hb0 ?_
 rotate_left
 ·(intro wq hSw; obtain ⟨_,_,_,_,_,_,_⟩:=fJ.out wq hSw; go_simp; all_goals first | with_reducible rfl | rw [zI])
 try simp only [zA,zB,zC,Act.put,zD,zE,zF]
 refine zT 4 ?_ rfl (Or.inl ⟨by rfl,?_⟩) hb0 ?_
 rotate_left
 ·(intro wq hSw; obtain ⟨_,_,_,_,_,_,_⟩:=fJ.out wq hSw; go_simp; all_goals first | with_reducible rfl | rw [zI])
 try simp only [zA,zB,zC,Act.put,zD,zE,zF]
 refine zT 5 ?_ rfl (Or.inl ⟨by rfl,?_⟩) hb0 ?_
 rotate_left
 ·(intro wq hSw; obtain ⟨_,_,_,_,_,_,_⟩:=fJ.out wq hSw; go_simp; all_goals first | with_reducible rfl | rw [zI])
 try simp only [zA,zB,zC,Act.put,zD,zE,zF]
 refine zT 8 ?_ rfl (Or.inl ⟨by rfl,?_⟩) hb0 ?_
 rotate_left
 ·(intro wq hSw; obtain ⟨_,_,_,_,_,_,_⟩:=fJ.out wq hSw; go_simp; all_goals first | with_reducible rfl | rw [zI])
 try simp only [zA,zB,zC,Act.put,zD,zE,zF]
 refine zO 6 fun K hK => ?_
 go_simp
 refine Calls.mono (xB (.mk xk xn xs xv xt af) _ wz.drew (GG.out.below hb0) E8.out (BB.out.1.below hb0) (BB.out.2.below hb0) Gz.out) ?_
 rw [HX.out]
 rintro e w2 ⟨rfl,hq⟩
 have hb1:=chain hb0 hq
 clear hq
 refine hK.out _ _ (fun _ => hb1) ?_
 clear hK K
 try simp only [zA,zB,zC,Act.put,zD,zE,zF]
 refine zT 7 ?_ rfl (Or.inl ⟨by rfl,?_⟩) hb1 ?_
 rotate_left
 ·(intro wq hSw; obtain ⟨_,_,_,_,_,_,_⟩:=fJ.out wq hSw; go_simp; all_goals first | with_reducible rfl | rw [zI])
 try simp only [zA,zB,zC,Act.put,zD,zE,zF]
 refine zT 9 ?_ rfl (Or.inl ⟨by rfl,?_⟩) hb1 ?_
 rotate_left
 ·(intro wq hSw; obtain ⟨_,_,_,_,_,_,_⟩:=fJ.out wq hSw; go_simp; all_goals first | with_reducible rfl | rw [zI])
 try simp only [zA,zB,zC,Act.put,zD,zE,zF]
 refine zO 10 fun K hK => ?_
 go_simp
 refine hK.out _ _ (fun h => absurd h (by decide)) ?_
 clear hK K
 try simp only [zA,zB,zC,Act.put,zD,zE,zF]
 refine bf (by kernel_rfl) ?_
 go_wp2_with fail
 go_ret
 exact ⟨by rw [← HR.out]; simp,(HS.out.next hb1).bl⟩
theorem wk_7 (chan name label : Str) (xk : Int) (xn : Str) (xs xv : Int) (xt : Str) (af exprs : List Ex) (names : List Str) (tk ts : Int) (tn : Str) (tl : List Str) (ag : List Ty) (labels : List Str) (kids : List Pr) (A1 : Option Addr) (n1 c1 : Nat) (A2 : Option Addr) (n2 c2 : Nat) (A3 : Option Addr) (n3 c3 : Nat) (A4 : Option Addr) (n4 c4 : Nat) (A5 : Option Addr) (n5 c5 : Nat) (A6 : Option Addr) (n6 c6 : Nat) (A7 : Option Addr) (n7 c7 : Nat) (b : Nat) (m : Nat) (ih : Jg m) (hm : bG (.mk 7 chan name label xk xn xs xv xt af exprs names tk ts tn tl ag labels kids) ≤ m + 1) (hm2 : bG (.mk 7 chan name label xk xn xs xv xt af exprs names tk ts tn tl ag labels kids) ≤ 200) (hg : pq (.mk 7 chan name label xk xn xs xv xt af exprs names tk ts tn tl ag labels kids)) (w wz : World) {u0 u2 u4 u5 u6 u7 u8 u9 jI jJ jk jl iW iY u16 jc jd je jL mW mX jM jB jG jH jQ jR jS jT jU u32 jV jW jX jY jZ ku kw kz kC kD kE kF kG kH kJ kK kL kM kN kP kQ kR kS kT kU kV kW kX kY kZ lg u64 lh lm lq lu lJ lK lL lM lN lQ lS lT lU lV lW lX lY lZ l9 mf mg mi mr mD mF lD lw mP nP nD oH oI oJ oK oL dE dF dG dH dI dJ dK dL dM dN dO bP bQ bT bU bV bW bY bZ cu cO cZ dh di dw dC dD gJ gK gQ gU gV fO fP fQ fU fV fZ gp gq gu gy gB gG gI eu eF eG eH eP eQ eU eX eY fA fB fC fD fE fF fG fH dS dU dV dW dX dY dZ ed iq iw iy iC iD iE iF iG iH iI iJ iK iL iM iO iP iQ iR iT iU mZ ng sH sJ sK sN sO sQ sS sU sV sW sZ tq tu tC tH tJ tK tN tV tX tY tZ uf ug uh ui uj ul um uo uq ut uu uw : Value} (nx : Str) (hS : (Hy 7 chan name label xk xn xs xv xt af exprs names tk ts tn tl ag labels kids A1 n1 c1 A2 n2 c2 A3 n3 c3 A4 n4 c4 A5 n5 c5 A6 n6 c6 A7 n7 c7 w wz b)) (hf : bF 1048576 (.mk 7 chan name label xk xn xs xv xt af exprs names tk ts tn tl ag labels kids)) (hH : oM (.mk 7 chan name label xk xn xs xv xt af exprs names tk ts tn tl ag labels kids)) (hnl : nx.length ≤ 1000000000000) (R : Str) (HR : Hid (([99,97,115,101,32] : Str) ++ chan ++ [32,123] ++ bn comma (List.zipWith (fun (l : Str) (k : Str) => l ++ [58,32] ++ k) labels (kids.map lC)) ++ [125] = R)) :
  Code.wp Tryz.prog ni (bodyPost Tryz.prog Tryz.f43 (fun e w' => e = .returned (.string ⟨R.toArray⟩) ∧ Below w.heap.size w w')) { tmps:=#[u0,.pointer (some ⟨b,0,none⟩),u2,.string ⟨nx.toArray⟩,u4,u5,u6,u7,u8,u9,jI,jJ,jk,jl,iW,iY,u16,jc,jd,je,jL,mW,mX,jM,jB,jG,jH,jQ,jR,jS,jT,jU,u32,jV,jW,jX,jY,jZ,ku,kw,kz,kC,kD,kE,kF,kG,kH,kJ,kK,kL,kM,kN,kP,kQ,kR,kS,kT,kU,kV,kW,kX,kY,kZ,lg,u64,lh,lm,lq,lu,lJ,lK,lL,lM,lN,lQ,lS,lT,lU,lV,lW,lX,lY,lZ,l9,mf,mg,mi,mr,mD,mF,lD,lw,mP,nP,nD,oH,oI,oJ,oK,oL,dE,dF,dG,dH,dI,dJ,dK,dL,dM,dN,dO,bP,bQ,bT,bU,bV,bW,bY,bZ,cu,cO,cZ,dh,di,dw,dC,dD,gJ,gK,gQ,gU,gV,fO,fP,fQ,fU,fV,fZ,gp,gq,gu,gy,gB,gG,gI,eu,eF,eG,eH,eP,eQ,eU,eX,eY,fA,fB,fC,fD,fE,fF,fG,fH,dS,dU,dV,dW,dX,dY,dZ,ed,iq,iw,iy,iC,iD,iE,iF,iG,iH,iI,iJ,iK,iL,iM,iO,iP,iQ,iR,iT,iU,mZ,ng,sH,sJ,sK,sN,sO,sQ,sS,sU,sV,sW,sZ,tq,tu,tC,tH,tJ,tK,tN,tV,tX,tY,tZ,uf,ug,uh,ui,uj,ul,um,uo,uq,ut,uu,uw],defers:=[] } wz:=by
 have h : ni = Code.seq _ _:=rfl
 rw [h]
 clear h
 have HS:=zH hS
 have HF:=zH hf
 have HH:=zH hH
 obtain ⟨k0,k1,_,_,_,_,_,_,_,_,_,_,_,_,_,_,_,k17,k18⟩:=hS.bx.mkc
 have z1 : chan.length ≤ 8:=hH.ch
 have z2 : name.length ≤ 8:=hH.nm
 have z3 : label.length ≤ 8:=hH.lb
 clear hS hf hH
 obtain ⟨e1,e2,e3,e4,e5,e6,e7,e,q1,q2,q3,q4,q5,q6,q7⟩:=id HS.out.pv
 simp only [Value.agg.injEq,Pr.aN,Pr.aT,Pr.aI,Pr.aW,Pr.jm,Pr.jo,Pr.jq,Pr.jv,Pr.jr,Pr.aY,Pr.aV,Pr.aU,Pr.jg,Pr.ji,Pr.jh,Pr.jA,Pr.aX,Pr.aH,Pr.aK] at e q1 q2 q3 q4 q5 q6 q7
 have e':=congrArg Array.toList e
 simp only [List.cons.injEq,and_true,true_and] at e'
 obtain ⟨Ag,Ah,Ai,Aj,Am,Ap,Aq⟩:=e'
 subst Ag Ah Ai Aj Am Ap Aq
 have G5 : n7 = kids.length:=by obtain ⟨_,_,e,-⟩:=q7; injection e
 have D7 : n6 = labels.length:=by obtain ⟨_,_,e,-⟩:=q6; injection e
 have hkl : kids.length = labels.length:=HH.out.kids
 have hls:=HH.out.ls
 have IJ:=HH.out.l8
 simp only [Pr.aH] at hls IJ
 have hkk : ∀ k ∈ kids,(lC k).length ≤ 400000000000:=by
  intro k hk
  have h1:=rM k (hg.kid k hk) (HF.out.kid k hk)
  have h2:=uZ hk
  have h3 : 1 + oG kids ≤ 200:=hm2
  omega
 have hkp : ∀ k ∈ kids,bG k ≤ m ∧ bG k ≤ 200:=by
  intro k hk
  have h2:=uZ hk
  have h3 : 1 + oG kids ≤ 200:=hm2
  have h4 : 1 + oG kids ≤ m + 1:=hm
  omega
 have hkg : ∀ k ∈ kids,pq k ∧ bF 1048576 k:=fun k hk => ⟨hg.kid k hk,HF.out.kid k hk⟩
 obtain ⟨P,hP⟩ : ∃ x,List.zipWith (fun (l : Str) (k : Str) => l ++ [58,32] ++ k) labels (kids.map lC) = x:=⟨_,rfl⟩
 have GY : ∀ (i : Nat) (l : Str) (k : Pr),labels[i]? = some l → kids[i]? = some k → P[i]? = some (l ++ [58,32] ++ lC k):=by
  intro i l k h1 h2
  rw [← hP,List.getElem?_zipWith,h1,List.getElem?_map,h2]
  rfl
 have hPl : P.length = n7:=by rw [← hP,List.length_zipWith,List.length_map,G5,hkl,Nat.min_self]
 have DV : ∀ s ∈ P,s.length ≤ 400000000100:=by
  intro s hs
  obtain ⟨i,hi⟩:=List.mem_iff_getElem?.1 hs
  have hil : i < P.length:=(List.getElem?_eq_some_iff.1 hi).1
  have h1:=List.getElem?_eq_getElem (l:=labels) (show i < labels.length by omega)
  have h2:=List.getElem?_eq_getElem (l:=kids) (show i < kids.length by omega)
  rw [GY i _ _ h1 h2] at hi
  have:=Option.some.inj hi
  have h3:=IJ _ (List.mem_iff_getElem?.2 ⟨i,h1⟩)
  have h4:=hkk _ (List.mem_iff_getElem?.2 ⟨i,h2⟩)
  rw [← this]
  simp only [zG,zJ,zK]
  omega
 have Jv:=nN (sep:=comma) (l:=P) (B:=400000000100) DV
 have hcl : comma.length = 2:=rfl
 rw [hcl] at Jv
 rw [hP] at HR
 obtain ⟨JE,EI⟩ : ∃ x,bn comma P = x:=⟨_,rfl⟩
 have hn7l : n7 ≤ 6:=by omega
 have hn67 : n6 = n7:=by omega
 have Oq : JE.length ≤ 3000000000000:=by rw [← EI]; omega
 rw [EI] at HR
 have DU:=zH hPl
 have NY:=zH GY
 have I4:=zH EI
 have Bo:=zH G5
 have Pg:=zH hkl
 have Tn:=zH IJ
 have HKK:=zH (And.intro hkk (And.intro hkp hkg))
 have MX:=zH q7
 have HLB : Hid (aF wz (.slice A6 n6 c6) labels):=zH q6.is
 have Hu:=zH D7
 have HIH:=zH ih
 have BB:=zH (And.intro HS.out.tb HS.out.pw)
 have N7:=zH HS.out.so
 have hbz : b < wz.heap.size:=HS.out.bx.lt
 clear e q1 q2 q3 q4 q5 q6 q7 hP DV EI G5 D7 hkl hls IJ hkk hkp hkg Jv hcl hPl GY ih hm hm2 hg
 have K1:=zH k1
 have TG:=zH k17
 have UC:=zH k18
 go_wp2_with fail
 obtain ⟨N,hN⟩ : ∃ N,wz.heap.size = N:=⟨_,rfl⟩
 have Gn:=zH hN
 have hbN : b < N:=by omega
 clear hN
 go_loopw [6,167] (fun lv iv wr => ∃ (k : Nat),k ≤ n7 ∧ iv = .int .i64 k ∧ Hid (wr.ownsRow N 9 1 lv k ((P.take k).map fun s => .string ⟨s.toArray⟩)) ∧ Hid (Below wz.heap.size wz wr)) (fun _ iv _ => n7 - (intOf iv).toNat)
 case atStart => exact ⟨0,by omega,rfl,zH (World.ownsRow_nil _ _ _ _),zH (Below.refl _ _)⟩
 case round =>
  obtain ⟨k,hk,rfl,HOWN,qF⟩:=hrel
  obtain ⟨Av,cv,rfl⟩:=bg HOWN.out
  have MC : N ≤ wr.heap.size:=by rw [← Gn.out]; exact qF.out.size
  by_cases hlt : k < n7
  ·obtain ⟨c,hc'⟩ : ∃ y,kids[k]? = some y:=⟨_,List.getElem?_eq_getElem (by have:=Bo.out; omega)⟩
   obtain ⟨l,hl'⟩ : ∃ y,labels[k]? = some y:=⟨_,List.getElem?_eq_getElem (by have:=Bo.out; have:=Pg.out; omega)⟩
   have yz:=NY.out k l c hl' hc'
   have hll:=Tn.out l (az hl')
   obtain ⟨A',cap',e,hle,-,hrow⟩:=MX.out.below qF.out
   injection e with e1 e2 e3
   subst e1 e3
   obtain ⟨b',off,rfl,-,hrow⟩:=hrow (by have:=Bo.out; omega)
   obtain ⟨cs,hrg,hcs⟩:=(zo hrow hc').range
   have hcl:=hcs.len
   have hkc:=HKK.out
   have Gv : Hid ((lC c).length ≤ 400000000000 ∧ (bG c ≤ m ∧ bG c ≤ 200) ∧ (pq c ∧ bF 1048576 c)):=⟨hkc.1 c (az hc'),hkc.2.1 c (az hc'),hkc.2.2 c (az hc')⟩
   obtain ⟨Al,capl,el,hlc,wB⟩:=HLB.out
   injection el with el1 el2 el3
   subst el1 el3
   obtain ⟨lb,lo,rfl,hlr⟩:=wB (by have:=Bo.out; have:=Pg.out; omega)
   have xI:=hlr k l hl'
   have OG : lb < N:=by rw [← Gn.out]; exact cell_lt xI
   have TW:=(qF.out.cell (p:=⟨lb,lo + k,none⟩) (cell_lt xI)).trans xI
   have QQ:=ae TG.out qF.out
   obtain ⟨T,hT⟩ : ∃ x,lC c = x:=⟨_,rfl⟩
   have htl : T.length ≤ 400000000000:=by rw [← hT]; exact Gv.out.1
   rw [hT] at yz
   have HT:=zH hT
   have Ja:=zH yz
   have DN:=zH hrg
   have NJ:=zH hcs
   have NV:=zH hcs.one
   have LP : n7 ≤ c7:=by have:=Bo.out; omega
   have hc6 : n6 ≤ c6:=by have:=Hu.out; omega
   clear hkc hT yz hrg hcs hrow wB hlr xI hc' hl' hle e2 hlc el2
   go_wp2_with (first | (refine jb DN.out hcl rfl (.tmp 170) rfl rfl ?_) | (refine wY (rZ _ _ _ _ rfl) rfl hcl NV.out rfl (.tmp 8) (.tmp 171) rfl rfl rfl ?_; intro wa hbx hbel; have hbW:=hbel _ _ (Nat.le_refl _) ((Below.refl wr.heap.size wr).alloc (Nat.le_refl _) _); have zY:=zH hbx; have DL:=zH hbW; clear hbx hbel hbW))
   have ka17:=ae QQ DL.out
   have kal:=(DL.out.cell (p:=⟨lb,lo + k,none⟩) (cell_lt TW)).trans TW
   have hxlt:=zY.out.lt
   have TR : ∀ w' : World,Below wa.heap.size wa w' → (fun w' : World => Below N wa w' ∧ w'.rangeAt wr.heap.size 0 cs) w':=fun w' h => ⟨h.mono (by omega),nH h hxlt zY.out.rg⟩
   have bC:=zH (TR wa.drew (Below.refl _ _).drew)
   have jE:=zH TR
   clear TR QQ TW
   have hne : some wr.heap.size ≠ (Value.slice Av k cv).ownBlock:=fun e => by
    obtain ⟨h1,h2⟩:=HOWN.out.lt _ e.symm
    omega
   have fJ:=zH (fun (wq : World) (hSw : Below N wa wq ∧ wq.rangeAt wr.heap.size 0 cs) => And.intro ((hSw.1.cell (p:=⟨b,17,none⟩) hbN).trans ka17) ((hSw.1.cell (p:=⟨lb,lo + k,none⟩) OG).trans kal))
   refine aC 12 (fun w' : World => Below N wa w' ∧ w'.rangeAt wr.heap.size 0 cs) (by kernel_rfl) ?_
   refine zT 0 ?_ rfl (Or.inl ⟨by rfl,?_⟩) bC.out ?_
   rotate_left
   ·(intro wq hSw; obtain ⟨_,_⟩:=fJ.out wq hSw; go_simp; all_goals first | with_reducible rfl | rw [zI])
   try simp only [zA,zB,zC,Act.put,zD,zE,zF]
   refine zT 1 ?_ rfl (Or.inl ⟨by rfl,?_⟩) bC.out ?_
   rotate_left
   ·(intro wq hSw; obtain ⟨_,_⟩:=fJ.out wq hSw; go_simp; all_goals first | with_reducible rfl | rw [zI])
   try simp only [zA,zB,zC,Act.put,zD,zE,zF]
   refine zT 2 ?_ rfl (Or.inl ⟨by rfl,?_⟩) bC.out ?_
   rotate_left
   ·(intro wq hSw; obtain ⟨_,_⟩:=fJ.out wq hSw; go_simp; all_goals first | with_reducible rfl | rw [zI])
   try simp only [zA,zB,zC,Act.put,zD,zE,zF]
   refine zT 3 ?_ rfl (Or.inl ⟨by rfl,?_⟩) bC.out ?_
   rotate_left
   ·(intro wq hSw; obtain ⟨_,_⟩:=fJ.out wq hSw; go_simp; all_goals first | with_reducible rfl | rw [zI])
   try simp only [zA,zB,zC,Act.put,zD,zE,zF]
   refine zT 4 ?_ rfl (Or.inl ⟨by rfl,?_⟩) bC.out ?_
   rotate_left
   ·(intro wq hSw; obtain ⟨_,_⟩:=fJ.out wq hSw; go_simp; all_goals first | with_reducible rfl | rw [zI])
   try simp only [zA,zB,zC,Act.put,zD,zE,zF]
   refine zT 5 ?_ rfl (Or.inl ⟨by rfl,?_⟩) bC.out ?_
   rotate_left
   ·(intro wq hSw; obtain ⟨_,_⟩:=fJ.out wq hSw; go_simp; all_goals first | with_reducible rfl | rw [zI])
   try simp only [zA,zB,zC,Act.put,zD,zE,zF]
   refine zT 6 ?_ rfl (Or.inl ⟨by rfl,?_⟩) bC.out ?_
   rotate_left
   ·(intro wq hSw; obtain ⟨_,_⟩:=fJ.out wq hSw; go_simp; all_goals first | with_reducible rfl | rw [zI])
   try simp only [zA,zB,zC,Act.put,zD,zE,zF]
   refine zT 7 (.agg cs.toArray) rfl (yieldsIf_load_mid (by rfl) 85 (.tmp 8) rfl _ _ rfl cs _ (fun w' hw' => hw'.2) Tryz.underlying85 rfl (by rw [hcl]; kernel_rfl)) bC.out ?_
   try simp only [zA,zB,zC,Act.put,zD,zE,zF]
   refine zO 8 fun K hK => ?_
   go_simp
   refine Calls.mono (HIH.out c (.agg cs.toArray) wa.drew Gv.out.2.1.1 Gv.out.2.1.2 (NJ.out.keep (Same.below (Below.drew DL.out)) (fun _ h _ => h)) Gv.out.2.2.2 Gv.out.2.2.1 (BB.out.1.below (Below.drew (chain qF.out DL.out))) (BB.out.2.below (Below.drew (chain qF.out DL.out))) (N7.out.keep (Below.drew (chain qF.out DL.out)))) ?_
   rw [HT.out]
   rintro e w1 ⟨rfl,hq⟩
   have xE : Below wa.heap.size wa w1:=chain (Below.refl wa.heap.size wa).drew hq
   have hb1 : Below wr.heap.size wr w1:=chain DL.out xE
   have hs1:=hb1.size
   have hs2:=xE.size
   clear hq
   refine hK.out _ _ (fun _ => jE.out _ xE) ?_
   clear hK K
   try simp only [zA,zB,zC,Act.put,zD,zE,zF]
   refine zT 9 ?_ rfl (Or.inl ⟨by rfl,?_⟩) (jE.out _ xE) ?_
   rotate_left
   ·(intro wq hSw; obtain ⟨_,_⟩:=fJ.out wq hSw; go_simp; all_goals first | with_reducible rfl | rw [zI])
   try simp only [zA,zB,zC,Act.put,zD,zE,zF]
   refine zO 10 fun K hK => ?_
   go_simp
   have hsA:=Below.trans xE ((Below.refl _ w1).alloc hs2 (.cells #[.string ⟨(l ++ 58 :: 32 :: T).toArray⟩] 9))
   have Bz : Below N wr (w1.alloc (.cells #[.string ⟨(l ++ 58 :: 32 :: T).toArray⟩] 9)):=(hb1.mono MC).alloc (by omega) _
   refine hK.out _ _ (fun _ => jE.out _ hsA) ?_
   clear hK K
   try simp only [zA,zB,zC,Act.put,zD,zE,zF]
   refine zO 11 fun K hK => ?_
   refine o5 nO rfl (.tmp 172) (.tmp 182) rfl N (.slice Av k cv) k _ rfl ((qI HOWN.out hb1 (Nat.le_refl _)).alloc _) ⟨w1.heap.size,0,none⟩ 1 1 [.string ⟨(l ++ 58 :: 32 :: T).toArray⟩] rfl rfl (cell_one_new _ _ _) (by simp [Value.oneCell']) (by unfold maxLen; omega) (by omega) (by rw [World.size_alloc]; omega) (fun v' w3 n1' n2' n3' n4' => ?_)
   obtain ⟨Aw,Ir,rfl⟩:=bg n1'
   have hb3:=Bz.trans n4'
   have QI : Below N wa w3:=(hsA.mono (by omega)).trans n4'
   have hrw3 : w3.rangeAt wr.heap.size 0 cs:=yI n2' (by rw [World.size_alloc]; omega) hne ((jE.out _ hsA).2)
   refine hK.out _ _ (fun _ => ⟨QI,hrw3⟩) ?_
   clear hK K
   try simp only [zA,zB,zC,Act.put,zD,zE,zF]
   refine zO 12 fun K hK => ?_
   go_simp
   refine hK.out _ _ (fun h => absurd h (by decide)) ?_
   clear hK K
   try simp only [zA,zB,zC,Act.put,zD,zE,zF]
   refine bf (by kernel_rfl) ?_
   have FM : Below wz.heap.size wz w3:=qF.out.trans (by rw [Gn.out]; exact hb3)
   have HB3:=zH FM
   have I8:=zH n1'
   clear jE bC n1' n2' n3' n4' hb3 FM QI hrw3
   go_wp2_with fail
   go_roundw
   case rel =>
    refine ⟨k + 1,by omega,by go_num,zH ?_,HB3⟩
    rw [List.take_add_one,Ja.out]
    simpa using I8.out
   case measure => simp [intOf]; omega
  ·have hkn : k = n7:=by omega
   subst hkn
   have hpv : aF wr (.slice Av k cv) P:=by
    have h1:=HOWN.out
    rw [List.take_of_length_le (by rw [DU.out]; exact Nat.le_refl _)] at h1
    have h2 : wr.ownsRow N 9 1 (.slice Av k cv) P.length (P.map fun s => .string ⟨s.toArray⟩):=by rw [DU.out]; exact h1
    exact (uX (D:=All) h2 fun _ _ => trivial).is
   have Ip:=zH hpv
   have r1:=ae K1.out qF.out
   clear hpv k0 k1 k17 k18
   go_wp2_with fail
   have hc0 : Below wr.heap.size wr wr.drew:=(Below.refl _ _).drew
   have BX:=zH (fun (wq : World) (hSw : Below wr.heap.size wr wq) => ae r1 hSw)
   refine aC 8 (fun w' : World => Below wr.heap.size wr w') (by kernel_rfl) ?_
   refine zT 0 ?_ rfl (Or.inl ⟨by rfl,?_⟩) hc0 ?_
   rotate_left
   ·(intro wq hSw; have:=BX.out wq hSw; go_simp; all_goals first | with_reducible rfl | rw [zI])
   try simp only [zA,zB,zC,Act.put,zD,zE,zF]
   refine zT 1 ?_ rfl (Or.inl ⟨by rfl,?_⟩) hc0 ?_
   rotate_left
   ·(intro wq hSw; have:=BX.out wq hSw; go_simp; all_goals first | with_reducible rfl | rw [zI])
   try simp only [zA,zB,zC,Act.put,zD,zE,zF]
   refine zT 2 ?_ rfl (Or.inl ⟨by rfl,?_⟩) hc0 ?_
   rotate_left
   ·(intro wq hSw; have:=BX.out wq hSw; go_simp; all_goals first | with_reducible rfl | rw [zI])
   try simp only [zA,zB,zC,Act.put,zD,zE,zF]
   refine zT 3 ?_ rfl (Or.inl ⟨by rfl,?_⟩) hc0 ?_
   rotate_left
   ·(intro wq hSw; have:=BX.out wq hSw; go_simp; all_goals first | with_reducible rfl | rw [zI])
   try simp only [zA,zB,zC,Act.put,zD,zE,zF]
   refine zT 4 ?_ rfl (Or.inl ⟨by rfl,?_⟩) hc0 ?_
   rotate_left
   ·(intro wq hSw; have:=BX.out wq hSw; go_simp; all_goals first | with_reducible rfl | rw [zI])
   try simp only [zA,zB,zC,Act.put,zD,zE,zF]
   refine zO 5 fun K hK => ?_
   go_simp
   refine Calls.mono (zL _ P comma wr.drew (Ip.out.keep hc0) (by have:=DU.out; omega) (by rw [I4.out]; omega)) ?_
   rw [I4.out]
   rintro e x2 ⟨rfl,hq⟩
   have hc1:=chain hc0 hq
   clear hq
   refine hK.out _ _ (fun _ => hc1) ?_
   clear hK K
   try simp only [zA,zB,zC,Act.put,zD,zE,zF]
   refine zT 6 ?_ rfl (Or.inl ⟨by rfl,?_⟩) hc1 ?_
   rotate_left
   ·(intro wq hSw; have:=BX.out wq hSw; go_simp; all_goals first | with_reducible rfl | rw [zI])
   try simp only [zA,zB,zC,Act.put,zD,zE,zF]
   refine zT 7 ?_ rfl (Or.inl ⟨by rfl,?_⟩) hc1 ?_
   rotate_left
   ·(intro wq hSw; have:=BX.out wq hSw; go_simp; all_goals first | with_reducible rfl | rw [zI])
   try simp only [zA,zB,zC,Act.put,zD,zE,zF]
   refine zO 8 fun K hK => ?_
   go_simp
   refine hK.out _ _ (fun h => absurd h (by decide)) ?_
   clear hK K
   try simp only [zA,zB,zC,Act.put,zD,zE,zF]
   refine bf (by kernel_rfl) ?_
   go_wp2_with fail
   go_ret
   exact ⟨by rw [← HR.out]; simp,(HS.out.next (chain qF.out hc1)).bl⟩
theorem wk_9 (chan name label : Str) (xk : Int) (xn : Str) (xs xv : Int) (xt : Str) (af exprs : List Ex) (names : List Str) (tk ts : Int) (tn : Str) (tl : List Str) (ag : List Ty) (labels : List Str) (kids : List Pr) (A1 : Option Addr) (n1 c1 : Nat) (A2 : Option Addr) (n2 c2 : Nat) (A3 : Option Addr) (n3 c3 : Nat) (A4 : Option Addr) (n4 c4 : Nat) (A5 : Option Addr) (n5 c5 : Nat) (A6 : Option Addr) (n6 c6 : Nat) (A7 : Option Addr) (n7 c7 : Nat) (b : Nat) (m : Nat) (ih : Jg m) (hm : bG (.mk 9 chan name label xk xn xs xv xt af exprs names tk ts tn tl ag labels kids) ≤ m + 1) (hm2 : bG (.mk 9 chan name label xk xn xs xv xt af exprs names tk ts tn tl ag labels kids) ≤ 200) (hg : pq (.mk 9 chan name label xk xn xs xv xt af exprs names tk ts tn tl ag labels kids)) (w wz : World) {u0 u2 u4 u5 u6 u7 u8 u9 jI jJ jk jl iW iY u16 jc jd je jL mW mX jM jB jG jH jQ jR jS jT jU u32 jV jW jX jY jZ ku kw kz kC kD kE kF kG kH kJ kK kL kM kN kP kQ kR kS kT kU kV kW kX kY kZ lg u64 lh lm lq lu lJ lK lL lM lN lQ lS lT lU lV lW lX lY lZ l9 mf mg mi mr mD mF lD lw mP nP nD oH oI oJ oK oL dE dF dG dH dI dJ dK dL dM dN dO bP bQ bT bU bV bW bY bZ cu cO cZ dh di dw dC dD gJ gK gQ gU gV fO fP fQ fU fV fZ gp gq gu gy gB gG gI eu eF eG eH eP eQ eU eX eY fA fB fC fD fE fF fG fH dS dU dV dW dX dY dZ ed iq iw iy iC iD iE iF iG iH iI iJ iK iL iM iO iP iQ iR iT iU mZ ng sH sJ sK sN sO sQ sS sU sV sW sZ tq tu tC tH tJ tK tN tV tX tY tZ uf ug uh ui uj ul um uo uq ut uu uw : Value} (nx : Str) (hS : (Hy 9 chan name label xk xn xs xv xt af exprs names tk ts tn tl ag labels kids A1 n1 c1 A2 n2 c2 A3 n3 c3 A4 n4 c4 A5 n5 c5 A6 n6 c6 A7 n7 c7 w wz b)) (hf : bF 1048576 (.mk 9 chan name label xk xn xs xv xt af exprs names tk ts tn tl ag labels kids)) (hH : oM (.mk 9 chan name label xk xn xs xv xt af exprs names tk ts tn tl ag labels kids)) (hnl : nx.length ≤ 1000000000000) (R : Str) (HR : Hid (([115,112,97,119,110,32] : Str) ++ chan ++ [58] ++ txt (.mk tk ts tn tl ag) ++ [32,40] ++ bn comma names ++ [41,32,123] ++ lC (kids.headD xY) ++ [125] ++ nx = R)) :
  Code.wp Tryz.prog ni (bodyPost Tryz.prog Tryz.f43 (fun e w' => e = .returned (.string ⟨R.toArray⟩) ∧ Below w.heap.size w w')) { tmps:=#[u0,.pointer (some ⟨b,0,none⟩),u2,.string ⟨nx.toArray⟩,u4,u5,u6,u7,u8,u9,jI,jJ,jk,jl,iW,iY,u16,jc,jd,je,jL,mW,mX,jM,jB,jG,jH,jQ,jR,jS,jT,jU,u32,jV,jW,jX,jY,jZ,ku,kw,kz,kC,kD,kE,kF,kG,kH,kJ,kK,kL,kM,kN,kP,kQ,kR,kS,kT,kU,kV,kW,kX,kY,kZ,lg,u64,lh,lm,lq,lu,lJ,lK,lL,lM,lN,lQ,lS,lT,lU,lV,lW,lX,lY,lZ,l9,mf,mg,mi,mr,mD,mF,lD,lw,mP,nP,nD,oH,oI,oJ,oK,oL,dE,dF,dG,dH,dI,dJ,dK,dL,dM,dN,dO,bP,bQ,bT,bU,bV,bW,bY,bZ,cu,cO,cZ,dh,di,dw,dC,dD,gJ,gK,gQ,gU,gV,fO,fP,fQ,fU,fV,fZ,gp,gq,gu,gy,gB,gG,gI,eu,eF,eG,eH,eP,eQ,eU,eX,eY,fA,fB,fC,fD,fE,fF,fG,fH,dS,dU,dV,dW,dX,dY,dZ,ed,iq,iw,iy,iC,iD,iE,iF,iG,iH,iI,iJ,iK,iL,iM,iO,iP,iQ,iR,iT,iU,mZ,ng,sH,sJ,sK,sN,sO,sQ,sS,sU,sV,sW,sZ,tq,tu,tC,tH,tJ,tK,tN,tV,tX,tY,tZ,uf,ug,uh,ui,uj,ul,um,uo,uq,ut,uu,uw],defers:=[] } wz:=by
 have h : ni = Code.seq _ _:=rfl
 rw [h]
 clear h
 have HS:=zH hS
 have HF:=zH hf
 have HH:=zH hH
 obtain ⟨k0,k1,_,_,_,_,_,_,_,_,_,k11,k12,k13,k14,k15,k16,_,k18⟩:=hS.bx.mkc
 have z1 : chan.length ≤ 8:=hH.ch
 have z2 : name.length ≤ 8:=hH.nm
 have z3 : label.length ≤ 8:=hH.lb
 clear hS hf hH
 obtain ⟨e1,e2,e3,e4,e5,e6,e7,e,q1,q2,q3,q4,q5,q6,q7⟩:=id HS.out.pv
 simp only [Value.agg.injEq,Pr.aN,Pr.aT,Pr.aI,Pr.aW,Pr.jm,Pr.jo,Pr.jq,Pr.jv,Pr.jr,Pr.aY,Pr.aV,Pr.aU,Pr.jg,Pr.ji,Pr.jh,Pr.jA,Pr.aX,Pr.aH,Pr.aK] at e q1 q2 q3 q4 q5 q6 q7
 have e':=congrArg Array.toList e
 simp only [List.cons.injEq,and_true,true_and] at e'
 obtain ⟨Ag,Ah,Ai,Aj,Am,Ap,Aq⟩:=e'
 subst Ag Ah Ai Aj Am Ap Aq
 have hp:=HF.out.parts
 simp only [Pr.aN,Pr.aT,Pr.aI,Pr.aW,Pr.jm,Pr.jo,Pr.jq,Pr.jv,Pr.jr,Pr.aY,Pr.aV,Pr.aU,Pr.jg,Pr.ji,Pr.jh,Pr.jA,Pr.aX,Pr.aH,Pr.aK] at hp
 have QP : Fit (.mk tk ts tn tl ag):=.mk _ _ _ _ _ hp.2.2.2.2.2.2.2.2.2.2.2.2.2.2.2.1 hp.2.2.2.2.2.2.2.2.2.2.2.2.2.2.2.2.1 (Nat.le_trans hp.2.2.2.2.2.2.2.2.2.2.2.2.2.2.2.2.2.1 (by unfold maxLen; omega)) (Nat.le_trans hp.2.2.2.2.2.2.2.2.2.2.2.2.2.2.2.2.2.2.1 (by unfold maxLen; omega)) (fun l hl => Nat.le_trans (hp.2.2.2.2.2.2.2.2.2.2.2.2.2.2.2.2.2.2.2.1 l hl) (by unfold maxLen; omega)) (Nat.le_trans hp.2.2.2.2.2.2.2.2.2.2.2.2.2.2.2.2.2.2.2.2.1 (by unfold maxLen; omega)) hp.2.2.2.2.2.2.2.2.2.2.2.2.2.2.2.2.2.2.2.2.2.1
 have hye : pg (.mk tk ts tn tl ag) = 0:=HH.out.ty rfl
 have hyv : ny wz (.agg #[.int .i64 tk,.int .i64 ts,.string ⟨tn.toArray⟩,.slice A4 n4 c4,.slice A5 n5 c5]) (.mk tk ts tn tl ag):=⟨_,_,rfl,q4.is,q5.is⟩
 have QH : aF wz (.slice A3 n3 c3) names:=q3.is
 have D7:=HH.out.ns
 have hjl:=nN (sep:=comma) (l:=names) (B:=8) HH.out.n8
 have hcl : comma.length = 2:=rfl
 rw [hcl] at hjl
 simp only [Pr.aU] at D7
 obtain ⟨Y,hY⟩ : ∃ x,txt (.mk tk ts tn tl ag) = x:=⟨_,rfl⟩
 obtain ⟨J,hJ⟩ : ∃ x,bn comma names = x:=⟨_,rfl⟩
 have hYl : Y.length ≤ 6000:=by rw [← hY]; exact AP hye
 have hJl : J.length ≤ 60:=by rw [← hJ]; omega
 have HY:=zH hY
 have HJ:=zH hJ
 have PY:=zH hyv
 have TE:=zH hye
 have UB:=zH QP
 have L6:=zH (And.intro QH D7)
 have BB:=zH (And.intro HS.out.tb HS.out.pw)
 rw [hY,hJ] at HR
 clear e q1 q2 q3 q4 q5 q6 hY hJ hyv hye QP QH D7 hjl hcl hp
 obtain ⟨ka,kb,rfl⟩ : ∃ a b,kids = [a,b]:=by
  have : kids.length = 2:=HH.out.kids
  match kids,this with
  | [a,b],_ => exact ⟨a,b,rfl⟩
 obtain ⟨A7',c7',TJ,LP,-,hrow⟩:=id q7
 injection TJ with P7 P8 P9
 subst P7 P8 P9
 obtain ⟨bk,off,rfl,-,hrow⟩:=hrow (by simp)
 simp only [qR] at hrow
 obtain ⟨Og,hra,hca⟩:=hrow.1.range
 obtain ⟨Su,hrb,hcb⟩:=hrow.2.1.range
 have hla:=hca.len
 have hlb:=hcb.len
 have hlt : bk < wz.heap.size:=wS hra (by omega)
 have hga : pq ka:=hg.kid ka (show ka ∈ ([ka,kb] : List Pr) by simp)
 have hgb : pq kb:=hg.kid kb (show kb ∈ ([ka,kb] : List Pr) by simp)
 have hfa : bF 1048576 ka:=HF.out.kid ka (show ka ∈ ([ka,kb] : List Pr) by simp)
 have hfb : bF 1048576 kb:=HF.out.kid kb (show kb ∈ ([ka,kb] : List Pr) by simp)
 have hpp : 1 + (bG ka + (bG kb + 0)) ≤ m + 1:=hm
 have OM : 1 + (bG ka + (bG kb + 0)) ≤ 200:=hm2
 have hta:=rM ka hga hfa
 have htb:=rM kb hgb hfb
 obtain ⟨Ta,hTa⟩ : ∃ x,lC ka = x:=⟨_,rfl⟩
 obtain ⟨Tb,Ov⟩ : ∃ x,lC kb = x:=⟨_,rfl⟩
 rw [hTa] at hta
 rw [Ov] at htb
 have hTal : Ta.length ≤ 400000000000:=by omega
 have hTbl : Tb.length ≤ 400000000000:=by omega
 have MM : wz.cell? ⟨b,18,none⟩ = some (.slice (some ⟨bk,off,none⟩) 2 c7):=k18
 simp only [List.length_cons,List.length_nil] at LP
 have hc72 : 2 ≤ c7:=LP
 have PX:=zH hTa
 have TA:=zH Ov
 have Tv:=zH hra
 have Uu:=zH hrb
 have Ti:=zH hca
 have Uf:=zH hcb
 have PP:=zH (show bG ka ≤ m ∧ bG ka ≤ 200 by omega)
 have Tt:=zH (show bG kb ≤ m ∧ bG kb ≤ 200 by omega)
 have PK:=zH (And.intro hga hfa)
 have Tj:=zH (And.intro hgb hfb)
 have N7:=zH HS.out.so
 have HIH:=zH ih
 have xe:=zH hlt
 clear hrow hra hrb hca hcb hga hgb hfa hfb hpp OM hta htb hTa Ov k18 LP hm hm2 ih hg hlt
 have HR : Hid (([115,112,97,119,110,32] : Str) ++ chan ++ [58] ++ Y ++ [32,40] ++ J ++ [41,32,123] ++ Ta ++ [125] ++ nx = R):=zH (by have:=HR.out; simp only [List.headD_cons] at this; rw [PX.out] at this; exact this)
 clear q7
 go_wp2_with fail
 refine (Fg (.mk tk ts tn tl ag) _ wz PY.out UB.out TE.out N7.out).mono ?_
 rw [HY.out]
 rintro e w2 ⟨rfl,hb2⟩
 have r1:=ae k1 hb2
 have r11:=ae k11 hb2
 have UQ:=ae MM hb2
 have HB2:=zH hb2
 clear k0 k1 k11 k12 k13 k14 k15 k16 MM hb2
 go_wp2_with fail
 have hc0 : Below w2.heap.size w2 w2.drew:=(Below.refl _ _).drew
 have fJ:=zH (fun (wq : World) (hSw : Below w2.heap.size w2 wq) => And.intro (ae r1 hSw) (And.intro (ae r11 hSw) (ae UQ hSw)))
 refine aC 21 (fun w' : World => Below w2.heap.size w2 w') (by kernel_rfl) ?_
 refine zT 0 ?_ rfl (Or.inl ⟨by rfl,?_⟩) hc0 ?_
 rotate_left
 ·(intro wq hSw; obtain ⟨_,_,_⟩:=fJ.out wq hSw; go_simp; all_goals first | with_reducible rfl | rw [zI])
 try simp only [zA,zB,zC,Act.put,zD,zE,zF]
 refine zT 1 ?_ rfl (Or.inl ⟨by rfl,?_⟩) hc0 ?_
 rotate_left
 ·(intro wq hSw; obtain ⟨_,_,_⟩:=fJ.out wq hSw; go_simp; all_goals first | with_reducible rfl | rw [zI])
 try simp only [zA,zB,zC,Act.put,zD,zE,zF]
 refine zT 2 ?_ rfl (Or.inl ⟨by rfl,?_⟩) hc0 ?_
 rotate_left
 ·(intro wq hSw; obtain ⟨_,_,_⟩:=fJ.out wq hSw; go_simp; all_goals first | with_reducible rfl | rw [zI])
 try simp only [zA,zB,zC,Act.put,zD,zE,zF]
 refine zT 3 ?_ rfl (Or.inl ⟨by rfl,?_⟩) hc0 ?_
 rotate_left
 ·(intro wq hSw; obtain ⟨_,_,_⟩:=fJ.out wq hSw; go_simp; all_goals first | with_reducible rfl | rw [zI])
 try simp only [zA,zB,zC,Act.put,zD,zE,zF]
 refine zT 4 ?_ rfl (Or.inl ⟨by rfl,?_⟩) hc0 ?_
 rotate_left
 ·(intro wq hSw; obtain ⟨_,_,_⟩:=fJ.out wq hSw; go_simp; all_goals first | with_reducible rfl | rw [zI])
 try simp only [zA,zB,zC,Act.put,zD,zE,zF]
 refine zT 5 ?_ rfl (Or.inl ⟨by rfl,?_⟩) hc0 ?_
 rotate_left
 ·(intro wq hSw; obtain ⟨_,_,_⟩:=fJ.out wq hSw; go_simp; all_goals first | with_reducible rfl | rw [zI])
 try simp only [zA,zB,zC,Act.put,zD,zE,zF]
 refine zT 6 ?_ rfl (Or.inl ⟨by rfl,?_⟩) hc0 ?_
 rotate_left
 ·(intro wq hSw; obtain ⟨_,_,_⟩:=fJ.out wq hSw; go_simp; all_goals first | with_reducible rfl | rw [zI])
 try simp only [zA,zB,zC,Act.put,zD,zE,zF]
 refine zT 7 ?_ rfl (Or.inl ⟨by rfl,?_⟩) hc0 ?_
 rotate_left
 ·(intro wq hSw; obtain ⟨_,_,_⟩:=fJ.out wq hSw; go_simp; all_goals first | with_reducible rfl | rw [zI])
 try simp only [zA,zB,zC,Act.put,zD,zE,zF]
 refine zT 8 ?_ rfl (Or.inl ⟨by rfl,?_⟩) hc0 ?_
 rotate_left
 ·(intro wq hSw; obtain ⟨_,_,_⟩:=fJ.out wq hSw; go_simp; all_goals first | with_reducible rfl | rw [zI])
 try simp only [zA,zB,zC,Act.put,zD,zE,zF]
 refine zT 12 ?_ rfl (Or.inl ⟨by rfl,?_⟩) hc0 ?_
 rotate_left
 ·(intro wq hSw; obtain ⟨_,_,_⟩:=fJ.out wq hSw; go_simp; all_goals first | with_reducible rfl | rw [zI])
 try simp only [zA,zB,zC,Act.put,zD,zE,zF]
 refine zT 13 ?_ rfl (Or.inl ⟨by rfl,?_⟩) hc0 ?_
 rotate_left
 ·(intro wq hSw; obtain ⟨_,_,_⟩:=fJ.out wq hSw; go_simp; all_goals first | with_reducible rfl | rw [zI])
 try simp only [zA,zB,zC,Act.put,zD,zE,zF]
 refine zT 14 ?_ rfl (Or.inl ⟨by rfl,?_⟩) hc0 ?_
 rotate_left
 ·(intro wq hSw; obtain ⟨_,_,_⟩:=fJ.out wq hSw; go_simp; all_goals first | with_reducible rfl | rw [zI])
 try simp only [zA,zB,zC,Act.put,zD,zE,zF]
 refine zT 15 (.agg Og.toArray) rfl (yieldsIf_load_mid (by rfl) 85 (.tmp 134) rfl _ _ rfl Og _ (fun w' hw' => nH hw' (Nat.lt_of_lt_of_le xe.out HB2.out.size) (nH HB2.out xe.out Tv.out)) Tryz.underlying85 rfl (by rw [hla]; kernel_rfl)) hc0 ?_
 try simp only [zA,zB,zC,Act.put,zD,zE,zF]
 refine zT 19 ?_ rfl (Or.inl ⟨by rfl,?_⟩) hc0 ?_
 rotate_left
 ·(intro wq hSw; obtain ⟨_,_,_⟩:=fJ.out wq hSw; go_simp; all_goals first | with_reducible rfl | rw [zI])
 try simp only [zA,zB,zC,Act.put,zD,zE,zF]
 refine zO 9 fun K hK => ?_
 go_simp
 refine Calls.mono (zL _ names comma w2.drew (L6.out.1.keep (chain HB2.out hc0)) (by have:=L6.out.2; omega) (by rw [HJ.out]; omega)) ?_
 rw [HJ.out]
 rintro e x2 ⟨rfl,hq⟩
 have hc1:=chain hc0 hq
 clear hq
 refine hK.out _ _ (fun _ => hc1) ?_
 clear hK K
 try simp only [zA,zB,zC,Act.put,zD,zE,zF]
 refine zT 10 ?_ rfl (Or.inl ⟨by rfl,?_⟩) hc1 ?_
 rotate_left
 ·(intro wq hSw; obtain ⟨_,_,_⟩:=fJ.out wq hSw; go_simp; all_goals first | with_reducible rfl | rw [zI])
 try simp only [zA,zB,zC,Act.put,zD,zE,zF]
 refine zT 11 ?_ rfl (Or.inl ⟨by rfl,?_⟩) hc1 ?_
 rotate_left
 ·(intro wq hSw; obtain ⟨_,_,_⟩:=fJ.out wq hSw; go_simp; all_goals first | with_reducible rfl | rw [zI])
 try simp only [zA,zB,zC,Act.put,zD,zE,zF]
 refine zO 16 fun K hK => ?_
 go_simp
 refine Calls.mono (HIH.out ka (.agg Og.toArray) x2 PP.out.1 PP.out.2 (Ti.out.keep (Same.below (chain HB2.out hc1)) (fun _ h _ => h)) PK.out.2 PK.out.1 (BB.out.1.below (chain HB2.out hc1)) (BB.out.2.below (chain HB2.out hc1)) (N7.out.keep (chain HB2.out hc1))) ?_
 rw [PX.out]
 rintro e x3 ⟨rfl,hq⟩
 have hc2:=chain hc1 hq
 clear hq
 refine hK.out _ _ (fun _ => hc2) ?_
 clear hK K
 try simp only [zA,zB,zC,Act.put,zD,zE,zF]
 refine zT 17 ?_ rfl (Or.inl ⟨by rfl,?_⟩) hc2 ?_
 rotate_left
 ·(intro wq hSw; obtain ⟨_,_,_⟩:=fJ.out wq hSw; go_simp; all_goals first | with_reducible rfl | rw [zI])
 try simp only [zA,zB,zC,Act.put,zD,zE,zF]
 refine zT 18 ?_ rfl (Or.inl ⟨by rfl,?_⟩) hc2 ?_
 rotate_left
 ·(intro wq hSw; obtain ⟨_,_,_⟩:=fJ.out wq hSw; go_simp; all_goals first | with_reducible rfl | rw [zI])
 try simp only [zA,zB,zC,Act.put,zD,zE,zF]
 refine zT 20 ?_ rfl (Or.inl ⟨by rfl,?_⟩) hc2 ?_
 rotate_left
 ·(intro wq hSw; obtain ⟨_,_,_⟩:=fJ.out wq hSw; go_simp; all_goals first | with_reducible rfl | rw [zI])
 try simp only [zA,zB,zC,Act.put,zD,zE,zF]
 refine zO 21 fun K hK => ?_
 go_simp
 refine hK.out _ _ (fun h => absurd h (by decide)) ?_
 clear hK K
 try simp only [zA,zB,zC,Act.put,zD,zE,zF]
 refine bf (by kernel_rfl) ?_
 go_wp2_with fail
 go_ret
 exact ⟨by rw [← HR.out]; simp,(HS.out.next (chain HB2.out hc2)).bl⟩
theorem wk_10 (chan name label : Str) (xk : Int) (xn : Str) (xs xv : Int) (xt : Str) (af exprs : List Ex) (names : List Str) (tk ts : Int) (tn : Str) (tl : List Str) (ag : List Ty) (labels : List Str) (kids : List Pr) (A1 : Option Addr) (n1 c1 : Nat) (A2 : Option Addr) (n2 c2 : Nat) (A3 : Option Addr) (n3 c3 : Nat) (A4 : Option Addr) (n4 c4 : Nat) (A5 : Option Addr) (n5 c5 : Nat) (A6 : Option Addr) (n6 c6 : Nat) (A7 : Option Addr) (n7 c7 : Nat) (b : Nat) (m : Nat) (ih : Jg m) (hm : bG (.mk 10 chan name label xk xn xs xv xt af exprs names tk ts tn tl ag labels kids) ≤ m + 1) (hm2 : bG (.mk 10 chan name label xk xn xs xv xt af exprs names tk ts tn tl ag labels kids) ≤ 200) (hg : pq (.mk 10 chan name label xk xn xs xv xt af exprs names tk ts tn tl ag labels kids)) (w wz : World) {u0 u2 u4 u5 u6 u7 u8 u9 jI jJ jk jl iW iY u16 jc jd je jL mW mX jM jB jG jH jQ jR jS jT jU u32 jV jW jX jY jZ ku kw kz kC kD kE kF kG kH kJ kK kL kM kN kP kQ kR kS kT kU kV kW kX kY kZ lg u64 lh lm lq lu lJ lK lL lM lN lQ lS lT lU lV lW lX lY lZ l9 mf mg mi mr mD mF lD lw mP nP nD oH oI oJ oK oL dE dF dG dH dI dJ dK dL dM dN dO bP bQ bT bU bV bW bY bZ cu cO cZ dh di dw dC dD gJ gK gQ gU gV fO fP fQ fU fV fZ gp gq gu gy gB gG gI eu eF eG eH eP eQ eU eX eY fA fB fC fD fE fF fG fH dS dU dV dW dX dY dZ ed iq iw iy iC iD iE iF iG iH iI iJ iK iL iM iO iP iQ iR iT iU mZ ng sH sJ sK sN sO sQ sS sU sV sW sZ tq tu tC tH tJ tK tN tV tX tY tZ uf ug uh ui uj ul um uo uq ut uu uw : Value} (nx : Str) (hS : (Hy 10 chan name label xk xn xs xv xt af exprs names tk ts tn tl ag labels kids A1 n1 c1 A2 n2 c2 A3 n3 c3 A4 n4 c4 A5 n5 c5 A6 n6 c6 A7 n7 c7 w wz b)) (hf : bF 1048576 (.mk 10 chan name label xk xn xs xv xt af exprs names tk ts tn tl ag labels kids)) (hH : oM (.mk 10 chan name label xk xn xs xv xt af exprs names tk ts tn tl ag labels kids)) (hnl : nx.length ≤ 1000000000000) (R : Str) (HR : Hid (([105,102,32] : Str) ++ ik (.mk xk xn xs xv xt af) ++ [32,123] ++ lC (kids.headD xY) ++ [125,32,101,108,115,101,32,123] ++ lC (kids.getLastD xY) ++ [125] = R)) :
  Code.wp Tryz.prog ni (bodyPost Tryz.prog Tryz.f43 (fun e w' => e = .returned (.string ⟨R.toArray⟩) ∧ Below w.heap.size w w')) { tmps:=#[u0,.pointer (some ⟨b,0,none⟩),u2,.string ⟨nx.toArray⟩,u4,u5,u6,u7,u8,u9,jI,jJ,jk,jl,iW,iY,u16,jc,jd,je,jL,mW,mX,jM,jB,jG,jH,jQ,jR,jS,jT,jU,u32,jV,jW,jX,jY,jZ,ku,kw,kz,kC,kD,kE,kF,kG,kH,kJ,kK,kL,kM,kN,kP,kQ,kR,kS,kT,kU,kV,kW,kX,kY,kZ,lg,u64,lh,lm,lq,lu,lJ,lK,lL,lM,lN,lQ,lS,lT,lU,lV,lW,lX,lY,lZ,l9,mf,mg,mi,mr,mD,mF,lD,lw,mP,nP,nD,oH,oI,oJ,oK,oL,dE,dF,dG,dH,dI,dJ,dK,dL,dM,dN,dO,bP,bQ,bT,bU,bV,bW,bY,bZ,cu,cO,cZ,dh,di,dw,dC,dD,gJ,gK,gQ,gU,gV,fO,fP,fQ,fU,fV,fZ,gp,gq,gu,gy,gB,gG,gI,eu,eF,eG,eH,eP,eQ,eU,eX,eY,fA,fB,fC,fD,fE,fF,fG,fH,dS,dU,dV,dW,dX,dY,dZ,ed,iq,iw,iy,iC,iD,iE,iF,iG,iH,iI,iJ,iK,iL,iM,iO,iP,iQ,iR,iT,iU,mZ,ng,sH,sJ,sK,sN,sO,sQ,sS,sU,sV,sW,sZ,tq,tu,tC,tH,tJ,tK,tN,tV,tX,tY,tZ,uf,ug,uh,ui,uj,ul,um,uo,uq,ut,uu,uw],defers:=[] } wz:=by
 have h : ni = Code.seq _ _:=rfl
 rw [h]
 clear h
 have HS:=zH hS
 have HF:=zH hf
 have HH:=zH hH
 obtain ⟨k0,_,_,_,k4,k5,k6,k7,k8,k9,_,_,_,_,_,_,_,_,k18⟩:=hS.bx.mkc
 have z1 : chan.length ≤ 8:=hH.ch
 have z2 : name.length ≤ 8:=hH.nm
 have z3 : label.length ≤ 8:=hH.lb
 clear hS hf hH
 obtain ⟨e1,e2,e3,e4,e5,e6,e7,e,q1,q2,q3,q4,q5,q6,q7⟩:=id HS.out.pv
 simp only [Value.agg.injEq,Pr.aN,Pr.aT,Pr.aI,Pr.aW,Pr.jm,Pr.jo,Pr.jq,Pr.jv,Pr.jr,Pr.aY,Pr.aV,Pr.aU,Pr.jg,Pr.ji,Pr.jh,Pr.jA,Pr.aX,Pr.aH,Pr.aK] at e q1 q2 q3 q4 q5 q6 q7
 have e':=congrArg Array.toList e
 simp only [List.cons.injEq,and_true,true_and] at e'
 obtain ⟨Ag,Ah,Ai,Aj,Am,Ap,Aq⟩:=e'
 subst Ag Ah Ai Aj Am Ap Aq
 have hxv : uy All wz (.agg #[.int .i64 xk,.string ⟨xn.toArray⟩,.int .i64 xs,.int .i64 xv,.string ⟨xt.toArray⟩,.slice A1 n1 c1]) (.mk xk xn xs xv xt af):=⟨_,rfl,q1⟩
 have hxe : lF (.mk xk xn xs xv xt af) = 0:=HH.out.ex rfl
 have yY : bI 1048576 (.mk xk xn xs xv xt af):=wM HF.out
 obtain ⟨X,hX⟩ : ∃ x,ik (.mk xk xn xs xv xt af) = x:=⟨_,rfl⟩
 have LM : X.length ≤ 240000000:=by rw [← hX]; exact qj hxe yY
 have HX:=zH hX
 have GG:=zH hxv
 have Gz:=zH hxe
 have E8:=zH yY
 have BB:=zH (And.intro HS.out.tb HS.out.pw)
 rw [hX] at HR
 clear e q1 q2 q3 q4 q5 q6 hX hxv hxe yY
 obtain ⟨ka,kb,rfl⟩ : ∃ a b,kids = [a,b]:=by
  have : kids.length = 2:=HH.out.kids
  match kids,this with
  | [a,b],_ => exact ⟨a,b,rfl⟩
 obtain ⟨A7',c7',TJ,LP,-,hrow⟩:=id q7
 injection TJ with P7 P8 P9
 subst P7 P8 P9
 obtain ⟨bk,off,rfl,-,hrow⟩:=hrow (by simp)
 simp only [qR] at hrow
 obtain ⟨Og,hra,hca⟩:=hrow.1.range
 obtain ⟨Su,hrb,hcb⟩:=hrow.2.1.range
 have hla:=hca.len
 have hlb:=hcb.len
 have hlt : bk < wz.heap.size:=wS hra (by omega)
 have hga : pq ka:=hg.kid ka (show ka ∈ ([ka,kb] : List Pr) by simp)
 have hgb : pq kb:=hg.kid kb (show kb ∈ ([ka,kb] : List Pr) by simp)
 have hfa : bF 1048576 ka:=HF.out.kid ka (show ka ∈ ([ka,kb] : List Pr) by simp)
 have hfb : bF 1048576 kb:=HF.out.kid kb (show kb ∈ ([ka,kb] : List Pr) by simp)
 have hpp : 1 + (bG ka + (bG kb + 0)) ≤ m + 1:=hm
 have OM : 1 + (bG ka + (bG kb + 0)) ≤ 200:=hm2
 have hta:=rM ka hga hfa
 have htb:=rM kb hgb hfb
 obtain ⟨Ta,hTa⟩ : ∃ x,lC ka = x:=⟨_,rfl⟩
 obtain ⟨Tb,Ov⟩ : ∃ x,lC kb = x:=⟨_,rfl⟩
 rw [hTa] at hta
 rw [Ov] at htb
 have hTal : Ta.length ≤ 400000000000:=by omega
 have hTbl : Tb.length ≤ 400000000000:=by omega
 have MM : wz.cell? ⟨b,18,none⟩ = some (.slice (some ⟨bk,off,none⟩) 2 c7):=k18
 simp only [List.length_cons,List.length_nil] at LP
 have hc72 : 2 ≤ c7:=LP
 have PX:=zH hTa
 have TA:=zH Ov
 have Tv:=zH hra
 have Uu:=zH hrb
 have Ti:=zH hca
 have Uf:=zH hcb
 have PP:=zH (show bG ka ≤ m ∧ bG ka ≤ 200 by omega)
 have Tt:=zH (show bG kb ≤ m ∧ bG kb ≤ 200 by omega)
 have PK:=zH (And.intro hga hfa)
 have Tj:=zH (And.intro hgb hfb)
 have N7:=zH HS.out.so
 have HIH:=zH ih
 have xe:=zH hlt
 clear hrow hra hrb hca hcb hga hgb hfa hfb hpp OM hta htb hTa Ov k18 LP hm hm2 ih hg hlt
 have HR : Hid (([105,102,32] : Str) ++ X ++ [32,123] ++ Ta ++ [125,32,101,108,115,101,32,123] ++ Tb ++ [125] = R):=zH (by have:=HR.out; simp only [List.headD_cons,List.getLastD_cons,List.getLastD_nil] at this; rw [PX.out,TA.out] at this; exact this)
 clear q7
 go_wp2_with fail
 have hb0 : Below wz.heap.size wz wz.drew:=(Below.refl _ _).drew
 have fJ:=zH (fun (wq : World) (hSw : Below wz.heap.size wz wq) => And.intro (ae k4 hSw) (And.intro (ae k5 hSw) (And.intro (ae k6 hSw) (And.intro (ae k7 hSw) (And.intro (ae k8 hSw) (And.intro (ae k9 hSw) (ae MM hSw)))))))
 refine aC 19 (fun w' : World => Below wz.heap.size wz w') (by kernel_rfl) ?_
 refine zT 0 ?_ rfl (Or.inl ⟨by rfl,?_⟩) hb0 ?_
 rotate_left
 ·(intro wq hSw; obtain ⟨_,_,_,_,_,_,_⟩:=fJ.out wq hSw; go_simp; all_goals first | with_reducible rfl | rw [zI])
 try simp only [zA,zB,zC,Act.put,zD,zE,zF]
 refine zT 1 ?_ rfl (Or.inl ⟨by rfl,?_⟩) hb0 ?_
 rotate_left
 ·(intro wq hSw; obtain ⟨_,_,_,_,_,_,_⟩:=fJ.out wq hSw; go_simp; all_goals first | with_reducible rfl | rw [zI])
 try simp only [zA,zB,zC,Act.put,zD,zE,zF]
 refine zT 5 ?_ rfl (Or.inl ⟨by rfl,?_⟩) hb0 ?_
 rotate_left
 ·(intro wq hSw; obtain ⟨_,_,_,_,_,_,_⟩:=fJ.out wq hSw; go_simp; all_goals first | with_reducible rfl | rw [zI])
 try simp only [zA,zB,zC,Act.put,zD,zE,zF]
 refine zT 6 ?_ rfl (Or.inl ⟨by rfl,?_⟩) hb0 ?_
 rotate_left
 ·(intro wq hSw; obtain ⟨_,_,_,_,_,_,_⟩:=fJ.out wq hSw; go_simp; all_goals first | with_reducible rfl | rw [zI])
 try simp only [zA,zB,zC,Act.put,zD,zE,zF]
 refine zT 7 ?_ rfl (Or.inl ⟨by rfl,?_⟩) hb0 ?_
 rotate_left
 ·(intro wq hSw; obtain ⟨_,_,_,_,_,_,_⟩:=fJ.out wq hSw; go_simp; all_goals first | with_reducible rfl | rw [zI])
 try simp only [zA,zB,zC,Act.put,zD,zE,zF]
 refine zT 8 (.agg Og.toArray) rfl (yieldsIf_load_mid (by rfl) 85 (.tmp 150) rfl _ _ rfl Og _ (fun w' hw' => nH hw' xe.out Tv.out) Tryz.underlying85 rfl (by rw [hla]; kernel_rfl)) hb0 ?_
 try simp only [zA,zB,zC,Act.put,zD,zE,zF]
 refine zT 12 ?_ rfl (Or.inl ⟨by rfl,?_⟩) hb0 ?_
 rotate_left
 ·(intro wq hSw; obtain ⟨_,_,_,_,_,_,_⟩:=fJ.out wq hSw; go_simp; all_goals first | with_reducible rfl | rw [zI])
 try simp only [zA,zB,zC,Act.put,zD,zE,zF]
 refine zT 13 ?_ rfl (Or.inl ⟨by rfl,?_⟩) hb0 ?_
 rotate_left
 ·(intro wq hSw; obtain ⟨_,_,_,_,_,_,_⟩:=fJ.out wq hSw; go_simp; all_goals first | with_reducible rfl | rw [zI])
 try simp only [zA,zB,zC,Act.put,zD,zE,zF]
 refine zT 14 ?_ rfl (Or.inl ⟨by rfl,?_⟩) hb0 ?_
 rotate_left
 ·(intro wq hSw; obtain ⟨_,_,_,_,_,_,_⟩:=fJ.out wq hSw; go_simp; all_goals first | with_reducible rfl | rw [zI])
 try simp only [zA,zB,zC,Act.put,zD,zE,zF]
 refine zT 15 (.agg Su.toArray) rfl (yieldsIf_load_mid (by rfl) 85 (.tmp 157) rfl _ _ rfl Su _ (fun w' hw' => nH hw' xe.out Uu.out) Tryz.underlying85 rfl (by rw [hlb]; kernel_rfl)) hb0 ?_
 try simp only [zA,zB,zC,Act.put,zD,zE,zF]
 refine zO 2 fun K hK => ?_
 go_simp
 refine Calls.mono (xB (.mk xk xn xs xv xt af) _ wz.drew (GG.out.below hb0) E8.out (BB.out.1.below hb0) (BB.out.2.below hb0) Gz.out) ?_
 rw [HX.out]
 rintro e w2 ⟨rfl,hq⟩
 have hb1:=chain hb0 hq
 clear hq
 refine hK.out _ _ (fun _ => hb1) ?_
 clear hK K
 try simp only [zA,zB,zC,Act.put,zD,zE,zF]
 refine zT 3 ?_ rfl (Or.inl ⟨by rfl,?_⟩) hb1 ?_
 rotate_left
 ·(intro wq hSw; obtain ⟨_,_,_,_,_,_,_⟩:=fJ.out wq hSw; go_simp; all_goals first | with_reducible rfl | rw [zI])
 try simp only [zA,zB,zC,Act.put,zD,zE,zF]
 refine zT 4 ?_ rfl (Or.inl ⟨by rfl,?_⟩) hb1 ?_
 rotate_left
 ·(intro wq hSw; obtain ⟨_,_,_,_,_,_,_⟩:=fJ.out wq hSw; go_simp; all_goals first | with_reducible rfl | rw [zI])
 try simp only [zA,zB,zC,Act.put,zD,zE,zF]
 refine zO 9 fun K hK => ?_
 go_simp
 refine Calls.mono (HIH.out ka (.agg Og.toArray) w2 PP.out.1 PP.out.2 (Ti.out.keep (Same.below hb1) (fun _ h _ => h)) PK.out.2 PK.out.1 (BB.out.1.below hb1) (BB.out.2.below hb1) (N7.out.keep hb1)) ?_
 rw [PX.out]
 rintro e w3 ⟨rfl,hq⟩
 have hb2:=chain hb1 hq
 clear hq
 refine hK.out _ _ (fun _ => hb2) ?_
 clear hK K
 try simp only [zA,zB,zC,Act.put,zD,zE,zF]
 refine zT 10 ?_ rfl (Or.inl ⟨by rfl,?_⟩) hb2 ?_
 rotate_left
 ·(intro wq hSw; obtain ⟨_,_,_,_,_,_,_⟩:=fJ.out wq hSw; go_simp; all_goals first | with_reducible rfl | rw [zI])
 try simp only [zA,zB,zC,Act.put,zD,zE,zF]
 refine zT 11 ?_ rfl (Or.inl ⟨by rfl,?_⟩) hb2 ?_
 rotate_left
 ·(intro wq hSw; obtain ⟨_,_,_,_,_,_,_⟩:=fJ.out wq hSw; go_simp; all_goals first | with_reducible rfl | rw [zI])
 try simp only [zA,zB,zC,Act.put,zD,zE,zF]
 refine zO 16 fun K hK => ?_
 go_simp
 refine Calls.mono (HIH.out kb (.agg Su.toArray) w3 Tt.out.1 Tt.out.2 (Uf.out.keep (Same.below hb2) (fun _ h _ => h)) Tj.out.2 Tj.out.1 (BB.out.1.below hb2) (BB.out.2.below hb2) (N7.out.keep hb2)) ?_
 rw [TA.out]
 rintro e w4 ⟨rfl,hq⟩
 have hb3:=chain hb2 hq
 clear hq
 refine hK.out _ _ (fun _ => hb3) ?_
 clear hK K
 try simp only [zA,zB,zC,Act.put,zD,zE,zF]
 refine zT 17 ?_ rfl (Or.inl ⟨by rfl,?_⟩) hb3 ?_
 rotate_left
 ·(intro wq hSw; obtain ⟨_,_,_,_,_,_,_⟩:=fJ.out wq hSw; go_simp; all_goals first | with_reducible rfl | rw [zI])
 try simp only [zA,zB,zC,Act.put,zD,zE,zF]
 refine zT 18 ?_ rfl (Or.inl ⟨by rfl,?_⟩) hb3 ?_
 rotate_left
 ·(intro wq hSw; obtain ⟨_,_,_,_,_,_,_⟩:=fJ.out wq hSw; go_simp; all_goals first | with_reducible rfl | rw [zI])
 try simp only [zA,zB,zC,Act.put,zD,zE,zF]
 refine zO 19 fun K hK => ?_
 go_simp
 refine hK.out _ _ (fun h => absurd h (by decide)) ?_
 clear hK K
 try simp only [zA,zB,zC,Act.put,zD,zE,zF]
 refine bf (by kernel_rfl) ?_
 go_wp2_with fail
 go_ret
 exact ⟨by rw [← HR.out]; simp,(HS.out.next hb3).bl⟩
end Go.Proofs.YtpidjanngbaiiaaGreatDoor
