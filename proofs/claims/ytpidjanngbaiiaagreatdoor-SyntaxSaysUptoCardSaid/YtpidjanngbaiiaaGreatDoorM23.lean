/-
  PrUa PrU2 PrU7 PrU9 PrU10 PrU11 PrU12
-/
import Derived.Test.YtpidjanngbaiiaaGreatDoorM22
namespace Go.Proofs.YtpidjanngbaiiaaGreatDoor
open Go.RowKit Go.Proofs
set_option maxRecDepth 100000
set_option maxHeartbeats 32000000

theorem rk_1 (chan name label : Str) (xk : Int) (xn : Str) (xs xv : Int) (xt : Str) (af exprs : List Ex) (names : List Str) (tk ts : Int) (tn : Str) (tl : List Str) (ag : List Ty) (labels : List Str) (kids : List Pr) (A1 : Option Addr) (n1 c1 : Nat) (A2 : Option Addr) (n2 c2 : Nat) (A3 : Option Addr) (n3 c3 : Nat) (A4 : Option Addr) (n4 c4 : Nat) (A5 : Option Addr) (n5 c5 : Nat) (A6 : Option Addr) (n6 c6 : Nat) (A7 : Option Addr) (n7 c7 : Nat) (b : Nat) (w wz : World) {u0 u2 u3 u5 u6 u7 u8 u9 jI jJ jk jl iW iY u16 jc jd je jL mW mX jM jB jG jH jQ jR jS jT jU u32 jV jW jX jY jZ ku kw kz kC kD kE kF kG kH kJ kK kL kM kN kP kQ kR kS kT kU kV kW kX kY kZ lg u64 lh lm lq lu lJ lK lL lM lN lQ lS lT lU lV lW lX lY lZ l9 mf mg mi mr mD mF lD lw mP nP nD oH oI oJ oK oL dE dF dG dH dI dJ dK dL dM dN dO bP bQ bT bU bV bW bY bZ cu cO cZ dh di dw dC dD gJ gK gQ gU gV fO fP fQ fU fV fZ gp gq gu gy gB gG gI eu eF eG eH eP eQ eU eX eY fA fB fC fD fE fF fG fH dS dU dV dW dX dY dZ ed iq iw iy iC iD iE iF iG iH iI iJ iK iL iM iO iP iQ iR iT iU mZ ng : Value} (sc : Str) (hsl : sc.length ≤ 20) (hS : (GH 1 chan name label xk xn xs xv xt af exprs names tk ts tn tl ag labels kids A1 n1 c1 A2 n2 c2 A3 n3 c3 A4 n4 c4 A5 n5 c5 A6 n6 c6 A7 n7 c7 w wz b)) (hf : bF 1048576 (.mk 1 chan name label xk xn xs xv xt af exprs names tk ts tn tl ag labels kids)) (hH : oM (.mk 1 chan name label xk xn xs xv xt af exprs names tk ts tn tl ag labels kids)) (R : Str) (HR : Hid (sc = R)) :
  Code.wp Tryz.prog mY (bodyPost Tryz.prog Tryz.f47 (fun e w' => e = .returned (.string ⟨R.toArray⟩) ∧ Below w.heap.size w w')) { tmps:=#[u0,.pointer (some ⟨b,0,none⟩),u2,u3,.string ⟨sc.toArray⟩,u5,u6,u7,u8,u9,jI,jJ,jk,jl,iW,iY,u16,jc,jd,je,jL,mW,mX,jM,jB,jG,jH,jQ,jR,jS,jT,jU,u32,jV,jW,jX,jY,jZ,ku,kw,kz,kC,kD,kE,kF,kG,kH,kJ,kK,kL,kM,kN,kP,kQ,kR,kS,kT,kU,kV,kW,kX,kY,kZ,lg,u64,lh,lm,lq,lu,lJ,lK,lL,lM,lN,lQ,lS,lT,lU,lV,lW,lX,lY,lZ,l9,mf,mg,mi,mr,mD,mF,lD,lw,mP,nP,nD,oH,oI,oJ,oK,oL,dE,dF,dG,dH,dI,dJ,dK,dL,dM,dN,dO,bP,bQ,bT,bU,bV,bW,bY,bZ,cu,cO,cZ,dh,di,dw,dC,dD,gJ,gK,gQ,gU,gV,fO,fP,fQ,fU,fV,fZ,gp,gq,gu,gy,gB,gG,gI,eu,eF,eG,eH,eP,eQ,eU,eX,eY,fA,fB,fC,fD,fE,fF,fG,fH,dS,dU,dV,dW,dX,dY,dZ,ed,iq,iw,iy,iC,iD,iE,iF,iG,iH,iI,iJ,iK,iL,iM,iO,iP,iQ,iR,iT,iU,mZ,ng],defers:=[] } wz:=by
 have h : mY = Code.seq _ _:=rfl
 rw [h]
 clear h
 have HS:=zH hS
 have HF:=zH hf
 have HH:=zH hH
 obtain ⟨k0,_,_,_,_,_,_,_,_,_,_,_,_,_,_,_,_,_,_⟩:=hS.bx.mkc
 have z1 : chan.length ≤ 8:=hH.ch
 have z2 : name.length ≤ 8:=hH.nm
 have z3 : label.length ≤ 8:=hH.lb
 clear hS hf hH
 go_wp2_with fail
 go_ret
 exact ⟨by rw [← HR.out]; simp,HS.out.bl⟩
theorem rk_3 (chan name label : Str) (xk : Int) (xn : Str) (xs xv : Int) (xt : Str) (af exprs : List Ex) (names : List Str) (tk ts : Int) (tn : Str) (tl : List Str) (ag : List Ty) (labels : List Str) (kids : List Pr) (A1 : Option Addr) (n1 c1 : Nat) (A2 : Option Addr) (n2 c2 : Nat) (A3 : Option Addr) (n3 c3 : Nat) (A4 : Option Addr) (n4 c4 : Nat) (A5 : Option Addr) (n5 c5 : Nat) (A6 : Option Addr) (n6 c6 : Nat) (A7 : Option Addr) (n7 c7 : Nat) (b : Nat) (w wz : World) {u0 u2 u3 u6 u7 u8 u9 jI jJ jk jl iW iY u16 jc jd je jL mW mX jM jB jG jH jQ jR jS jT jU u32 jV jW jX jY jZ ku kw kz kC kD kE kF kG kH kJ kK kL kM kN kP kQ kR kS kT kU kV kW kX kY kZ lg u64 lh lm lq lu lJ lK lL lM lN lQ lS lT lU lV lW lX lY lZ l9 mf mg mi mr mD mF lD lw mP nP nD oH oI oJ oK oL dE dF dG dH dI dJ dK dL dM dN dO bP bQ bT bU bV bW bY bZ cu cO cZ dh di dw dC dD gJ gK gQ gU gV fO fP fQ fU fV fZ gp gq gu gy gB gG gI eu eF eG eH eP eQ eU eX eY fA fB fC fD fE fF fG fH dS dU dV dW dX dY dZ ed iq iw iy iC iD iE iF iG iH iI iJ iK iL iM iO iP iQ iR iT iU mZ ng : Value} (sc : Str) (hsl : sc.length ≤ 20) (g ck : Nat) (kt : Str) (hkt : kt.length ≤ 400000000000) (hck : 1 ≤ ck) (hc0 : wz.cell? ⟨g,0,none⟩ = some (.string ⟨kt.toArray⟩)) (hS : (GH 3 chan name label xk xn xs xv xt af exprs names tk ts tn tl ag labels kids A1 n1 c1 A2 n2 c2 A3 n3 c3 A4 n4 c4 A5 n5 c5 A6 n6 c6 A7 n7 c7 w wz b)) (hf : bF 1048576 (.mk 3 chan name label xk xn xs xv xt af exprs names tk ts tn tl ag labels kids)) (hH : oM (.mk 3 chan name label xk xn xs xv xt af exprs names tk ts tn tl ag labels kids)) (R : Str) (HR : Hid (sc ++ (([32] : Str) ++ name) ++ [59,32] ++ kt = R)) :
  Code.wp Tryz.prog mY (bodyPost Tryz.prog Tryz.f47 (fun e w' => e = .returned (.string ⟨R.toArray⟩) ∧ Below w.heap.size w w')) { tmps:=#[u0,.pointer (some ⟨b,0,none⟩),u2,u3,.string ⟨sc.toArray⟩,.slice (some ⟨g,0,none⟩) 1 ck,u6,u7,u8,u9,jI,jJ,jk,jl,iW,iY,u16,jc,jd,je,jL,mW,mX,jM,jB,jG,jH,jQ,jR,jS,jT,jU,u32,jV,jW,jX,jY,jZ,ku,kw,kz,kC,kD,kE,kF,kG,kH,kJ,kK,kL,kM,kN,kP,kQ,kR,kS,kT,kU,kV,kW,kX,kY,kZ,lg,u64,lh,lm,lq,lu,lJ,lK,lL,lM,lN,lQ,lS,lT,lU,lV,lW,lX,lY,lZ,l9,mf,mg,mi,mr,mD,mF,lD,lw,mP,nP,nD,oH,oI,oJ,oK,oL,dE,dF,dG,dH,dI,dJ,dK,dL,dM,dN,dO,bP,bQ,bT,bU,bV,bW,bY,bZ,cu,cO,cZ,dh,di,dw,dC,dD,gJ,gK,gQ,gU,gV,fO,fP,fQ,fU,fV,fZ,gp,gq,gu,gy,gB,gG,gI,eu,eF,eG,eH,eP,eQ,eU,eX,eY,fA,fB,fC,fD,fE,fF,fG,fH,dS,dU,dV,dW,dX,dY,dZ,ed,iq,iw,iy,iC,iD,iE,iF,iG,iH,iI,iJ,iK,iL,iM,iO,iP,iQ,iR,iT,iU,mZ,ng],defers:=[] } wz:=by
 have h : mY = Code.seq _ _:=rfl
 rw [h]
 clear h
 have HS:=zH hS
 have HF:=zH hf
 have HH:=zH hH
 obtain ⟨k0,_,k2,_,_,_,_,_,_,_,_,_,_,_,_,_,_,_,_⟩:=hS.bx.mkc
 have z1 : chan.length ≤ 8:=hH.ch
 have z2 : name.length ≤ 8:=hH.nm
 have z3 : label.length ≤ 8:=hH.lb
 clear hS hf hH
 go_wp2_with fail
 go_ret
 exact ⟨by rw [← HR.out]; simp,HS.out.bl⟩
theorem rk_4 (chan name label : Str) (xk : Int) (xn : Str) (xs xv : Int) (xt : Str) (af exprs : List Ex) (names : List Str) (tk ts : Int) (tn : Str) (tl : List Str) (ag : List Ty) (labels : List Str) (kids : List Pr) (A1 : Option Addr) (n1 c1 : Nat) (A2 : Option Addr) (n2 c2 : Nat) (A3 : Option Addr) (n3 c3 : Nat) (A4 : Option Addr) (n4 c4 : Nat) (A5 : Option Addr) (n5 c5 : Nat) (A6 : Option Addr) (n6 c6 : Nat) (A7 : Option Addr) (n7 c7 : Nat) (b : Nat) (w wz : World) {u0 u2 u3 u6 u7 u8 u9 jI jJ jk jl iW iY u16 jc jd je jL mW mX jM jB jG jH jQ jR jS jT jU u32 jV jW jX jY jZ ku kw kz kC kD kE kF kG kH kJ kK kL kM kN kP kQ kR kS kT kU kV kW kX kY kZ lg u64 lh lm lq lu lJ lK lL lM lN lQ lS lT lU lV lW lX lY lZ l9 mf mg mi mr mD mF lD lw mP nP nD oH oI oJ oK oL dE dF dG dH dI dJ dK dL dM dN dO bP bQ bT bU bV bW bY bZ cu cO cZ dh di dw dC dD gJ gK gQ gU gV fO fP fQ fU fV fZ gp gq gu gy gB gG gI eu eF eG eH eP eQ eU eX eY fA fB fC fD fE fF fG fH dS dU dV dW dX dY dZ ed iq iw iy iC iD iE iF iG iH iI iJ iK iL iM iO iP iQ iR iT iU mZ ng : Value} (sc : Str) (hsl : sc.length ≤ 20) (g ck : Nat) (kt : Str) (hkt : kt.length ≤ 400000000000) (hck : 1 ≤ ck) (hc0 : wz.cell? ⟨g,0,none⟩ = some (.string ⟨kt.toArray⟩)) (hS : (GH 4 chan name label xk xn xs xv xt af exprs names tk ts tn tl ag labels kids A1 n1 c1 A2 n2 c2 A3 n3 c3 A4 n4 c4 A5 n5 c5 A6 n6 c6 A7 n7 c7 w wz b)) (hf : bF 1048576 (.mk 4 chan name label xk xn xs xv xt af exprs names tk ts tn tl ag labels kids)) (hH : oM (.mk 4 chan name label xk xn xs xv xt af exprs names tk ts tn tl ag labels kids)) (R : Str) (HR : Hid (sc ++ (([32] : Str) ++ name) ++ [59,32] ++ kt = R)) :
  Code.wp Tryz.prog mY (bodyPost Tryz.prog Tryz.f47 (fun e w' => e = .returned (.string ⟨R.toArray⟩) ∧ Below w.heap.size w w')) { tmps:=#[u0,.pointer (some ⟨b,0,none⟩),u2,u3,.string ⟨sc.toArray⟩,.slice (some ⟨g,0,none⟩) 1 ck,u6,u7,u8,u9,jI,jJ,jk,jl,iW,iY,u16,jc,jd,je,jL,mW,mX,jM,jB,jG,jH,jQ,jR,jS,jT,jU,u32,jV,jW,jX,jY,jZ,ku,kw,kz,kC,kD,kE,kF,kG,kH,kJ,kK,kL,kM,kN,kP,kQ,kR,kS,kT,kU,kV,kW,kX,kY,kZ,lg,u64,lh,lm,lq,lu,lJ,lK,lL,lM,lN,lQ,lS,lT,lU,lV,lW,lX,lY,lZ,l9,mf,mg,mi,mr,mD,mF,lD,lw,mP,nP,nD,oH,oI,oJ,oK,oL,dE,dF,dG,dH,dI,dJ,dK,dL,dM,dN,dO,bP,bQ,bT,bU,bV,bW,bY,bZ,cu,cO,cZ,dh,di,dw,dC,dD,gJ,gK,gQ,gU,gV,fO,fP,fQ,fU,fV,fZ,gp,gq,gu,gy,gB,gG,gI,eu,eF,eG,eH,eP,eQ,eU,eX,eY,fA,fB,fC,fD,fE,fF,fG,fH,dS,dU,dV,dW,dX,dY,dZ,ed,iq,iw,iy,iC,iD,iE,iF,iG,iH,iI,iJ,iK,iL,iM,iO,iP,iQ,iR,iT,iU,mZ,ng],defers:=[] } wz:=by
 have h : mY = Code.seq _ _:=rfl
 rw [h]
 clear h
 have HS:=zH hS
 have HF:=zH hf
 have HH:=zH hH
 obtain ⟨k0,_,k2,_,_,_,_,_,_,_,_,_,_,_,_,_,_,_,_⟩:=hS.bx.mkc
 have z1 : chan.length ≤ 8:=hH.ch
 have z2 : name.length ≤ 8:=hH.nm
 have z3 : label.length ≤ 8:=hH.lb
 clear hS hf hH
 go_wp2_with fail
 go_ret
 exact ⟨by rw [← HR.out]; simp,HS.out.bl⟩
theorem rk_5 (chan name label : Str) (xk : Int) (xn : Str) (xs xv : Int) (xt : Str) (af exprs : List Ex) (names : List Str) (tk ts : Int) (tn : Str) (tl : List Str) (ag : List Ty) (labels : List Str) (kids : List Pr) (A1 : Option Addr) (n1 c1 : Nat) (A2 : Option Addr) (n2 c2 : Nat) (A3 : Option Addr) (n3 c3 : Nat) (A4 : Option Addr) (n4 c4 : Nat) (A5 : Option Addr) (n5 c5 : Nat) (A6 : Option Addr) (n6 c6 : Nat) (A7 : Option Addr) (n7 c7 : Nat) (b : Nat) (w wz : World) {u0 u2 u3 u6 u7 u8 u9 jI jJ jk jl iW iY u16 jc jd je jL mW mX jM jB jG jH jQ jR jS jT jU u32 jV jW jX jY jZ ku kw kz kC kD kE kF kG kH kJ kK kL kM kN kP kQ kR kS kT kU kV kW kX kY kZ lg u64 lh lm lq lu lJ lK lL lM lN lQ lS lT lU lV lW lX lY lZ l9 mf mg mi mr mD mF lD lw mP nP nD oH oI oJ oK oL dE dF dG dH dI dJ dK dL dM dN dO bP bQ bT bU bV bW bY bZ cu cO cZ dh di dw dC dD gJ gK gQ gU gV fO fP fQ fU fV fZ gp gq gu gy gB gG gI eu eF eG eH eP eQ eU eX eY fA fB fC fD fE fF fG fH dS dU dV dW dX dY dZ ed iq iw iy iC iD iE iF iG iH iI iJ iK iL iM iO iP iQ iR iT iU mZ ng : Value} (sc : Str) (hsl : sc.length ≤ 20) (g ck : Nat) (kt : Str) (hkt : kt.length ≤ 400000000000) (hck : 1 ≤ ck) (hc0 : wz.cell? ⟨g,0,none⟩ = some (.string ⟨kt.toArray⟩)) (hS : (GH 5 chan name label xk xn xs xv xt af exprs names tk ts tn tl ag labels kids A1 n1 c1 A2 n2 c2 A3 n3 c3 A4 n4 c4 A5 n5 c5 A6 n6 c6 A7 n7 c7 w wz b)) (hf : bF 1048576 (.mk 5 chan name label xk xn xs xv xt af exprs names tk ts tn tl ag labels kids)) (hH : oM (.mk 5 chan name label xk xn xs xv xt af exprs names tk ts tn tl ag labels kids)) (R : Str) (HR : Hid (sc ++ (([32] : Str) ++ name) ++ [59,32] ++ kt = R)) :
  Code.wp Tryz.prog mY (bodyPost Tryz.prog Tryz.f47 (fun e w' => e = .returned (.string ⟨R.toArray⟩) ∧ Below w.heap.size w w')) { tmps:=#[u0,.pointer (some ⟨b,0,none⟩),u2,u3,.string ⟨sc.toArray⟩,.slice (some ⟨g,0,none⟩) 1 ck,u6,u7,u8,u9,jI,jJ,jk,jl,iW,iY,u16,jc,jd,je,jL,mW,mX,jM,jB,jG,jH,jQ,jR,jS,jT,jU,u32,jV,jW,jX,jY,jZ,ku,kw,kz,kC,kD,kE,kF,kG,kH,kJ,kK,kL,kM,kN,kP,kQ,kR,kS,kT,kU,kV,kW,kX,kY,kZ,lg,u64,lh,lm,lq,lu,lJ,lK,lL,lM,lN,lQ,lS,lT,lU,lV,lW,lX,lY,lZ,l9,mf,mg,mi,mr,mD,mF,lD,lw,mP,nP,nD,oH,oI,oJ,oK,oL,dE,dF,dG,dH,dI,dJ,dK,dL,dM,dN,dO,bP,bQ,bT,bU,bV,bW,bY,bZ,cu,cO,cZ,dh,di,dw,dC,dD,gJ,gK,gQ,gU,gV,fO,fP,fQ,fU,fV,fZ,gp,gq,gu,gy,gB,gG,gI,eu,eF,eG,eH,eP,eQ,eU,eX,eY,fA,fB,fC,fD,fE,fF,fG,fH,dS,dU,dV,dW,dX,dY,dZ,ed,iq,iw,iy,iC,iD,iE,iF,iG,iH,iI,iJ,iK,iL,iM,iO,iP,iQ,iR,iT,iU,mZ,ng],defers:=[] } wz:=by
 have h : mY = Code.seq _ _:=rfl
 rw [h]
 clear h
 have HS:=zH hS
 have HF:=zH hf
 have HH:=zH hH
 obtain ⟨k0,_,k2,_,_,_,_,_,_,_,_,_,_,_,_,_,_,_,_⟩:=hS.bx.mkc
 have z1 : chan.length ≤ 8:=hH.ch
 have z2 : name.length ≤ 8:=hH.nm
 have z3 : label.length ≤ 8:=hH.lb
 clear hS hf hH
 go_wp2_with fail
 go_ret
 exact ⟨by rw [← HR.out]; simp,HS.out.bl⟩
theorem rk_6 (chan name label : Str) (xk : Int) (xn : Str) (xs xv : Int) (xt : Str) (af exprs : List Ex) (names : List Str) (tk ts : Int) (tn : Str) (tl : List Str) (ag : List Ty) (labels : List Str) (kids : List Pr) (A1 : Option Addr) (n1 c1 : Nat) (A2 : Option Addr) (n2 c2 : Nat) (A3 : Option Addr) (n3 c3 : Nat) (A4 : Option Addr) (n4 c4 : Nat) (A5 : Option Addr) (n5 c5 : Nat) (A6 : Option Addr) (n6 c6 : Nat) (A7 : Option Addr) (n7 c7 : Nat) (b : Nat) (w wz : World) {u0 u2 u3 u6 u7 u8 u9 jI jJ jk jl iW iY u16 jc jd je jL mW mX jM jB jG jH jQ jR jS jT jU u32 jV jW jX jY jZ ku kw kz kC kD kE kF kG kH kJ kK kL kM kN kP kQ kR kS kT kU kV kW kX kY kZ lg u64 lh lm lq lu lJ lK lL lM lN lQ lS lT lU lV lW lX lY lZ l9 mf mg mi mr mD mF lD lw mP nP nD oH oI oJ oK oL dE dF dG dH dI dJ dK dL dM dN dO bP bQ bT bU bV bW bY bZ cu cO cZ dh di dw dC dD gJ gK gQ gU gV fO fP fQ fU fV fZ gp gq gu gy gB gG gI eu eF eG eH eP eQ eU eX eY fA fB fC fD fE fF fG fH dS dU dV dW dX dY dZ ed iq iw iy iC iD iE iF iG iH iI iJ iK iL iM iO iP iQ iR iT iU mZ ng : Value} (sc : Str) (hsl : sc.length ≤ 20) (g ck : Nat) (kt : Str) (hkt : kt.length ≤ 400000000000) (hck : 1 ≤ ck) (hc0 : wz.cell? ⟨g,0,none⟩ = some (.string ⟨kt.toArray⟩)) (hS : (GH 6 chan name label xk xn xs xv xt af exprs names tk ts tn tl ag labels kids A1 n1 c1 A2 n2 c2 A3 n3 c3 A4 n4 c4 A5 n5 c5 A6 n6 c6 A7 n7 c7 w wz b)) (hf : bF 1048576 (.mk 6 chan name label xk xn xs xv xt af exprs names tk ts tn tl ag labels kids)) (hH : oM (.mk 6 chan name label xk xn xs xv xt af exprs names tk ts tn tl ag labels kids)) (R : Str) (HR : Hid (sc ++ (([32] : Str) ++ label) ++ [59,32] ++ kt = R)) :
  Code.wp Tryz.prog mY (bodyPost Tryz.prog Tryz.f47 (fun e w' => e = .returned (.string ⟨R.toArray⟩) ∧ Below w.heap.size w w')) { tmps:=#[u0,.pointer (some ⟨b,0,none⟩),u2,u3,.string ⟨sc.toArray⟩,.slice (some ⟨g,0,none⟩) 1 ck,u6,u7,u8,u9,jI,jJ,jk,jl,iW,iY,u16,jc,jd,je,jL,mW,mX,jM,jB,jG,jH,jQ,jR,jS,jT,jU,u32,jV,jW,jX,jY,jZ,ku,kw,kz,kC,kD,kE,kF,kG,kH,kJ,kK,kL,kM,kN,kP,kQ,kR,kS,kT,kU,kV,kW,kX,kY,kZ,lg,u64,lh,lm,lq,lu,lJ,lK,lL,lM,lN,lQ,lS,lT,lU,lV,lW,lX,lY,lZ,l9,mf,mg,mi,mr,mD,mF,lD,lw,mP,nP,nD,oH,oI,oJ,oK,oL,dE,dF,dG,dH,dI,dJ,dK,dL,dM,dN,dO,bP,bQ,bT,bU,bV,bW,bY,bZ,cu,cO,cZ,dh,di,dw,dC,dD,gJ,gK,gQ,gU,gV,fO,fP,fQ,fU,fV,fZ,gp,gq,gu,gy,gB,gG,gI,eu,eF,eG,eH,eP,eQ,eU,eX,eY,fA,fB,fC,fD,fE,fF,fG,fH,dS,dU,dV,dW,dX,dY,dZ,ed,iq,iw,iy,iC,iD,iE,iF,iG,iH,iI,iJ,iK,iL,iM,iO,iP,iQ,iR,iT,iU,mZ,ng],defers:=[] } wz:=by
 have h : mY = Code.seq _ _:=rfl
 rw [h]
 clear h
 have HS:=zH hS
 have HF:=zH hf
 have HH:=zH hH
 obtain ⟨k0,_,_,k3,_,_,_,_,_,_,_,_,_,_,_,_,_,_,_⟩:=hS.bx.mkc
 have z1 : chan.length ≤ 8:=hH.ch
 have z2 : name.length ≤ 8:=hH.nm
 have z3 : label.length ≤ 8:=hH.lb
 clear hS hf hH
 go_wp2_with fail
 go_ret
 exact ⟨by rw [← HR.out]; simp,HS.out.bl⟩
theorem rk_8 (chan name label : Str) (xk : Int) (xn : Str) (xs xv : Int) (xt : Str) (af exprs : List Ex) (names : List Str) (tk ts : Int) (tn : Str) (tl : List Str) (ag : List Ty) (labels : List Str) (kids : List Pr) (A1 : Option Addr) (n1 c1 : Nat) (A2 : Option Addr) (n2 c2 : Nat) (A3 : Option Addr) (n3 c3 : Nat) (A4 : Option Addr) (n4 c4 : Nat) (A5 : Option Addr) (n5 c5 : Nat) (A6 : Option Addr) (n6 c6 : Nat) (A7 : Option Addr) (n7 c7 : Nat) (b : Nat) (w wz : World) {u0 u2 u3 u6 u7 u8 u9 jI jJ jk jl iW iY u16 jc jd je jL mW mX jM jB jG jH jQ jR jS jT jU u32 jV jW jX jY jZ ku kw kz kC kD kE kF kG kH kJ kK kL kM kN kP kQ kR kS kT kU kV kW kX kY kZ lg u64 lh lm lq lu lJ lK lL lM lN lQ lS lT lU lV lW lX lY lZ l9 mf mg mi mr mD mF lD lw mP nP nD oH oI oJ oK oL dE dF dG dH dI dJ dK dL dM dN dO bP bQ bT bU bV bW bY bZ cu cO cZ dh di dw dC dD gJ gK gQ gU gV fO fP fQ fU fV fZ gp gq gu gy gB gG gI eu eF eG eH eP eQ eU eX eY fA fB fC fD fE fF fG fH dS dU dV dW dX dY dZ ed iq iw iy iC iD iE iF iG iH iI iJ iK iL iM iO iP iQ iR iT iU mZ ng : Value} (sc : Str) (hsl : sc.length ≤ 20) (g ck : Nat) (kt : Str) (hkt : kt.length ≤ 400000000000) (hck : 1 ≤ ck) (hc0 : wz.cell? ⟨g,0,none⟩ = some (.string ⟨kt.toArray⟩)) (hS : (GH 8 chan name label xk xn xs xv xt af exprs names tk ts tn tl ag labels kids A1 n1 c1 A2 n2 c2 A3 n3 c3 A4 n4 c4 A5 n5 c5 A6 n6 c6 A7 n7 c7 w wz b)) (hf : bF 1048576 (.mk 8 chan name label xk xn xs xv xt af exprs names tk ts tn tl ag labels kids)) (hH : oM (.mk 8 chan name label xk xn xs xv xt af exprs names tk ts tn tl ag labels kids)) (R : Str) (HR : Hid (sc ++ ([59,32] : Str) ++ kt = R)) :
  Code.wp Tryz.prog mY (bodyPost Tryz.prog Tryz.f47 (fun e w' => e = .returned (.string ⟨R.toArray⟩) ∧ Below w.heap.size w w')) { tmps:=#[u0,.pointer (some ⟨b,0,none⟩),u2,u3,.string ⟨sc.toArray⟩,.slice (some ⟨g,0,none⟩) 1 ck,u6,u7,u8,u9,jI,jJ,jk,jl,iW,iY,u16,jc,jd,je,jL,mW,mX,jM,jB,jG,jH,jQ,jR,jS,jT,jU,u32,jV,jW,jX,jY,jZ,ku,kw,kz,kC,kD,kE,kF,kG,kH,kJ,kK,kL,kM,kN,kP,kQ,kR,kS,kT,kU,kV,kW,kX,kY,kZ,lg,u64,lh,lm,lq,lu,lJ,lK,lL,lM,lN,lQ,lS,lT,lU,lV,lW,lX,lY,lZ,l9,mf,mg,mi,mr,mD,mF,lD,lw,mP,nP,nD,oH,oI,oJ,oK,oL,dE,dF,dG,dH,dI,dJ,dK,dL,dM,dN,dO,bP,bQ,bT,bU,bV,bW,bY,bZ,cu,cO,cZ,dh,di,dw,dC,dD,gJ,gK,gQ,gU,gV,fO,fP,fQ,fU,fV,fZ,gp,gq,gu,gy,gB,gG,gI,eu,eF,eG,eH,eP,eQ,eU,eX,eY,fA,fB,fC,fD,fE,fF,fG,fH,dS,dU,dV,dW,dX,dY,dZ,ed,iq,iw,iy,iC,iD,iE,iF,iG,iH,iI,iJ,iK,iL,iM,iO,iP,iQ,iR,iT,iU,mZ,ng],defers:=[] } wz:=by
 have h : mY = Code.seq _ _:=rfl
 rw [h]
 clear h
 have HS:=zH hS
 have HF:=zH hf
 have HH:=zH hH
 obtain ⟨k0,_,_,_,_,_,_,_,_,_,_,_,_,_,_,_,_,_,_⟩:=hS.bx.mkc
 have z1 : chan.length ≤ 8:=hH.ch
 have z2 : name.length ≤ 8:=hH.nm
 have z3 : label.length ≤ 8:=hH.lb
 clear hS hf hH
 go_wp2_with fail
 go_ret
 exact ⟨by rw [← HR.out]; simp,HS.out.bl⟩
theorem rk_2 (chan name label : Str) (xk : Int) (xn : Str) (xs xv : Int) (xt : Str) (af exprs : List Ex) (names : List Str) (tk ts : Int) (tn : Str) (tl : List Str) (ag : List Ty) (labels : List Str) (kids : List Pr) (A1 : Option Addr) (n1 c1 : Nat) (A2 : Option Addr) (n2 c2 : Nat) (A3 : Option Addr) (n3 c3 : Nat) (A4 : Option Addr) (n4 c4 : Nat) (A5 : Option Addr) (n5 c5 : Nat) (A6 : Option Addr) (n6 c6 : Nat) (A7 : Option Addr) (n7 c7 : Nat) (b : Nat) (w wz : World) {u0 u2 u3 u6 u7 u8 u9 jI jJ jk jl iW iY u16 jc jd je jL mW mX jM jB jG jH jQ jR jS jT jU u32 jV jW jX jY jZ ku kw kz kC kD kE kF kG kH kJ kK kL kM kN kP kQ kR kS kT kU kV kW kX kY kZ lg u64 lh lm lq lu lJ lK lL lM lN lQ lS lT lU lV lW lX lY lZ l9 mf mg mi mr mD mF lD lw mP nP nD oH oI oJ oK oL dE dF dG dH dI dJ dK dL dM dN dO bP bQ bT bU bV bW bY bZ cu cO cZ dh di dw dC dD gJ gK gQ gU gV fO fP fQ fU fV fZ gp gq gu gy gB gG gI eu eF eG eH eP eQ eU eX eY fA fB fC fD fE fF fG fH dS dU dV dW dX dY dZ ed iq iw iy iC iD iE iF iG iH iI iJ iK iL iM iO iP iQ iR iT iU mZ ng : Value} (sc : Str) (hsl : sc.length ≤ 20) (g ck : Nat) (kt : Str) (hkt : kt.length ≤ 400000000000) (hck : 1 ≤ ck) (hc0 : wz.cell? ⟨g,0,none⟩ = some (.string ⟨kt.toArray⟩)) (hS : (GH 2 chan name label xk xn xs xv xt af exprs names tk ts tn tl ag labels kids A1 n1 c1 A2 n2 c2 A3 n3 c3 A4 n4 c4 A5 n5 c5 A6 n6 c6 A7 n7 c7 w wz b)) (hf : bF 1048576 (.mk 2 chan name label xk xn xs xv xt af exprs names tk ts tn tl ag labels kids)) (hH : oM (.mk 2 chan name label xk xn xs xv xt af exprs names tk ts tn tl ag labels kids)) (R : Str) (HR : Hid (sc ++ (([32] : Str) ++ ik (.mk xk xn xs xv xt af)) ++ [59,32] ++ kt = R)) :
  Code.wp Tryz.prog mY (bodyPost Tryz.prog Tryz.f47 (fun e w' => e = .returned (.string ⟨R.toArray⟩) ∧ Below w.heap.size w w')) { tmps:=#[u0,.pointer (some ⟨b,0,none⟩),u2,u3,.string ⟨sc.toArray⟩,.slice (some ⟨g,0,none⟩) 1 ck,u6,u7,u8,u9,jI,jJ,jk,jl,iW,iY,u16,jc,jd,je,jL,mW,mX,jM,jB,jG,jH,jQ,jR,jS,jT,jU,u32,jV,jW,jX,jY,jZ,ku,kw,kz,kC,kD,kE,kF,kG,kH,kJ,kK,kL,kM,kN,kP,kQ,kR,kS,kT,kU,kV,kW,kX,kY,kZ,lg,u64,lh,lm,lq,lu,lJ,lK,lL,lM,lN,lQ,lS,lT,lU,lV,lW,lX,lY,lZ,l9,mf,mg,mi,mr,mD,mF,lD,lw,mP,nP,nD,oH,oI,oJ,oK,oL,dE,dF,dG,dH,dI,dJ,dK,dL,dM,dN,dO,bP,bQ,bT,bU,bV,bW,bY,bZ,cu,cO,cZ,dh,di,dw,dC,dD,gJ,gK,gQ,gU,gV,fO,fP,fQ,fU,fV,fZ,gp,gq,gu,gy,gB,gG,gI,eu,eF,eG,eH,eP,eQ,eU,eX,eY,fA,fB,fC,fD,fE,fF,fG,fH,dS,dU,dV,dW,dX,dY,dZ,ed,iq,iw,iy,iC,iD,iE,iF,iG,iH,iI,iJ,iK,iL,iM,iO,iP,iQ,iR,iT,iU,mZ,ng],defers:=[] } wz:=by
 have h : mY = Code.seq _ _:=rfl
 rw [h]
 clear h
 have HS:=zH hS
 have HF:=zH hf
 have HH:=zH hH
 obtain ⟨k0,_,_,_,k4,k5,k6,k7,k8,k9,_,_,_,_,_,_,_,_,_⟩:=hS.bx.mkc
 have z1 : chan.length ≤ 8:=hH.ch
 have z2 : name.length ≤ 8:=hH.nm
 have z3 : label.length ≤ 8:=hH.lb
 clear hS hf hH
 obtain ⟨e1,e2,e3,e4,e5,e6,e7,e,q1,q2,q3,q4,q5,q6,q7⟩:=id HS.out.pv
 simp only [Value.agg.injEq,Pr.aN,Pr.aT,Pr.aI,Pr.aW,Pr.jm,Pr.jo,Pr.jq,Pr.jv,Pr.jr,Pr.aY,Pr.aV,Pr.aU,Pr.jg,Pr.ji,Pr.jh,Pr.jA,Pr.aX,Pr.aH,Pr.aK] at e q1 q2 q3 q4 q5 q6 q7
 have e':=congrArg Array.toList e
 simp only [List.cons.injEq,and_true,true_and] at e'
 obtain ⟨Ag,Ah,Ai,Aj,Am,Ap,Aq⟩:=e'
 subst Ag Ah Ai Aj Am Ap Aq
 have hxv : uy All wz (.agg #[.int .i64 xk,.string ⟨xn.toArray⟩,.int .i64 xs,.int .i64 xv,.string ⟨xt.toArray⟩,.slice A1 n1 c1]) (.mk xk xn xs xv xt af):=⟨_,rfl,q1⟩
 have hxe : lF (.mk xk xn xs xv xt af) = 0:=HH.out.ex rfl
 have yY : bI 1048576 (.mk xk xn xs xv xt af):=wM HF.out
 obtain ⟨X,hX⟩ : ∃ x,ik (.mk xk xn xs xv xt af) = x:=⟨_,rfl⟩
 have LM : X.length ≤ 240000000:=by rw [← hX]; exact qj hxe yY
 have HX:=zH hX
 have GG:=zH hxv
 have Gz:=zH hxe
 have E8:=zH yY
 rw [hX] at HR
 clear e q1 q2 q3 q4 q5 q6 q7 hX hxv hxe yY
 go_wp2_with fail
 refine Calls.mono (vI (.mk xk xn xs xv xt af) _ wz (GG.out.below (Below.refl _ _)) E8.out Gz.out) ?_
 rw [HX.out]
 rintro e w2 ⟨rfl,hb2⟩
 have hd0:=ae hc0 hb2
 go_wp2_with fail
 go_ret
 exact ⟨by rw [← HR.out]; simp,(HS.out.next hb2).bl⟩
theorem take_set_drop {f : Str → Value} {P KT : List Str} {k : Nat} {x y : Str} (h1 : P[k]? = some x) (h2 : KT[k]? = some y) (hl : P.length = KT.length) : ((P.take k ++ KT.drop k).map f).set k (f x) = (P.take (k + 1) ++ KT.drop (k + 1)).map f:=by
 obtain ⟨a1,a2⟩:=List.getElem?_eq_some_iff.1 h1
 obtain ⟨b1,b2⟩:=List.getElem?_eq_some_iff.1 h2
 rw [List.drop_eq_getElem_cons b1,List.take_add_one,h1,List.map_append,List.map_append,List.set_append_right _ _ (by simp; omega)]
 simp only [List.length_map,List.length_take,Nat.min_eq_left (Nat.le_of_lt a1),Nat.sub_self,List.map_cons,List.set_cons_zero,Option.toList_some,List.map_append,List.map_nil,List.append_assoc,List.cons_append,List.nil_append]
theorem rk_7 (chan name label : Str) (xk : Int) (xn : Str) (xs xv : Int) (xt : Str) (af exprs : List Ex) (names : List Str) (tk ts : Int) (tn : Str) (tl : List Str) (ag : List Ty) (labels : List Str) (kids : List Pr) (A1 : Option Addr) (n1 c1 : Nat) (A2 : Option Addr) (n2 c2 : Nat) (A3 : Option Addr) (n3 c3 : Nat) (A4 : Option Addr) (n4 c4 : Nat) (A5 : Option Addr) (n5 c5 : Nat) (A6 : Option Addr) (n6 c6 : Nat) (A7 : Option Addr) (n7 c7 : Nat) (b : Nat) (w wz : World) {u0 u2 u3 u6 u7 u8 u9 jI jJ jk jl iW iY u16 jc jd je jL mW mX jM jB jG jH jQ jR jS jT jU u32 jV jW jX jY jZ ku kw kz kC kD kE kF kG kH kJ kK kL kM kN kP kQ kR kS kT kU kV kW kX kY kZ lg u64 lh lm lq lu lJ lK lL lM lN lQ lS lT lU lV lW lX lY lZ l9 mf mg mi mr mD mF lD lw mP nP nD oH oI oJ oK oL dE dF dG dH dI dJ dK dL dM dN dO bP bQ bT bU bV bW bY bZ cu cO cZ dh di dw dC dD gJ gK gQ gU gV fO fP fQ fU fV fZ gp gq gu gy gB gG gI eu eF eG eH eP eQ eU eX eY fA fB fC fD fE fF fG fH dS dU dV dW dX dY dZ ed iq iw iy iC iD iE iF iG iH iI iJ iK iL iM iO iP iQ iR iT iU mZ ng : Value} (sc : Str) (hsl : sc.length ≤ 20) (N nk : Nat) (Ak : Option Addr) (ck : Nat) (KT : List Str) (hKT : KT.length = nk) (hKL : labels.length = nk) (hKS : ∀ s ∈ KT,s.length ≤ 400000000000) (hwN : w.heap.size ≤ N) (hbN : b < N) (hnck : nk ≤ ck) (hown : wz.ownsRow N 9 1 (.slice Ak nk ck) nk (KT.map fun s => .string ⟨s.toArray⟩)) (hlab : aF w (.slice A6 n6 c6) labels) (hS : (GH 7 chan name label xk xn xs xv xt af exprs names tk ts tn tl ag labels kids A1 n1 c1 A2 n2 c2 A3 n3 c3 A4 n4 c4 A5 n5 c5 A6 n6 c6 A7 n7 c7 w wz b)) (hf : bF 1048576 (.mk 7 chan name label xk xn xs xv xt af exprs names tk ts tn tl ag labels kids)) (hH : oM (.mk 7 chan name label xk xn xs xv xt af exprs names tk ts tn tl ag labels kids)) (R : Str) (HR : Hid (sc ++ ([32,123] : Str) ++ bn comma (List.zipWith (fun (l : Str) (k : Str) => l ++ [58,32] ++ k) labels KT) ++ [125] = R)) :
  Code.wp Tryz.prog mY (bodyPost Tryz.prog Tryz.f47 (fun e w' => e = .returned (.string ⟨R.toArray⟩) ∧ Below w.heap.size w w')) { tmps:=#[u0,.pointer (some ⟨b,0,none⟩),u2,u3,.string ⟨sc.toArray⟩,.slice Ak nk ck,u6,u7,u8,u9,jI,jJ,jk,jl,iW,iY,u16,jc,jd,je,jL,mW,mX,jM,jB,jG,jH,jQ,jR,jS,jT,jU,u32,jV,jW,jX,jY,jZ,ku,kw,kz,kC,kD,kE,kF,kG,kH,kJ,kK,kL,kM,kN,kP,kQ,kR,kS,kT,kU,kV,kW,kX,kY,kZ,lg,u64,lh,lm,lq,lu,lJ,lK,lL,lM,lN,lQ,lS,lT,lU,lV,lW,lX,lY,lZ,l9,mf,mg,mi,mr,mD,mF,lD,lw,mP,nP,nD,oH,oI,oJ,oK,oL,dE,dF,dG,dH,dI,dJ,dK,dL,dM,dN,dO,bP,bQ,bT,bU,bV,bW,bY,bZ,cu,cO,cZ,dh,di,dw,dC,dD,gJ,gK,gQ,gU,gV,fO,fP,fQ,fU,fV,fZ,gp,gq,gu,gy,gB,gG,gI,eu,eF,eG,eH,eP,eQ,eU,eX,eY,fA,fB,fC,fD,fE,fF,fG,fH,dS,dU,dV,dW,dX,dY,dZ,ed,iq,iw,iy,iC,iD,iE,iF,iG,iH,iI,iJ,iK,iL,iM,iO,iP,iQ,iR,iT,iU,mZ,ng],defers:=[] } wz:=by
 have h : mY = Code.seq _ _:=rfl
 rw [h]
 clear h
 have HS:=zH hS
 have HF:=zH hf
 have HH:=zH hH
 obtain ⟨k0,_,_,_,_,_,_,_,_,_,_,_,_,_,_,_,_,k17,_⟩:=hS.bx.mkc
 have z1 : chan.length ≤ 8:=hH.ch
 have z2 : name.length ≤ 8:=hH.nm
 have z3 : label.length ≤ 8:=hH.lb
 clear hS hf hH
 have hls:=HH.out.ls
 have IJ:=HH.out.l8
 simp only [Pr.aH] at hls IJ
 have D7 : n6 = labels.length:=by obtain ⟨_,_,e,-⟩:=hlab; injection e
 obtain ⟨P,hP⟩ : ∃ x,List.zipWith (fun (l : Str) (k : Str) => l ++ [58,32] ++ k) labels KT = x:=⟨_,rfl⟩
 have GY : ∀ (i : Nat) (l : Str) (k : Str),labels[i]? = some l → KT[i]? = some k → P[i]? = some (l ++ [58,32] ++ k):=by
  intro i l k h1 h2
  rw [← hP,List.getElem?_zipWith,h1,h2]
 have hPl : P.length = nk:=by rw [← hP,List.length_zipWith]; omega
 have DV : ∀ s ∈ P,s.length ≤ 400000000100:=by
  intro s hs
  obtain ⟨i,hi⟩:=List.mem_iff_getElem?.1 hs
  have hil : i < P.length:=(List.getElem?_eq_some_iff.1 hi).1
  have h1:=List.getElem?_eq_getElem (l:=labels) (show i < labels.length by omega)
  have h2:=List.getElem?_eq_getElem (l:=KT) (show i < KT.length by omega)
  rw [GY i _ _ h1 h2] at hi
  have:=Option.some.inj hi
  have h3:=IJ _ (List.mem_iff_getElem?.2 ⟨i,h1⟩)
  have h4:=hKS _ (List.mem_iff_getElem?.2 ⟨i,h2⟩)
  rw [← this]
  simp only [zG,zJ,zK]
  omega
 have Jv:=nN (sep:=comma) (l:=P) (B:=400000000100) DV
 have hcl : comma.length = 2:=rfl
 rw [hcl] at Jv
 rw [hP] at HR
 obtain ⟨JE,EI⟩ : ∃ x,bn comma P = x:=⟨_,rfl⟩
 have hnkl : nk ≤ 6:=by omega
 have Oq : JE.length ≤ 3000000000000:=by rw [← EI]; omega
 rw [EI] at HR
 have DU:=zH hPl
 have NY:=zH GY
 have I4:=zH EI
 have Tm:=zH hKT
 have Pg:=zH hKL
 have Hu:=zH D7
 have Tn:=zH IJ
 have zZ:=zH hKS
 have I5:=zH hlab
 have HOWN0:=zH hown
 have TG:=zH k17
 clear hP DV EI hKT hKL hls IJ hKS Jv hcl hPl GY hlab hown D7
 go_wp2_with fail
 go_loopw [7] (fun iv wr => ∃ (k : Nat),k ≤ nk ∧ iv = .int .i64 k ∧ Hid (wr.ownsRow N 9 1 (.slice Ak nk ck) nk ((P.take k ++ KT.drop k).map fun s => .string ⟨s.toArray⟩)) ∧ Hid (Below N wz wr)) (fun iv _ => nk - (intOf iv).toNat)
 case atStart => exact ⟨0,by omega,rfl,zH (by simpa using HOWN0.out),zH (Below.refl _ _)⟩
 case round =>
  obtain ⟨k,hk,rfl,HOWN,qF⟩:=hrel
  by_cases hlt : k < nk
  ·obtain ⟨T,hT⟩ : ∃ y,KT[k]? = some y:=⟨_,List.getElem?_eq_getElem (by have:=Tm.out; omega)⟩
   obtain ⟨l,hl'⟩ : ∃ y,labels[k]? = some y:=⟨_,List.getElem?_eq_getElem (by have:=Pg.out; omega)⟩
   have yz:=NY.out k l T hl' hT
   have hll:=Tn.out l (az hl')
   have htl:=zZ.out T (az hT)
   obtain ⟨Al,capl,el,hlc,wB⟩:=I5.out
   injection el with el1 el2 el3
   subst el1 el3
   obtain ⟨lb,lo,rfl,hlr⟩:=wB (by have:=Pg.out; omega)
   have xI:=hlr k l hl'
   have hlb:=cell_lt xI
   have UO:=(HS.out.bl.cell (p:=⟨lb,lo + k,none⟩) hlb).trans xI
   have kl:=(qF.out.cell (p:=⟨lb,lo + k,none⟩) (Nat.lt_of_lt_of_le hlb hwN)).trans UO
   have r17:=(qF.out.cell (p:=⟨b,17,none⟩) hbN).trans TG.out
   obtain ⟨g,rfl,hgN,hgl,gz,Jn,hset⟩:=qx HOWN.out k hlt (.string ⟨(l ++ 58 :: 32 :: T).toArray⟩)
   have gk : wr.cell? ⟨g,k,none⟩ = some (.string ⟨T.toArray⟩):=by
    refine Jn k _ ?_
    rw [List.getElem?_map,List.getElem?_append_right (by simp; omega),List.getElem?_drop]
    have : (P.take k).length = k:=by rw [List.length_take]; have:=DU.out; omega
    rw [this,show k + (k - k) = k by omega,hT]
    rfl
   have Nb : (wr.setCell ⟨g,k,none⟩ (.string ⟨(l ++ 58 :: 32 :: T).toArray⟩)).ownsRow N 9 1 (.slice (some ⟨g,0,none⟩) nk ck) nk ((P.take (k + 1) ++ KT.drop (k + 1)).map fun s => .string ⟨s.toArray⟩):=by
    have h3:=take_set_drop (f:=fun s => Value.string ⟨s.toArray⟩) yz hT (by have:=DU.out; have:=Tm.out; omega)
    rw [← h3]
    have : l ++ [58,32] ++ T = l ++ 58 :: 32 :: T:=by simp
    rw [this]
    exact hset
   have HSET:=zH Nb
   have HBS:=zH (qF.out.setCell (p:=⟨g,k,none⟩) hgN (.string ⟨(l ++ 58 :: 32 :: T).toArray⟩))
   have hc6 : n6 ≤ c6:=by have:=Hu.out; omega
   have hkn6 : k < n6:=by have:=Hu.out; have:=Pg.out; omega
   clear yz hT hl' wB hlr xI UO Jn hset Nb hlc el2
   go_wp2_with fail
   have hb0 : Below wr.heap.size wr wr.drew:=(Below.refl _ _).drew
   have fJ:=zH (fun (wq : World) (hSw : Below wr.heap.size wr wq) => And.intro (ae r17 hSw) (And.intro (ae kl hSw) (ae gk hSw)))
   refine aC 14 (fun w' : World => Below wr.heap.size wr w') (by kernel_rfl) ?_
   refine zT 0 ?_ rfl (Or.inl ⟨by rfl,?_⟩) hb0 ?_
   rotate_left
   ·(intro wq hSw; obtain ⟨_,_,_⟩:=fJ.out wq hSw; go_simp; all_goals first | with_reducible rfl | rw [zI])
   try simp only [zA,zB,zC,Act.put,zD,zE,zF]
   refine zT 1 ?_ rfl (Or.inl ⟨by rfl,?_⟩) hb0 ?_
   rotate_left
   ·(intro wq hSw; obtain ⟨_,_,_⟩:=fJ.out wq hSw; go_simp; all_goals first | with_reducible rfl | rw [zI])
   try simp only [zA,zB,zC,Act.put,zD,zE,zF]
   refine zT 2 ?_ rfl (Or.inl ⟨by rfl,?_⟩) hb0 ?_
   rotate_left
   ·(intro wq hSw; obtain ⟨_,_,_⟩:=fJ.out wq hSw; go_simp; all_goals first | with_reducible rfl | rw [zI])
   try simp only [zA,zB,zC,Act.put,zD,zE,zF]
   refine zT 3 ?_ rfl (Or.inl ⟨by rfl,?_⟩) hb0 ?_
   rotate_left
   ·(intro wq hSw; obtain ⟨_,_,_⟩:=fJ.out wq hSw; go_simp; all_goals first | with_reducible rfl | rw [zI])
   try simp only [zA,zB,zC,Act.put,zD,zE,zF]
   refine zT 4 ?_ rfl (Or.inl ⟨by rfl,?_⟩) hb0 ?_
   rotate_left
   ·(intro wq hSw; obtain ⟨_,_,_⟩:=fJ.out wq hSw; go_simp; all_goals first | with_reducible rfl | rw [zI])
   try simp only [zA,zB,zC,Act.put,zD,zE,zF]
   refine zT 5 ?_ rfl (Or.inl ⟨by rfl,?_⟩) hb0 ?_
   rotate_left
   ·(intro wq hSw; obtain ⟨_,_,_⟩:=fJ.out wq hSw; go_simp; all_goals first | with_reducible rfl | rw [zI])
   try simp only [zA,zB,zC,Act.put,zD,zE,zF]
   refine zT 6 ?_ rfl (Or.inl ⟨by rfl,?_⟩) hb0 ?_
   rotate_left
   ·(intro wq hSw; obtain ⟨_,_,_⟩:=fJ.out wq hSw; go_simp; all_goals first | with_reducible rfl | rw [zI])
   try simp only [zA,zB,zC,Act.put,zD,zE,zF]
   refine zT 7 ?_ rfl (Or.inl ⟨by rfl,?_⟩) hb0 ?_
   rotate_left
   ·(intro wq hSw; obtain ⟨_,_,_⟩:=fJ.out wq hSw; go_simp; all_goals first | with_reducible rfl | rw [zI])
   try simp only [zA,zB,zC,Act.put,zD,zE,zF]
   refine zT 8 ?_ rfl (Or.inl ⟨by rfl,?_⟩) hb0 ?_
   rotate_left
   ·(intro wq hSw; obtain ⟨_,_,_⟩:=fJ.out wq hSw; go_simp; all_goals first | with_reducible rfl | rw [zI])
   try simp only [zA,zB,zC,Act.put,zD,zE,zF]
   refine zT 9 ?_ rfl (Or.inl ⟨by rfl,?_⟩) hb0 ?_
   rotate_left
   ·(intro wq hSw; obtain ⟨_,_,_⟩:=fJ.out wq hSw; go_simp; all_goals first | with_reducible rfl | rw [zI])
   try simp only [zA,zB,zC,Act.put,zD,zE,zF]
   refine zT 10 ?_ rfl (Or.inl ⟨by rfl,?_⟩) hb0 ?_
   rotate_left
   ·(intro wq hSw; obtain ⟨_,_,_⟩:=fJ.out wq hSw; go_simp; all_goals first | with_reducible rfl | rw [zI])
   try simp only [zA,zB,zC,Act.put,zD,zE,zF]
   refine zT 11 ?_ rfl (Or.inl ⟨by rfl,?_⟩) hb0 ?_
   rotate_left
   ·(intro wq hSw; obtain ⟨_,_,_⟩:=fJ.out wq hSw; go_simp; all_goals first | with_reducible rfl | rw [zI])
   try simp only [zA,zB,zC,Act.put,zD,zE,zF]
   refine zT 12 ?_ rfl (Or.inl ⟨by rfl,?_⟩) hb0 ?_
   rotate_left
   ·(intro wq hSw; obtain ⟨_,_,_⟩:=fJ.out wq hSw; go_simp; all_goals first | with_reducible rfl | rw [zI])
   try simp only [zA,zB,zC,Act.put,zD,zE,zF]
   refine zT 13 ?_ rfl (Or.inl ⟨by rfl,?_⟩) hb0 ?_
   rotate_left
   ·(intro wq hSw; obtain ⟨_,_,_⟩:=fJ.out wq hSw; go_simp; all_goals first | with_reducible rfl | rw [zI])
   try simp only [zA,zB,zC,Act.put,zD,zE,zF]
   refine zO 14 fun K hK => ?_
   have gk':=ae gk hb0
   have gz' : wr.drew.frozen? ⟨g,k,none⟩ = false:=gz
   go_simp
   refine hK.out _ _ (fun h => absurd h (by decide)) ?_
   clear hK K
   try simp only [zA,zB,zC,Act.put,zD,zE,zF]
   refine bf (by kernel_rfl) ?_
   go_wp2_with fail
   go_roundw
   case rel => exact ⟨k + 1,by omega,by go_num,HSET,zH HBS.out.drew⟩
   case measure => simp [intOf]; omega
  ·have hkn : k = nk:=by omega
   subst hkn
   have hpv : aF wr (.slice Ak k ck) P:=by
    have h1:=HOWN.out
    rw [List.take_of_length_le (by rw [DU.out]; exact Nat.le_refl _),List.drop_eq_nil_of_le (by rw [Tm.out]; exact Nat.le_refl _),List.append_nil] at h1
    have h2 : wr.ownsRow N 9 1 (.slice Ak k ck) P.length (P.map fun s => .string ⟨s.toArray⟩):=by rw [DU.out]; exact h1
    exact (uX (D:=All) h2 fun _ _ => trivial).is
   have Ip:=zH hpv
   clear hpv k0 k17
   go_wp2_with fail
   refine Calls.mono (qX _ P comma wr Ip.out (by have:=DU.out; omega) (by rw [I4.out]; omega)) ?_
   rw [I4.out]
   rintro e w2 ⟨rfl,hb2⟩
   go_wp2_with fail
   go_ret
   exact ⟨by rw [← HR.out]; simp,chain (HS.out.bl.trans (qF.out.mono hwN)) hb2⟩
theorem rk_9 (chan name label : Str) (xk : Int) (xn : Str) (xs xv : Int) (xt : Str) (af exprs : List Ex) (names : List Str) (tk ts : Int) (tn : Str) (tl : List Str) (ag : List Ty) (labels : List Str) (kids : List Pr) (A1 : Option Addr) (n1 c1 : Nat) (A2 : Option Addr) (n2 c2 : Nat) (A3 : Option Addr) (n3 c3 : Nat) (A4 : Option Addr) (n4 c4 : Nat) (A5 : Option Addr) (n5 c5 : Nat) (A6 : Option Addr) (n6 c6 : Nat) (A7 : Option Addr) (n7 c7 : Nat) (b : Nat) (w wz : World) {u0 u2 u3 u6 u7 u8 u9 jI jJ jk jl iW iY u16 jc jd je jL mW mX jM jB jG jH jQ jR jS jT jU u32 jV jW jX jY jZ ku kw kz kC kD kE kF kG kH kJ kK kL kM kN kP kQ kR kS kT kU kV kW kX kY kZ lg u64 lh lm lq lu lJ lK lL lM lN lQ lS lT lU lV lW lX lY lZ l9 mf mg mi mr mD mF lD lw mP nP nD oH oI oJ oK oL dE dF dG dH dI dJ dK dL dM dN dO bP bQ bT bU bV bW bY bZ cu cO cZ dh di dw dC dD gJ gK gQ gU gV fO fP fQ fU fV fZ gp gq gu gy gB gG gI eu eF eG eH eP eQ eU eX eY fA fB fC fD fE fF fG fH dS dU dV dW dX dY dZ ed iq iw iy iC iD iE iF iG iH iI iJ iK iL iM iO iP iQ iR iT iU mZ ng : Value} (sc : Str) (hsl : sc.length ≤ 20) (g ck : Nat) (ka kb : Str) (hka : ka.length ≤ 400000000000) (hkb : kb.length ≤ 400000000000) (hck : 2 ≤ ck) (hc0 : wz.cell? ⟨g,0,none⟩ = some (.string ⟨ka.toArray⟩)) (hc1 : wz.cell? ⟨g,1,none⟩ = some (.string ⟨kb.toArray⟩)) (hS : (GH 9 chan name label xk xn xs xv xt af exprs names tk ts tn tl ag labels kids A1 n1 c1 A2 n2 c2 A3 n3 c3 A4 n4 c4 A5 n5 c5 A6 n6 c6 A7 n7 c7 w wz b)) (hf : bF 1048576 (.mk 9 chan name label xk xn xs xv xt af exprs names tk ts tn tl ag labels kids)) (hH : oM (.mk 9 chan name label xk xn xs xv xt af exprs names tk ts tn tl ag labels kids)) (R : Str) (HR : Hid (sc ++ (([58] : Str) ++ txt (.mk tk ts tn tl ag) ++ [32,40] ++ bn comma names ++ [41,32,123] ++ ka ++ [125]) ++ [59,32] ++ kb = R)) :
  Code.wp Tryz.prog mY (bodyPost Tryz.prog Tryz.f47 (fun e w' => e = .returned (.string ⟨R.toArray⟩) ∧ Below w.heap.size w w')) { tmps:=#[u0,.pointer (some ⟨b,0,none⟩),u2,u3,.string ⟨sc.toArray⟩,.slice (some ⟨g,0,none⟩) 2 ck,u6,u7,u8,u9,jI,jJ,jk,jl,iW,iY,u16,jc,jd,je,jL,mW,mX,jM,jB,jG,jH,jQ,jR,jS,jT,jU,u32,jV,jW,jX,jY,jZ,ku,kw,kz,kC,kD,kE,kF,kG,kH,kJ,kK,kL,kM,kN,kP,kQ,kR,kS,kT,kU,kV,kW,kX,kY,kZ,lg,u64,lh,lm,lq,lu,lJ,lK,lL,lM,lN,lQ,lS,lT,lU,lV,lW,lX,lY,lZ,l9,mf,mg,mi,mr,mD,mF,lD,lw,mP,nP,nD,oH,oI,oJ,oK,oL,dE,dF,dG,dH,dI,dJ,dK,dL,dM,dN,dO,bP,bQ,bT,bU,bV,bW,bY,bZ,cu,cO,cZ,dh,di,dw,dC,dD,gJ,gK,gQ,gU,gV,fO,fP,fQ,fU,fV,fZ,gp,gq,gu,gy,gB,gG,gI,eu,eF,eG,eH,eP,eQ,eU,eX,eY,fA,fB,fC,fD,fE,fF,fG,fH,dS,dU,dV,dW,dX,dY,dZ,ed,iq,iw,iy,iC,iD,iE,iF,iG,iH,iI,iJ,iK,iL,iM,iO,iP,iQ,iR,iT,iU,mZ,ng],defers:=[] } wz:=by
 have h : mY = Code.seq _ _:=rfl
 rw [h]
 clear h
 have HS:=zH hS
 have HF:=zH hf
 have HH:=zH hH
 obtain ⟨k0,_,_,_,_,_,_,_,_,_,_,k11,k12,k13,k14,k15,k16,_,_⟩:=hS.bx.mkc
 have z1 : chan.length ≤ 8:=hH.ch
 have z2 : name.length ≤ 8:=hH.nm
 have z3 : label.length ≤ 8:=hH.lb
 clear hS hf hH
 obtain ⟨e1,e2,e3,e4,e5,e6,e7,e,q1,q2,q3,q4,q5,q6,q7⟩:=id HS.out.pv
 simp only [Value.agg.injEq,Pr.aN,Pr.aT,Pr.aI,Pr.aW,Pr.jm,Pr.jo,Pr.jq,Pr.jv,Pr.jr,Pr.aY,Pr.aV,Pr.aU,Pr.jg,Pr.ji,Pr.jh,Pr.jA,Pr.aX,Pr.aH,Pr.aK] at e q1 q2 q3 q4 q5 q6 q7
 have e':=congrArg Array.toList e
 simp only [List.cons.injEq,and_true,true_and] at e'
 obtain ⟨Ag,Ah,Ai,Aj,Am,Ap,Aq⟩:=e'
 subst Ag Ah Ai Aj Am Ap Aq
 have hp:=HF.out.parts
 simp only [Pr.aN,Pr.aT,Pr.aI,Pr.aW,Pr.jm,Pr.jo,Pr.jq,Pr.jv,Pr.jr,Pr.aY,Pr.aV,Pr.aU,Pr.jg,Pr.ji,Pr.jh,Pr.jA,Pr.aX,Pr.aH,Pr.aK] at hp
 have QP : Fit (.mk tk ts tn tl ag):=.mk _ _ _ _ _ hp.2.2.2.2.2.2.2.2.2.2.2.2.2.2.2.1 hp.2.2.2.2.2.2.2.2.2.2.2.2.2.2.2.2.1 (Nat.le_trans hp.2.2.2.2.2.2.2.2.2.2.2.2.2.2.2.2.2.1 (by unfold maxLen; omega)) (Nat.le_trans hp.2.2.2.2.2.2.2.2.2.2.2.2.2.2.2.2.2.2.1 (by unfold maxLen; omega)) (fun l hl => Nat.le_trans (hp.2.2.2.2.2.2.2.2.2.2.2.2.2.2.2.2.2.2.2.1 l hl) (by unfold maxLen; omega)) (Nat.le_trans hp.2.2.2.2.2.2.2.2.2.2.2.2.2.2.2.2.2.2.2.2.1 (by unfold maxLen; omega)) hp.2.2.2.2.2.2.2.2.2.2.2.2.2.2.2.2.2.2.2.2.2.1
 have hye : pg (.mk tk ts tn tl ag) = 0:=HH.out.ty rfl
 have hyv : ny wz (.agg #[.int .i64 tk,.int .i64 ts,.string ⟨tn.toArray⟩,.slice A4 n4 c4,.slice A5 n5 c5]) (.mk tk ts tn tl ag):=⟨_,_,rfl,q4.is,q5.is⟩
 have QH : aF wz (.slice A3 n3 c3) names:=q3.is
 have D7:=HH.out.ns
 have hjl:=nN (sep:=comma) (l:=names) (B:=8) HH.out.n8
 have hcl : comma.length = 2:=rfl
 rw [hcl] at hjl
 simp only [Pr.aU] at D7
 obtain ⟨Y,hY⟩ : ∃ x,txt (.mk tk ts tn tl ag) = x:=⟨_,rfl⟩
 obtain ⟨J,hJ⟩ : ∃ x,bn comma names = x:=⟨_,rfl⟩
 have hYl : Y.length ≤ 6000:=by rw [← hY]; exact AP hye
 have hJl : J.length ≤ 60:=by rw [← hJ]; omega
 have HY:=zH hY
 have HJ:=zH hJ
 have PY:=zH hyv
 have TE:=zH hye
 have UB:=zH QP
 have L6:=zH (And.intro QH D7)
 rw [hY,hJ] at HR
 clear e q1 q2 q3 q4 q5 q6 hY hJ hyv hye QP QH D7 hjl hcl hp
 clear q7
 go_wp2_with fail
 have hb0 : Below wz.heap.size wz wz.drew:=(Below.refl _ _).drew
 have fJ:=zH (fun (wq : World) (hSw : Below wz.heap.size wz wq) => And.intro (ae k11 hSw) (And.intro (ae k12 hSw) (And.intro (ae k13 hSw) (And.intro (ae k14 hSw) (And.intro (ae k15 hSw) (And.intro (ae k16 hSw) (ae hc0 hSw)))))))
 refine aC 17 (fun w' : World => Below wz.heap.size wz w') (by kernel_rfl) ?_
 refine zT 0 ?_ rfl (Or.inl ⟨by rfl,?_⟩) hb0 ?_
 rotate_left
 ·(intro wq hSw; obtain ⟨_,_,_,_,_,_,_⟩:=fJ.out wq hSw; go_simp; all_goals first | with_reducible rfl | rw [zI])
 try simp only [zA,zB,zC,Act.put,zD,zE,zF]
 refine zT 1 ?_ rfl (Or.inl ⟨by rfl,?_⟩) hb0 ?_
 rotate_left
 ·(intro wq hSw; obtain ⟨_,_,_,_,_,_,_⟩:=fJ.out wq hSw; go_simp; all_goals first | with_reducible rfl | rw [zI])
 try simp only [zA,zB,zC,Act.put,zD,zE,zF]
 refine zT 2 ?_ rfl (Or.inl ⟨by rfl,?_⟩) hb0 ?_
 rotate_left
 ·(intro wq hSw; obtain ⟨_,_,_,_,_,_,_⟩:=fJ.out wq hSw; go_simp; all_goals first | with_reducible rfl | rw [zI])
 try simp only [zA,zB,zC,Act.put,zD,zE,zF]
 refine zT 6 ?_ rfl (Or.inl ⟨by rfl,?_⟩) hb0 ?_
 rotate_left
 ·(intro wq hSw; obtain ⟨_,_,_,_,_,_,_⟩:=fJ.out wq hSw; go_simp; all_goals first | with_reducible rfl | rw [zI])
 try simp only [zA,zB,zC,Act.put,zD,zE,zF]
 refine zT 7 ?_ rfl (Or.inl ⟨by rfl,?_⟩) hb0 ?_
 rotate_left
 ·(intro wq hSw; obtain ⟨_,_,_,_,_,_,_⟩:=fJ.out wq hSw; go_simp; all_goals first | with_reducible rfl | rw [zI])
 try simp only [zA,zB,zC,Act.put,zD,zE,zF]
 refine zT 11 ?_ rfl (Or.inl ⟨by rfl,?_⟩) hb0 ?_
 rotate_left
 ·(intro wq hSw; obtain ⟨_,_,_,_,_,_,_⟩:=fJ.out wq hSw; go_simp; all_goals first | with_reducible rfl | rw [zI])
 try simp only [zA,zB,zC,Act.put,zD,zE,zF]
 refine zT 12 ?_ rfl (Or.inl ⟨by rfl,?_⟩) hb0 ?_
 rotate_left
 ·(intro wq hSw; obtain ⟨_,_,_,_,_,_,_⟩:=fJ.out wq hSw; go_simp; all_goals first | with_reducible rfl | rw [zI])
 try simp only [zA,zB,zC,Act.put,zD,zE,zF]
 refine zT 13 ?_ rfl (Or.inl ⟨by rfl,?_⟩) hb0 ?_
 rotate_left
 ·(intro wq hSw; obtain ⟨_,_,_,_,_,_,_⟩:=fJ.out wq hSw; go_simp; all_goals first | with_reducible rfl | rw [zI])
 try simp only [zA,zB,zC,Act.put,zD,zE,zF]
 refine zO 3 fun K hK => ?_
 go_simp
 refine Calls.mono (Dx (.mk tk ts tn tl ag) _ wz.drew (PY.out.keep hb0) TE.out) ?_
 rw [HY.out]
 rintro e w2 ⟨rfl,hq⟩
 have hb1:=chain hb0 hq
 clear hq
 refine hK.out _ _ (fun _ => hb1) ?_
 clear hK K
 try simp only [zA,zB,zC,Act.put,zD,zE,zF]
 refine zT 4 ?_ rfl (Or.inl ⟨by rfl,?_⟩) hb1 ?_
 rotate_left
 ·(intro wq hSw; obtain ⟨_,_,_,_,_,_,_⟩:=fJ.out wq hSw; go_simp; all_goals first | with_reducible rfl | rw [zI])
 try simp only [zA,zB,zC,Act.put,zD,zE,zF]
 refine zT 5 ?_ rfl (Or.inl ⟨by rfl,?_⟩) hb1 ?_
 rotate_left
 ·(intro wq hSw; obtain ⟨_,_,_,_,_,_,_⟩:=fJ.out wq hSw; go_simp; all_goals first | with_reducible rfl | rw [zI])
 try simp only [zA,zB,zC,Act.put,zD,zE,zF]
 refine zO 8 fun K hK => ?_
 go_simp
 refine Calls.mono (qX _ names comma w2 (L6.out.1.keep hb1) (by have:=L6.out.2; omega) (by rw [HJ.out]; omega)) ?_
 rw [HJ.out]
 rintro e w3 ⟨rfl,hq⟩
 have hb2:=chain hb1 hq
 clear hq
 refine hK.out _ _ (fun _ => hb2) ?_
 clear hK K
 try simp only [zA,zB,zC,Act.put,zD,zE,zF]
 refine zT 9 ?_ rfl (Or.inl ⟨by rfl,?_⟩) hb2 ?_
 rotate_left
 ·(intro wq hSw; obtain ⟨_,_,_,_,_,_,_⟩:=fJ.out wq hSw; go_simp; all_goals first | with_reducible rfl | rw [zI])
 try simp only [zA,zB,zC,Act.put,zD,zE,zF]
 refine zT 10 ?_ rfl (Or.inl ⟨by rfl,?_⟩) hb2 ?_
 rotate_left
 ·(intro wq hSw; obtain ⟨_,_,_,_,_,_,_⟩:=fJ.out wq hSw; go_simp; all_goals first | with_reducible rfl | rw [zI])
 try simp only [zA,zB,zC,Act.put,zD,zE,zF]
 refine zT 14 ?_ rfl (Or.inl ⟨by rfl,?_⟩) hb2 ?_
 rotate_left
 ·(intro wq hSw; obtain ⟨_,_,_,_,_,_,_⟩:=fJ.out wq hSw; go_simp; all_goals first | with_reducible rfl | rw [zI])
 try simp only [zA,zB,zC,Act.put,zD,zE,zF]
 refine zT 15 ?_ rfl (Or.inl ⟨by rfl,?_⟩) hb2 ?_
 rotate_left
 ·(intro wq hSw; obtain ⟨_,_,_,_,_,_,_⟩:=fJ.out wq hSw; go_simp; all_goals first | with_reducible rfl | rw [zI])
 try simp only [zA,zB,zC,Act.put,zD,zE,zF]
 refine zT 16 ?_ rfl (Or.inl ⟨by rfl,?_⟩) hb2 ?_
 rotate_left
 ·(intro wq hSw; obtain ⟨_,_,_,_,_,_,_⟩:=fJ.out wq hSw; go_simp; all_goals first | with_reducible rfl | rw [zI])
 try simp only [zA,zB,zC,Act.put,zD,zE,zF]
 refine zO 17 fun K hK => ?_
 go_simp
 refine hK.out _ _ (fun h => absurd h (by decide)) ?_
 clear hK K
 try simp only [zA,zB,zC,Act.put,zD,zE,zF]
 refine bf (by kernel_rfl) ?_
 have hd1:=ae hc1 hb2
 go_wp2_with fail
 go_ret
 exact ⟨by rw [← HR.out]; simp,(HS.out.next hb2).bl⟩
theorem rk_10 (chan name label : Str) (xk : Int) (xn : Str) (xs xv : Int) (xt : Str) (af exprs : List Ex) (names : List Str) (tk ts : Int) (tn : Str) (tl : List Str) (ag : List Ty) (labels : List Str) (kids : List Pr) (A1 : Option Addr) (n1 c1 : Nat) (A2 : Option Addr) (n2 c2 : Nat) (A3 : Option Addr) (n3 c3 : Nat) (A4 : Option Addr) (n4 c4 : Nat) (A5 : Option Addr) (n5 c5 : Nat) (A6 : Option Addr) (n6 c6 : Nat) (A7 : Option Addr) (n7 c7 : Nat) (b : Nat) (w wz : World) {u0 u2 u3 u6 u7 u8 u9 jI jJ jk jl iW iY u16 jc jd je jL mW mX jM jB jG jH jQ jR jS jT jU u32 jV jW jX jY jZ ku kw kz kC kD kE kF kG kH kJ kK kL kM kN kP kQ kR kS kT kU kV kW kX kY kZ lg u64 lh lm lq lu lJ lK lL lM lN lQ lS lT lU lV lW lX lY lZ l9 mf mg mi mr mD mF lD lw mP nP nD oH oI oJ oK oL dE dF dG dH dI dJ dK dL dM dN dO bP bQ bT bU bV bW bY bZ cu cO cZ dh di dw dC dD gJ gK gQ gU gV fO fP fQ fU fV fZ gp gq gu gy gB gG gI eu eF eG eH eP eQ eU eX eY fA fB fC fD fE fF fG fH dS dU dV dW dX dY dZ ed iq iw iy iC iD iE iF iG iH iI iJ iK iL iM iO iP iQ iR iT iU mZ ng : Value} (sc : Str) (hsl : sc.length ≤ 20) (g ck : Nat) (ka kb : Str) (hka : ka.length ≤ 400000000000) (hkb : kb.length ≤ 400000000000) (hck : 2 ≤ ck) (hc0 : wz.cell? ⟨g,0,none⟩ = some (.string ⟨ka.toArray⟩)) (hc1 : wz.cell? ⟨g,1,none⟩ = some (.string ⟨kb.toArray⟩)) (hS : (GH 10 chan name label xk xn xs xv xt af exprs names tk ts tn tl ag labels kids A1 n1 c1 A2 n2 c2 A3 n3 c3 A4 n4 c4 A5 n5 c5 A6 n6 c6 A7 n7 c7 w wz b)) (hf : bF 1048576 (.mk 10 chan name label xk xn xs xv xt af exprs names tk ts tn tl ag labels kids)) (hH : oM (.mk 10 chan name label xk xn xs xv xt af exprs names tk ts tn tl ag labels kids)) (R : Str) (HR : Hid (sc ++ ik (.mk xk xn xs xv xt af) ++ ([32,123] : Str) ++ ka ++ [125,32,101,108,115,101,32,123] ++ kb ++ [125] = R)) :
  Code.wp Tryz.prog mY (bodyPost Tryz.prog Tryz.f47 (fun e w' => e = .returned (.string ⟨R.toArray⟩) ∧ Below w.heap.size w w')) { tmps:=#[u0,.pointer (some ⟨b,0,none⟩),u2,u3,.string ⟨sc.toArray⟩,.slice (some ⟨g,0,none⟩) 2 ck,u6,u7,u8,u9,jI,jJ,jk,jl,iW,iY,u16,jc,jd,je,jL,mW,mX,jM,jB,jG,jH,jQ,jR,jS,jT,jU,u32,jV,jW,jX,jY,jZ,ku,kw,kz,kC,kD,kE,kF,kG,kH,kJ,kK,kL,kM,kN,kP,kQ,kR,kS,kT,kU,kV,kW,kX,kY,kZ,lg,u64,lh,lm,lq,lu,lJ,lK,lL,lM,lN,lQ,lS,lT,lU,lV,lW,lX,lY,lZ,l9,mf,mg,mi,mr,mD,mF,lD,lw,mP,nP,nD,oH,oI,oJ,oK,oL,dE,dF,dG,dH,dI,dJ,dK,dL,dM,dN,dO,bP,bQ,bT,bU,bV,bW,bY,bZ,cu,cO,cZ,dh,di,dw,dC,dD,gJ,gK,gQ,gU,gV,fO,fP,fQ,fU,fV,fZ,gp,gq,gu,gy,gB,gG,gI,eu,eF,eG,eH,eP,eQ,eU,eX,eY,fA,fB,fC,fD,fE,fF,fG,fH,dS,dU,dV,dW,dX,dY,dZ,ed,iq,iw,iy,iC,iD,iE,iF,iG,iH,iI,iJ,iK,iL,iM,iO,iP,iQ,iR,iT,iU,mZ,ng],defers:=[] } wz:=by
 have h : mY = Code.seq _ _:=rfl
 rw [h]
 clear h
 have HS:=zH hS
 have HF:=zH hf
 have HH:=zH hH
 obtain ⟨k0,_,_,_,k4,k5,k6,k7,k8,k9,_,_,_,_,_,_,_,_,_⟩:=hS.bx.mkc
 have z1 : chan.length ≤ 8:=hH.ch
 have z2 : name.length ≤ 8:=hH.nm
 have z3 : label.length ≤ 8:=hH.lb
 clear hS hf hH
 obtain ⟨e1,e2,e3,e4,e5,e6,e7,e,q1,q2,q3,q4,q5,q6,q7⟩:=id HS.out.pv
 simp only [Value.agg.injEq,Pr.aN,Pr.aT,Pr.aI,Pr.aW,Pr.jm,Pr.jo,Pr.jq,Pr.jv,Pr.jr,Pr.aY,Pr.aV,Pr.aU,Pr.jg,Pr.ji,Pr.jh,Pr.jA,Pr.aX,Pr.aH,Pr.aK] at e q1 q2 q3 q4 q5 q6 q7
 have e':=congrArg Array.toList e
 simp only [List.cons.injEq,and_true,true_and] at e'
 obtain ⟨Ag,Ah,Ai,Aj,Am,Ap,Aq⟩:=e'
 subst Ag Ah Ai Aj Am Ap Aq
 have hxv : uy All wz (.agg #[.int .i64 xk,.string ⟨xn.toArray⟩,.int .i64 xs,.int .i64 xv,.string ⟨xt.toArray⟩,.slice A1 n1 c1]) (.mk xk xn xs xv xt af):=⟨_,rfl,q1⟩
 have hxe : lF (.mk xk xn xs xv xt af) = 0:=HH.out.ex rfl
 have yY : bI 1048576 (.mk xk xn xs xv xt af):=wM HF.out
 obtain ⟨X,hX⟩ : ∃ x,ik (.mk xk xn xs xv xt af) = x:=⟨_,rfl⟩
 have LM : X.length ≤ 240000000:=by rw [← hX]; exact qj hxe yY
 have HX:=zH hX
 have GG:=zH hxv
 have Gz:=zH hxe
 have E8:=zH yY
 rw [hX] at HR
 clear e q1 q2 q3 q4 q5 q6 q7 hX hxv hxe yY
 go_wp2_with fail
 have hb0 : Below wz.heap.size wz wz.drew:=(Below.refl _ _).drew
 have fJ:=zH (fun (wq : World) (hSw : Below wz.heap.size wz wq) => And.intro (ae k4 hSw) (And.intro (ae k5 hSw) (And.intro (ae k6 hSw) (And.intro (ae k7 hSw) (And.intro (ae k8 hSw) (And.intro (ae k9 hSw) (And.intro (ae hc0 hSw) (ae hc1 hSw))))))))
 refine aC 16 (fun w' : World => Below wz.heap.size wz w') (by kernel_rfl) ?_
 refine zT 0 ?_ rfl (Or.inl ⟨by rfl,?_⟩) hb0 ?_
 rotate_left
 ·(intro wq hSw; obtain ⟨_,_,_,_,_,_,_,_⟩:=fJ.out wq hSw; go_simp; all_goals first | with_reducible rfl | rw [zI])
 try simp only [zA,zB,zC,Act.put,zD,zE,zF]
 refine zT 1 ?_ rfl (Or.inl ⟨by rfl,?_⟩) hb0 ?_
 rotate_left
 ·(intro wq hSw; obtain ⟨_,_,_,_,_,_,_,_⟩:=fJ.out wq hSw; go_simp; all_goals first | with_reducible rfl | rw [zI])
 try simp only [zA,zB,zC,Act.put,zD,zE,zF]
 refine zT 2 ?_ rfl (Or.inl ⟨by rfl,?_⟩) hb0 ?_
 rotate_left
 ·(intro wq hSw; obtain ⟨_,_,_,_,_,_,_,_⟩:=fJ.out wq hSw; go_simp; all_goals first | with_reducible rfl | rw [zI])
 try simp only [zA,zB,zC,Act.put,zD,zE,zF]
 refine zT 6 ?_ rfl (Or.inl ⟨by rfl,?_⟩) hb0 ?_
 rotate_left
 ·(intro wq hSw; obtain ⟨_,_,_,_,_,_,_,_⟩:=fJ.out wq hSw; go_simp; all_goals first | with_reducible rfl | rw [zI])
 try simp only [zA,zB,zC,Act.put,zD,zE,zF]
 refine zT 7 ?_ rfl (Or.inl ⟨by rfl,?_⟩) hb0 ?_
 rotate_left
 ·(intro wq hSw; obtain ⟨_,_,_,_,_,_,_,_⟩:=fJ.out wq hSw; go_simp; all_goals first | with_reducible rfl | rw [zI])
 try simp only [zA,zB,zC,Act.put,zD,zE,zF]
 refine zT 8 ?_ rfl (Or.inl ⟨by rfl,?_⟩) hb0 ?_
 rotate_left
 ·(intro wq hSw; obtain ⟨_,_,_,_,_,_,_,_⟩:=fJ.out wq hSw; go_simp; all_goals first | with_reducible rfl | rw [zI])
 try simp only [zA,zB,zC,Act.put,zD,zE,zF]
 refine zT 11 ?_ rfl (Or.inl ⟨by rfl,?_⟩) hb0 ?_
 rotate_left
 ·(intro wq hSw; obtain ⟨_,_,_,_,_,_,_,_⟩:=fJ.out wq hSw; go_simp; all_goals first | with_reducible rfl | rw [zI])
 try simp only [zA,zB,zC,Act.put,zD,zE,zF]
 refine zT 12 ?_ rfl (Or.inl ⟨by rfl,?_⟩) hb0 ?_
 rotate_left
 ·(intro wq hSw; obtain ⟨_,_,_,_,_,_,_,_⟩:=fJ.out wq hSw; go_simp; all_goals first | with_reducible rfl | rw [zI])
 try simp only [zA,zB,zC,Act.put,zD,zE,zF]
 refine zT 13 ?_ rfl (Or.inl ⟨by rfl,?_⟩) hb0 ?_
 rotate_left
 ·(intro wq hSw; obtain ⟨_,_,_,_,_,_,_,_⟩:=fJ.out wq hSw; go_simp; all_goals first | with_reducible rfl | rw [zI])
 try simp only [zA,zB,zC,Act.put,zD,zE,zF]
 refine zO 3 fun K hK => ?_
 go_simp
 refine Calls.mono (vI (.mk xk xn xs xv xt af) _ wz.drew (GG.out.below hb0) E8.out Gz.out) ?_
 rw [HX.out]
 rintro e w2 ⟨rfl,hq⟩
 have hb1:=chain hb0 hq
 clear hq
 refine hK.out _ _ (fun _ => hb1) ?_
 clear hK K
 try simp only [zA,zB,zC,Act.put,zD,zE,zF]
 refine zT 4 ?_ rfl (Or.inl ⟨by rfl,?_⟩) hb1 ?_
 rotate_left
 ·(intro wq hSw; obtain ⟨_,_,_,_,_,_,_,_⟩:=fJ.out wq hSw; go_simp; all_goals first | with_reducible rfl | rw [zI])
 try simp only [zA,zB,zC,Act.put,zD,zE,zF]
 refine zT 5 ?_ rfl (Or.inl ⟨by rfl,?_⟩) hb1 ?_
 rotate_left
 ·(intro wq hSw; obtain ⟨_,_,_,_,_,_,_,_⟩:=fJ.out wq hSw; go_simp; all_goals first | with_reducible rfl | rw [zI])
 try simp only [zA,zB,zC,Act.put,zD,zE,zF]
 refine zT 9 ?_ rfl (Or.inl ⟨by rfl,?_⟩) hb1 ?_
 rotate_left
 ·(intro wq hSw; obtain ⟨_,_,_,_,_,_,_,_⟩:=fJ.out wq hSw; go_simp; all_goals first | with_reducible rfl | rw [zI])
 try simp only [zA,zB,zC,Act.put,zD,zE,zF]
 refine zT 10 ?_ rfl (Or.inl ⟨by rfl,?_⟩) hb1 ?_
 rotate_left
 ·(intro wq hSw; obtain ⟨_,_,_,_,_,_,_,_⟩:=fJ.out wq hSw; go_simp; all_goals first | with_reducible rfl | rw [zI])
 try simp only [zA,zB,zC,Act.put,zD,zE,zF]
 refine zT 14 ?_ rfl (Or.inl ⟨by rfl,?_⟩) hb1 ?_
 rotate_left
 ·(intro wq hSw; obtain ⟨_,_,_,_,_,_,_,_⟩:=fJ.out wq hSw; go_simp; all_goals first | with_reducible rfl | rw [zI])
 try simp only [zA,zB,zC,Act.put,zD,zE,zF]
 refine zT 15 ?_ rfl (Or.inl ⟨by rfl,?_⟩) hb1 ?_
 rotate_left
 ·(intro wq hSw; obtain ⟨_,_,_,_,_,_,_,_⟩:=fJ.out wq hSw; go_simp; all_goals first | with_reducible rfl | rw [zI])
 try simp only [zA,zB,zC,Act.put,zD,zE,zF]
 refine zO 16 fun K hK => ?_
 go_simp
 refine hK.out _ _ (fun h => absurd h (by decide)) ?_
 clear hK K
 try simp only [zA,zB,zC,Act.put,zD,zE,zF]
 refine bf (by kernel_rfl) ?_
 go_wp2_with fail
 go_ret
 exact ⟨by rw [← HR.out]; simp,(HS.out.next hb1).bl⟩
theorem rk_11 (chan name label : Str) (xk : Int) (xn : Str) (xs xv : Int) (xt : Str) (af exprs : List Ex) (names : List Str) (tk ts : Int) (tn : Str) (tl : List Str) (ag : List Ty) (labels : List Str) (kids : List Pr) (A1 : Option Addr) (n1 c1 : Nat) (A2 : Option Addr) (n2 c2 : Nat) (A3 : Option Addr) (n3 c3 : Nat) (A4 : Option Addr) (n4 c4 : Nat) (A5 : Option Addr) (n5 c5 : Nat) (A6 : Option Addr) (n6 c6 : Nat) (A7 : Option Addr) (n7 c7 : Nat) (b : Nat) (w wz : World) {u0 u2 u3 u6 u7 u8 u9 jI jJ jk jl iW iY u16 jc jd je jL mW mX jM jB jG jH jQ jR jS jT jU u32 jV jW jX jY jZ ku kw kz kC kD kE kF kG kH kJ kK kL kM kN kP kQ kR kS kT kU kV kW kX kY kZ lg u64 lh lm lq lu lJ lK lL lM lN lQ lS lT lU lV lW lX lY lZ l9 mf mg mi mr mD mF lD lw mP nP nD oH oI oJ oK oL dE dF dG dH dI dJ dK dL dM dN dO bP bQ bT bU bV bW bY bZ cu cO cZ dh di dw dC dD gJ gK gQ gU gV fO fP fQ fU fV fZ gp gq gu gy gB gG gI eu eF eG eH eP eQ eU eX eY fA fB fC fD fE fF fG fH dS dU dV dW dX dY dZ ed iq iw iy iC iD iE iF iG iH iI iJ iK iL iM iO iP iQ iR iT iU mZ ng : Value} (sc : Str) (hsl : sc.length ≤ 20) (g ck : Nat) (kt : Str) (hkt : kt.length ≤ 400000000000) (hck : 1 ≤ ck) (hc0 : wz.cell? ⟨g,0,none⟩ = some (.string ⟨kt.toArray⟩)) (hS : (GH 11 chan name label xk xn xs xv xt af exprs names tk ts tn tl ag labels kids A1 n1 c1 A2 n2 c2 A3 n3 c3 A4 n4 c4 A5 n5 c5 A6 n6 c6 A7 n7 c7 w wz b)) (hf : bF 1048576 (.mk 11 chan name label xk xn xs xv xt af exprs names tk ts tn tl ag labels kids)) (hH : oM (.mk 11 chan name label xk xn xs xv xt af exprs names tk ts tn tl ag labels kids)) (R : Str) (HR : Hid (sc ++ (name ++ ([32,61,32] : Str) ++ ik (.mk xk xn xs xv xt af)) ++ [59,32] ++ kt = R)) :
  Code.wp Tryz.prog mY (bodyPost Tryz.prog Tryz.f47 (fun e w' => e = .returned (.string ⟨R.toArray⟩) ∧ Below w.heap.size w w')) { tmps:=#[u0,.pointer (some ⟨b,0,none⟩),u2,u3,.string ⟨sc.toArray⟩,.slice (some ⟨g,0,none⟩) 1 ck,u6,u7,u8,u9,jI,jJ,jk,jl,iW,iY,u16,jc,jd,je,jL,mW,mX,jM,jB,jG,jH,jQ,jR,jS,jT,jU,u32,jV,jW,jX,jY,jZ,ku,kw,kz,kC,kD,kE,kF,kG,kH,kJ,kK,kL,kM,kN,kP,kQ,kR,kS,kT,kU,kV,kW,kX,kY,kZ,lg,u64,lh,lm,lq,lu,lJ,lK,lL,lM,lN,lQ,lS,lT,lU,lV,lW,lX,lY,lZ,l9,mf,mg,mi,mr,mD,mF,lD,lw,mP,nP,nD,oH,oI,oJ,oK,oL,dE,dF,dG,dH,dI,dJ,dK,dL,dM,dN,dO,bP,bQ,bT,bU,bV,bW,bY,bZ,cu,cO,cZ,dh,di,dw,dC,dD,gJ,gK,gQ,gU,gV,fO,fP,fQ,fU,fV,fZ,gp,gq,gu,gy,gB,gG,gI,eu,eF,eG,eH,eP,eQ,eU,eX,eY,fA,fB,fC,fD,fE,fF,fG,fH,dS,dU,dV,dW,dX,dY,dZ,ed,iq,iw,iy,iC,iD,iE,iF,iG,iH,iI,iJ,iK,iL,iM,iO,iP,iQ,iR,iT,iU,mZ,ng],defers:=[] } wz:=by
 have h : mY = Code.seq _ _:=rfl
 rw [h]
 clear h
 have HS:=zH hS
 have HF:=zH hf
 have HH:=zH hH
 obtain ⟨k0,_,k2,_,k4,k5,k6,k7,k8,k9,_,_,_,_,_,_,_,_,_⟩:=hS.bx.mkc
 have z1 : chan.length ≤ 8:=hH.ch
 have z2 : name.length ≤ 8:=hH.nm
 have z3 : label.length ≤ 8:=hH.lb
 clear hS hf hH
 obtain ⟨e1,e2,e3,e4,e5,e6,e7,e,q1,q2,q3,q4,q5,q6,q7⟩:=id HS.out.pv
 simp only [Value.agg.injEq,Pr.aN,Pr.aT,Pr.aI,Pr.aW,Pr.jm,Pr.jo,Pr.jq,Pr.jv,Pr.jr,Pr.aY,Pr.aV,Pr.aU,Pr.jg,Pr.ji,Pr.jh,Pr.jA,Pr.aX,Pr.aH,Pr.aK] at e q1 q2 q3 q4 q5 q6 q7
 have e':=congrArg Array.toList e
 simp only [List.cons.injEq,and_true,true_and] at e'
 obtain ⟨Ag,Ah,Ai,Aj,Am,Ap,Aq⟩:=e'
 subst Ag Ah Ai Aj Am Ap Aq
 have hxv : uy All wz (.agg #[.int .i64 xk,.string ⟨xn.toArray⟩,.int .i64 xs,.int .i64 xv,.string ⟨xt.toArray⟩,.slice A1 n1 c1]) (.mk xk xn xs xv xt af):=⟨_,rfl,q1⟩
 have hxe : lF (.mk xk xn xs xv xt af) = 0:=HH.out.ex rfl
 have yY : bI 1048576 (.mk xk xn xs xv xt af):=wM HF.out
 obtain ⟨X,hX⟩ : ∃ x,ik (.mk xk xn xs xv xt af) = x:=⟨_,rfl⟩
 have LM : X.length ≤ 240000000:=by rw [← hX]; exact qj hxe yY
 have HX:=zH hX
 have GG:=zH hxv
 have Gz:=zH hxe
 have E8:=zH yY
 rw [hX] at HR
 clear e q1 q2 q3 q4 q5 q6 q7 hX hxv hxe yY
 go_wp2_with fail
 have hb0 : Below wz.heap.size wz wz.drew:=(Below.refl _ _).drew
 have fJ:=zH (fun (wq : World) (hSw : Below wz.heap.size wz wq) => And.intro (ae k2 hSw) (And.intro (ae k4 hSw) (And.intro (ae k5 hSw) (And.intro (ae k6 hSw) (And.intro (ae k7 hSw) (And.intro (ae k8 hSw) (ae k9 hSw)))))))
 refine aC 9 (fun w' : World => Below wz.heap.size wz w') (by kernel_rfl) ?_
 refine zT 0 ?_ rfl (Or.inl ⟨by rfl,?_⟩) hb0 ?_
 rotate_left
 ·(intro wq hSw; obtain ⟨_,_,_,_,_,_,_⟩:=fJ.out wq hSw; go_simp; all_goals first | with_reducible rfl | rw [zI])
 try simp only [zA,zB,zC,Act.put,zD,zE,zF]
 refine zT 1 ?_ rfl (Or.inl ⟨by rfl,?_⟩) hb0 ?_
 rotate_left
 ·(intro wq hSw; obtain ⟨_,_,_,_,_,_,_⟩:=fJ.out wq hSw; go_simp; all_goals first | with_reducible rfl | rw [zI])
 try simp only [zA,zB,zC,Act.put,zD,zE,zF]
 refine zT 2 ?_ rfl (Or.inl ⟨by rfl,?_⟩) hb0 ?_
 rotate_left
 ·(intro wq hSw; obtain ⟨_,_,_,_,_,_,_⟩:=fJ.out wq hSw; go_simp; all_goals first | with_reducible rfl | rw [zI])
 try simp only [zA,zB,zC,Act.put,zD,zE,zF]
 refine zT 3 ?_ rfl (Or.inl ⟨by rfl,?_⟩) hb0 ?_
 rotate_left
 ·(intro wq hSw; obtain ⟨_,_,_,_,_,_,_⟩:=fJ.out wq hSw; go_simp; all_goals first | with_reducible rfl | rw [zI])
 try simp only [zA,zB,zC,Act.put,zD,zE,zF]
 refine zT 4 ?_ rfl (Or.inl ⟨by rfl,?_⟩) hb0 ?_
 rotate_left
 ·(intro wq hSw; obtain ⟨_,_,_,_,_,_,_⟩:=fJ.out wq hSw; go_simp; all_goals first | with_reducible rfl | rw [zI])
 try simp only [zA,zB,zC,Act.put,zD,zE,zF]
 refine zT 5 ?_ rfl (Or.inl ⟨by rfl,?_⟩) hb0 ?_
 rotate_left
 ·(intro wq hSw; obtain ⟨_,_,_,_,_,_,_⟩:=fJ.out wq hSw; go_simp; all_goals first | with_reducible rfl | rw [zI])
 try simp only [zA,zB,zC,Act.put,zD,zE,zF]
 refine zO 6 fun K hK => ?_
 go_simp
 refine Calls.mono (vI (.mk xk xn xs xv xt af) _ wz.drew (GG.out.below hb0) E8.out Gz.out) ?_
 rw [HX.out]
 rintro e w2 ⟨rfl,hq⟩
 have hb1:=chain hb0 hq
 clear hq
 refine hK.out _ _ (fun _ => hb1) ?_
 clear hK K
 try simp only [zA,zB,zC,Act.put,zD,zE,zF]
 refine zT 7 ?_ rfl (Or.inl ⟨by rfl,?_⟩) hb1 ?_
 rotate_left
 ·(intro wq hSw; obtain ⟨_,_,_,_,_,_,_⟩:=fJ.out wq hSw; go_simp; all_goals first | with_reducible rfl | rw [zI])
 try simp only [zA,zB,zC,Act.put,zD,zE,zF]
 refine zT 8 ?_ rfl (Or.inl ⟨by rfl,?_⟩) hb1 ?_
 rotate_left
 ·(intro wq hSw; obtain ⟨_,_,_,_,_,_,_⟩:=fJ.out wq hSw; go_simp; all_goals first | with_reducible rfl | rw [zI])
 try simp only [zA,zB,zC,Act.put,zD,zE,zF]
 refine zO 9 fun K hK => ?_
 go_simp
 refine hK.out _ _ (fun h => absurd h (by decide)) ?_
 clear hK K
 try simp only [zA,zB,zC,Act.put,zD,zE,zF]
 refine bf (by kernel_rfl) ?_
 have hd0:=ae hc0 hb1
 go_wp2_with fail
 go_ret
 exact ⟨by rw [← HR.out]; simp,(HS.out.next hb1).bl⟩
theorem rk_12 (chan name label : Str) (xk : Int) (xn : Str) (xs xv : Int) (xt : Str) (af exprs : List Ex) (names : List Str) (tk ts : Int) (tn : Str) (tl : List Str) (ag : List Ty) (labels : List Str) (kids : List Pr) (A1 : Option Addr) (n1 c1 : Nat) (A2 : Option Addr) (n2 c2 : Nat) (A3 : Option Addr) (n3 c3 : Nat) (A4 : Option Addr) (n4 c4 : Nat) (A5 : Option Addr) (n5 c5 : Nat) (A6 : Option Addr) (n6 c6 : Nat) (A7 : Option Addr) (n7 c7 : Nat) (b : Nat) (w wz : World) {u0 u2 u3 u6 u7 u8 u9 jI jJ jk jl iW iY u16 jc jd je jL mW mX jM jB jG jH jQ jR jS jT jU u32 jV jW jX jY jZ ku kw kz kC kD kE kF kG kH kJ kK kL kM kN kP kQ kR kS kT kU kV kW kX kY kZ lg u64 lh lm lq lu lJ lK lL lM lN lQ lS lT lU lV lW lX lY lZ l9 mf mg mi mr mD mF lD lw mP nP nD oH oI oJ oK oL dE dF dG dH dI dJ dK dL dM dN dO bP bQ bT bU bV bW bY bZ cu cO cZ dh di dw dC dD gJ gK gQ gU gV fO fP fQ fU fV fZ gp gq gu gy gB gG gI eu eF eG eH eP eQ eU eX eY fA fB fC fD fE fF fG fH dS dU dV dW dX dY dZ ed iq iw iy iC iD iE iF iG iH iI iJ iK iL iM iO iP iQ iR iT iU mZ ng : Value} (sc : Str) (hsl : sc.length ≤ 20) (g ck : Nat) (kt : Str) (hkt : kt.length ≤ 400000000000) (hck : 1 ≤ ck) (hc0 : wz.cell? ⟨g,0,none⟩ = some (.string ⟨kt.toArray⟩)) (hS : (GH 12 chan name label xk xn xs xv xt af exprs names tk ts tn tl ag labels kids A1 n1 c1 A2 n2 c2 A3 n3 c3 A4 n4 c4 A5 n5 c5 A6 n6 c6 A7 n7 c7 w wz b)) (hf : bF 1048576 (.mk 12 chan name label xk xn xs xv xt af exprs names tk ts tn tl ag labels kids)) (hH : oM (.mk 12 chan name label xk xn xs xv xt af exprs names tk ts tn tl ag labels kids)) (R : Str) (HR : Hid (sc ++ ik (.mk xk xn xs xv xt af) ++ ([59,32] : Str) ++ kt = R)) :
  Code.wp Tryz.prog mY (bodyPost Tryz.prog Tryz.f47 (fun e w' => e = .returned (.string ⟨R.toArray⟩) ∧ Below w.heap.size w w')) { tmps:=#[u0,.pointer (some ⟨b,0,none⟩),u2,u3,.string ⟨sc.toArray⟩,.slice (some ⟨g,0,none⟩) 1 ck,u6,u7,u8,u9,jI,jJ,jk,jl,iW,iY,u16,jc,jd,je,jL,mW,mX,jM,jB,jG,jH,jQ,jR,jS,jT,jU,u32,jV,jW,jX,jY,jZ,ku,kw,kz,kC,kD,kE,kF,kG,kH,kJ,kK,kL,kM,kN,kP,kQ,kR,kS,kT,kU,kV,kW,kX,kY,kZ,lg,u64,lh,lm,lq,lu,lJ,lK,lL,lM,lN,lQ,lS,lT,lU,lV,lW,lX,lY,lZ,l9,mf,mg,mi,mr,mD,mF,lD,lw,mP,nP,nD,oH,oI,oJ,oK,oL,dE,dF,dG,dH,dI,dJ,dK,dL,dM,dN,dO,bP,bQ,bT,bU,bV,bW,bY,bZ,cu,cO,cZ,dh,di,dw,dC,dD,gJ,gK,gQ,gU,gV,fO,fP,fQ,fU,fV,fZ,gp,gq,gu,gy,gB,gG,gI,eu,eF,eG,eH,eP,eQ,eU,eX,eY,fA,fB,fC,fD,fE,fF,fG,fH,dS,dU,dV,dW,dX,dY,dZ,ed,iq,iw,iy,iC,iD,iE,iF,iG,iH,iI,iJ,iK,iL,iM,iO,iP,iQ,iR,iT,iU,mZ,ng],defers:=[] } wz:=by
 have h : mY = Code.seq _ _:=rfl
 rw [h]
 clear h
 have HS:=zH hS
 have HF:=zH hf
 have HH:=zH hH
 obtain ⟨k0,_,_,_,k4,k5,k6,k7,k8,k9,_,_,_,_,_,_,_,_,_⟩:=hS.bx.mkc
 have z1 : chan.length ≤ 8:=hH.ch
 have z2 : name.length ≤ 8:=hH.nm
 have z3 : label.length ≤ 8:=hH.lb
 clear hS hf hH
 obtain ⟨e1,e2,e3,e4,e5,e6,e7,e,q1,q2,q3,q4,q5,q6,q7⟩:=id HS.out.pv
 simp only [Value.agg.injEq,Pr.aN,Pr.aT,Pr.aI,Pr.aW,Pr.jm,Pr.jo,Pr.jq,Pr.jv,Pr.jr,Pr.aY,Pr.aV,Pr.aU,Pr.jg,Pr.ji,Pr.jh,Pr.jA,Pr.aX,Pr.aH,Pr.aK] at e q1 q2 q3 q4 q5 q6 q7
 have e':=congrArg Array.toList e
 simp only [List.cons.injEq,and_true,true_and] at e'
 obtain ⟨Ag,Ah,Ai,Aj,Am,Ap,Aq⟩:=e'
 subst Ag Ah Ai Aj Am Ap Aq
 have hxv : uy All wz (.agg #[.int .i64 xk,.string ⟨xn.toArray⟩,.int .i64 xs,.int .i64 xv,.string ⟨xt.toArray⟩,.slice A1 n1 c1]) (.mk xk xn xs xv xt af):=⟨_,rfl,q1⟩
 have hxe : lF (.mk xk xn xs xv xt af) = 0:=HH.out.ex rfl
 have yY : bI 1048576 (.mk xk xn xs xv xt af):=wM HF.out
 obtain ⟨X,hX⟩ : ∃ x,ik (.mk xk xn xs xv xt af) = x:=⟨_,rfl⟩
 have LM : X.length ≤ 240000000:=by rw [← hX]; exact qj hxe yY
 have HX:=zH hX
 have GG:=zH hxv
 have Gz:=zH hxe
 have E8:=zH yY
 rw [hX] at HR
 clear e q1 q2 q3 q4 q5 q6 q7 hX hxv hxe yY
 go_wp2_with fail
 refine Calls.mono (vI (.mk xk xn xs xv xt af) _ wz (GG.out.below (Below.refl _ _)) E8.out Gz.out) ?_
 rw [HX.out]
 rintro e w2 ⟨rfl,hb2⟩
 have hd0:=ae hc0 hb2
 go_wp2_with fail
 go_ret
 exact ⟨by rw [← HR.out]; simp,(HS.out.next hb2).bl⟩
end Go.Proofs.YtpidjanngbaiiaaGreatDoor
