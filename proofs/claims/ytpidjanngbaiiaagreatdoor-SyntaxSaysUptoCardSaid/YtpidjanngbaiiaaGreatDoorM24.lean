/-
  PrU13 PrUk PrU PrUo PrP0 PrP15 PrP11 PrP7
-/
import Derived.Test.YtpidjanngbaiiaaGreatDoorM22
import Derived.Test.YtpidjanngbaiiaaGreatDoorM23
import Derived.Test.YtpidjanngbaiiaaGreatDoorM20
import Derived.Test.YtpidjanngbaiiaaGreatDoorM16
namespace Go.Proofs.YtpidjanngbaiiaaGreatDoor
open Go.RowKit Go.Proofs
set_option maxRecDepth 100000
set_option maxHeartbeats 32000000

theorem rk_13 (chan name label : Str) (xk : Int) (xn : Str) (xs xv : Int) (xt : Str) (af exprs : List Ex) (names : List Str) (tk ts : Int) (tn : Str) (tl : List Str) (ag : List Ty) (labels : List Str) (kids : List Pr) (A1 : Option Addr) (n1 c1 : Nat) (A2 : Option Addr) (n2 c2 : Nat) (A3 : Option Addr) (n3 c3 : Nat) (A4 : Option Addr) (n4 c4 : Nat) (A5 : Option Addr) (n5 c5 : Nat) (A6 : Option Addr) (n6 c6 : Nat) (A7 : Option Addr) (n7 c7 : Nat) (b : Nat) (w wz : World) {u0 u2 u3 u5 u6 u7 u8 u9 jI jJ jk jl iW iY u16 jc jd je jL mW mX jM jB jG jH jQ jR jS jT jU u32 jV jW jX jY jZ ku kw kz kC kD kE kF kG kH kJ kK kL kM kN kP kQ kR kS kT kU kV kW kX kY kZ lg u64 lh lm lq lu lJ lK lL lM lN lQ lS lT lU lV lW lX lY lZ l9 mf mg mi mr mD mF lD lw mP nP nD oH oI oJ oK oL dE dF dG dH dI dJ dK dL dM dN dO bP bQ bT bU bV bW bY bZ cu cO cZ dh di dw dC dD gJ gK gQ gU gV fO fP fQ fU fV fZ gp gq gu gy gB gG gI eu eF eG eH eP eQ eU eX eY fA fB fC fD fE fF fG fH dS dU dV dW dX dY dZ ed iq iw iy iC iD iE iF iG iH iI iJ iK iL iM iO iP iQ iR iT iU mZ ng : Value} (sc : Str) (hsl : sc.length ≤ 20) (hS : (GH 13 chan name label xk xn xs xv xt af exprs names tk ts tn tl ag labels kids A1 n1 c1 A2 n2 c2 A3 n3 c3 A4 n4 c4 A5 n5 c5 A6 n6 c6 A7 n7 c7 w wz b)) (hf : bF 1048576 (.mk 13 chan name label xk xn xs xv xt af exprs names tk ts tn tl ag labels kids)) (hH : oM (.mk 13 chan name label xk xn xs xv xt af exprs names tk ts tn tl ag labels kids)) (R : Str) (HR : Hid (name ++ ([40] : Str) ++ bn comma (exprs.map ik) ++ (if n3 = 0 then [] else [59,32] ++ bn comma names) ++ [41] = R)) :
  Code.wp Tryz.prog mY (bodyPost Tryz.prog Tryz.f47 (fun e w' => e = .returned (.string ⟨R.toArray⟩) ∧ Below w.heap.size w w')) { tmps:=#[u0,.pointer (some ⟨b,0,none⟩),u2,u3,.string ⟨sc.toArray⟩,u5,u6,u7,u8,u9,jI,jJ,jk,jl,iW,iY,u16,jc,jd,je,jL,mW,mX,jM,jB,jG,jH,jQ,jR,jS,jT,jU,u32,jV,jW,jX,jY,jZ,ku,kw,kz,kC,kD,kE,kF,kG,kH,kJ,kK,kL,kM,kN,kP,kQ,kR,kS,kT,kU,kV,kW,kX,kY,kZ,lg,u64,lh,lm,lq,lu,lJ,lK,lL,lM,lN,lQ,lS,lT,lU,lV,lW,lX,lY,lZ,l9,mf,mg,mi,mr,mD,mF,lD,lw,mP,nP,nD,oH,oI,oJ,oK,oL,dE,dF,dG,dH,dI,dJ,dK,dL,dM,dN,dO,bP,bQ,bT,bU,bV,bW,bY,bZ,cu,cO,cZ,dh,di,dw,dC,dD,gJ,gK,gQ,gU,gV,fO,fP,fQ,fU,fV,fZ,gp,gq,gu,gy,gB,gG,gI,eu,eF,eG,eH,eP,eQ,eU,eX,eY,fA,fB,fC,fD,fE,fF,fG,fH,dS,dU,dV,dW,dX,dY,dZ,ed,iq,iw,iy,iC,iD,iE,iF,iG,iH,iI,iJ,iK,iL,iM,iO,iP,iQ,iR,iT,iU,mZ,ng],defers:=[] } wz:=by
 have h : mY = Code.seq _ _:=rfl
 rw [h]
 clear h
 have HS:=zH hS
 have HF:=zH hf
 have HH:=zH hH
 obtain ⟨k0,_,k2,_,_,_,_,_,_,_,k10,k11,_,_,_,_,_,_,_⟩:=hS.bx.mkc
 have z1 : chan.length ≤ 8:=hH.ch
 have z2 : name.length ≤ 8:=hH.nm
 have z3 : label.length ≤ 8:=hH.lb
 clear hS hf hH
 obtain ⟨e1,e2,e3,e4,e5,e6,e7,e,q1,q2,q3,q4,q5,q6,q7⟩:=id HS.out.pv
 simp only [Value.agg.injEq,Pr.aN,Pr.aT,Pr.aI,Pr.aW,Pr.jm,Pr.jo,Pr.jq,Pr.jv,Pr.jr,Pr.aY,Pr.aV,Pr.aU,Pr.jg,Pr.ji,Pr.jh,Pr.jA,Pr.aX,Pr.aH,Pr.aK] at e q1 q2 q3 q4 q5 q6 q7
 have e':=congrArg Array.toList e
 simp only [List.cons.injEq,and_true,true_and] at e'
 obtain ⟨Ag,Ah,Ai,Aj,Am,Ap,Aq⟩:=e'
 subst Ag Ah Ai Aj Am Ap Aq
 have hn2 : n2 = exprs.length:=by obtain ⟨_,_,e,-⟩:=q2; injection e
 have hn3 : n3 = names.length:=by obtain ⟨_,_,e,-⟩:=q3; injection e
 have hes:=HH.out.es
 have hns:=HH.out.ns
 simp only [Pr.aV,Pr.aU] at hes hns
 obtain ⟨P,hP⟩ : ∃ x,exprs.map ik = x:=⟨_,rfl⟩
 have hPl : P.length = n2:=by rw [← hP,List.length_map,hn2]
 have hfx : ∀ x ∈ exprs,bI 1048576 x:=HF.out.parts.2.2.2.2.2.2.2.2.2.2.2.2.1
 have DV : ∀ s ∈ P,s.length ≤ 240000000:=by
  rw [← hP]
  intro s hs
  obtain ⟨x,hx,rfl⟩:=List.mem_map.1 hs
  exact qj (HH.out.e0 x hx) (hfx x hx)
 have Jv:=nN (sep:=comma) (l:=P) (B:=240000000) DV
 have hjN:=nN (sep:=comma) (l:=names) (B:=8) HH.out.n8
 have hcl : comma.length = 2:=rfl
 rw [hcl] at Jv hjN
 rw [hP] at HR
 obtain ⟨JE,EI⟩ : ∃ x,bn comma P = x:=⟨_,rfl⟩
 obtain ⟨JN,Mc⟩ : ∃ x,bn comma names = x:=⟨_,rfl⟩
 have hn2l : n2 ≤ 6:=by omega
 have hn3l : n3 ≤ 6:=by omega
 have Oq : JE.length ≤ 1500000000:=by rw [← EI]; omega
 have hJNl : JN.length ≤ 60:=by rw [← Mc]; omega
 rw [EI,Mc] at HR
 have HP:=zH hP
 have DU:=zH hPl
 have HPS:=zH DV
 have I4:=zH EI
 have LW:=zH Mc
 have I7:=zH hn2
 have Ht:=zH hn3
 have PR:=zH q2
 have L6 : Hid (aF wz (.slice A3 n3 c3) names):=zH q3.is
 have TD : Hid (∀ x ∈ exprs,lF x = 0 ∧ bI 1048576 x):=fun x hx => ⟨HH.out.e0 x hx,hfx x hx⟩
 clear e q1 q2 q3 q4 q5 q6 q7 hP DV EI Mc hn2 hn3 hes hns Jv hjN hcl hfx hPl
 have K2:=zH k2
 have K10:=zH k10
 have TF:=zH k11
 go_wp2_with fail
 go_loopw [8,9] (fun lv iv wr => ∃ (k : Nat),k ≤ n2 ∧ iv = .int .i64 k ∧ Hid (wr.ownsRow wz.heap.size 9 1 lv k ((P.take k).map fun s => .string ⟨s.toArray⟩)) ∧ Hid (Below wz.heap.size wz wr)) (fun _ iv _ => n2 - (intOf iv).toNat)
 case atStart => exact ⟨0,by omega,rfl,zH (World.ownsRow_nil _ _ _ _),zH (Below.refl _ _)⟩
 case round =>
  obtain ⟨k,hk,rfl,HOWN,qF⟩:=hrel
  obtain ⟨Av,cv,rfl⟩:=bg HOWN.out
  have hzz : wz.heap.size ≤ wr.heap.size:=qF.out.size
  have r10:=ae K10.out qF.out
  by_cases hlt : k < n2
  ·obtain ⟨c,hc'⟩ : ∃ y,exprs[k]? = some y:=⟨_,List.getElem?_eq_getElem (by have:=I7.out; omega)⟩
   have yz : P[k]? = some (ik c):=by rw [← HP.out,List.getElem?_map,hc']; rfl
   obtain ⟨-,hnc,b',off,A9,n9,c9,rfl,-,y0,y1,y2,y3,y4,y5,hk'⟩:=pF (PR.out.below qF.out) hc'
   have hcx:=TD.out c (az hc')
   have htl : (ik c).length ≤ 240000000:=qj hcx.1 hcx.2
   have rP:=zH hk'
   have PG:=zH hcx
   obtain ⟨X,hX⟩ : ∃ x,ik c = x:=⟨_,rfl⟩
   rw [hX] at yz htl
   have HX:=zH hX
   have Ja:=zH yz
   clear hk' hc' hcx hX yz
   go_wp2_with fail
   refine Calls.mono (vI c _ wr (rD rP.out) PG.out.2 PG.out.1) ?_
   rw [HX.out]
   rintro e w7 ⟨rfl,hb7⟩
   have FO:=qI HOWN.out hb7 (Nat.le_refl _)
   have UN:=hb7.size
   have IU:=zH hb7
   clear hb7
   go_wp2_with (at_builtin; go_must (refine pK nO w7 (.string ⟨X.toArray⟩) rfl (.tmp 95) (.tmp 102) rfl wz.heap.size (.slice Av k cv) k _ rfl FO rfl rfl (by omega) (by omega) (by omega) ?_; intro v4 w4 o1 o2 o3 o4; obtain ⟨Ue,UE,rfl⟩:=bg o1; have I8:=zH o1; have PO:=zH o4; clear o1 o2 o3 o4))
   go_roundw
   case rel =>
    refine ⟨k + 1,by omega,by go_num,zH ?_,zH ((chain qF.out IU.out).trans PO.out)⟩
    rw [List.take_add_one,Ja.out]
    simpa using I8.out
   case measure => simp [intOf]; omega
  ·have hkn : k = n2:=by omega
   subst hkn
   have hpv : aF wr (.slice Av k cv) P:=by
    have h1:=HOWN.out
    rw [List.take_of_length_le (by rw [DU.out]; exact Nat.le_refl _)] at h1
    have h2 : wr.ownsRow wz.heap.size 9 1 (.slice Av k cv) P.length (P.map fun s => .string ⟨s.toArray⟩):=by rw [DU.out]; exact h1
    exact (uX (D:=All) h2 fun _ _ => trivial).is
   have Ip:=zH hpv
   have r2:=ae K2.out qF.out
   have r11:=ae TF.out qF.out
   clear hpv k0 k2 k10 k11
   go_wp2_with fail
   have hc0 : Below wr.heap.size wr wr.drew:=(Below.refl _ _).drew
   have fJ:=zH (fun (wq : World) (hSw : Below wr.heap.size wr wq) => ae r2 hSw)
   refine aC 6 (fun w' : World => Below wr.heap.size wr w') (by kernel_rfl) ?_
   refine zT 0 ?_ rfl (Or.inl ⟨by rfl,?_⟩) hc0 ?_
   rotate_left
   ·(intro wq hSw; have:=fJ.out wq hSw; go_simp; all_goals first | with_reducible rfl | rw [zI])
   try simp only [zA,zB,zC,Act.put,zD,zE,zF]
   refine zT 1 ?_ rfl (Or.inl ⟨by rfl,?_⟩) hc0 ?_
   rotate_left
   ·(intro wq hSw; have:=fJ.out wq hSw; go_simp; all_goals first | with_reducible rfl | rw [zI])
   try simp only [zA,zB,zC,Act.put,zD,zE,zF]
   refine zT 2 ?_ rfl (Or.inl ⟨by rfl,?_⟩) hc0 ?_
   rotate_left
   ·(intro wq hSw; have:=fJ.out wq hSw; go_simp; all_goals first | with_reducible rfl | rw [zI])
   try simp only [zA,zB,zC,Act.put,zD,zE,zF]
   refine zT 3 ?_ rfl (Or.inl ⟨by rfl,?_⟩) hc0 ?_
   rotate_left
   ·(intro wq hSw; have:=fJ.out wq hSw; go_simp; all_goals first | with_reducible rfl | rw [zI])
   try simp only [zA,zB,zC,Act.put,zD,zE,zF]
   refine zO 4 fun K hK => ?_
   go_simp
   refine Calls.mono (qX _ P comma wr.drew (Ip.out.keep hc0) (by have:=DU.out; omega) (by rw [I4.out]; omega)) ?_
   rw [I4.out]
   rintro e x2 ⟨rfl,hq⟩
   have hc1:=chain hc0 hq
   clear hq
   refine hK.out _ _ (fun _ => hc1) ?_
   clear hK K
   try simp only [zA,zB,zC,Act.put,zD,zE,zF]
   refine zT 5 ?_ rfl (Or.inl ⟨by rfl,?_⟩) hc1 ?_
   rotate_left
   ·(intro wq hSw; have:=fJ.out wq hSw; go_simp; all_goals first | with_reducible rfl | rw [zI])
   try simp only [zA,zB,zC,Act.put,zD,zE,zF]
   refine zO 6 fun K hK => ?_
   go_simp
   refine hK.out _ _ (fun h => absurd h (by decide)) ?_
   clear hK K
   try simp only [zA,zB,zC,Act.put,zD,zE,zF]
   refine bf (by kernel_rfl) ?_
   have s11:=ae r11 hc1
   have NL:=zH hc1
   by_cases h0 : n3 = 0
   ·subst h0
    have HR2 : Hid (name ++ ([40] : Str) ++ JE ++ [] ++ [41] = R):=zH (by have:=HR.out; rwa [if_pos rfl] at this)
    go_wp2_with fail
    go_ret
    exact ⟨by rw [← HR2.out]; simp,(HS.out.next (chain qF.out NL.out)).bl⟩
   ·have HR2 : Hid (name ++ ([40] : Str) ++ JE ++ ([59,32] ++ JN) ++ [41] = R):=zH (by have:=HR.out; rwa [if_neg h0] at this)
    have hpos : 0 < n3:=by omega
    clear h0
    go_wp2_with fail
    refine Calls.mono (qX _ names comma x2 (L6.out.keep (chain qF.out NL.out)) (by have:=Ht.out; omega) (by rw [LW.out]; omega)) ?_
    rw [LW.out]
    rintro e x3 ⟨rfl,Po⟩
    go_wp2_with fail
    go_ret
    exact ⟨by rw [← HR2.out]; simp,(HS.out.next (chain qF.out (chain NL.out Po))).bl⟩
def bK (k : Int) : Str:=if k = 1 then [115,116,111,112] else if k = 2 then [115,101,110,100,32] else if k = 3 then [114,101,99,118,32] else if k = 4 then [103,105,118,101,32] else if k = 5 then [116,97,107,101,32] else if k = 6 then [112,105,99,107,32] else if k = 7 then [99,97,115,101,32] else if k = 8 then [101,110,100,32] else if k = 9 then [115,112,97,119,110,32] else if k = 10 then [105,102,32] else if k = 11 then [108,101,116,32] else if k = 12 then [112,114,105,110,116,32] else []
theorem rt_kinds (kind : Int) (chan name label : Str) (xk : Int) (xn : Str) (xs xv : Int) (xt : Str) (af exprs : List Ex) (names : List Str) (tk ts : Int) (tn : Str) (tl : List Str) (ag : List Ty) (labels : List Str) (kids : List Pr) (A1 : Option Addr) (n1 c1 : Nat) (A2 : Option Addr) (n2 c2 : Nat) (A3 : Option Addr) (n3 c3 : Nat) (A4 : Option Addr) (n4 c4 : Nat) (A5 : Option Addr) (n5 c5 : Nat) (A6 : Option Addr) (n6 c6 : Nat) (A7 : Option Addr) (n7 c7 : Nat) (b : Nat) (w wz : World) {u0 u2 u3 u6 u7 u8 u9 jI jJ jk jl iW iY u16 jc jd je jL mW mX jM jB jG jH jQ jR jS jT jU u32 jV jW jX jY jZ ku kw kz kC kD kE kF kG kH kJ kK kL kM kN kP kQ kR kS kT kU kV kW kX kY kZ lg u64 lh lm lq lu lJ lK lL lM lN lQ lS lT lU lV lW lX lY lZ l9 mf mg mi mr mD mF lD lw mP nP nD oH oI oJ oK oL dE dF dG dH dI dJ dK dL dM dN dO bP bQ bT bU bV bW bY bZ cu cO cZ dh di dw dC dD gJ gK gQ gU gV fO fP fQ fU fV fZ gp gq gu gy gB gG gI eu eF eG eH eP eQ eU eX eY fA fB fC fD fE fF fG fH dS dU dV dW dX dY dZ ed iq iw iy iC iD iE iF iG iH iI iJ iK iL iM iO iP iQ iR iT iU mZ ng : Value} (sc : Str) (hsc : sc = bK kind ++ chan) (N nk : Nat) (Ak : Option Addr) (ck : Nat) (hnk : nk = kids.length) (hnck : nk ≤ ck) (hwN : w.heap.size ≤ N) (hbN : b < N) (hown : Hid (wz.ownsRow N 9 1 (.slice Ak nk ck) nk ((kids.map lC).map fun s => .string ⟨s.toArray⟩))) (hlab : aF w (.slice A6 n6 c6) labels) (hlen : ∀ k ∈ kids,(lC k).length ≤ 400000000000)
  (hS : (GH kind chan name label xk xn xs xv xt af exprs names tk ts tn tl ag labels kids A1 n1 c1 A2 n2 c2 A3 n3 c3 A4 n4 c4 A5 n5 c5 A6 n6 c6 A7 n7 c7 w wz b)) (hf : Hid (bF 1048576 (.mk kind chan name label xk xn xs xv xt af exprs names tk ts tn tl ag labels kids))) (HH : Hid (oM (.mk kind chan name label xk xn xs xv xt af exprs names tk ts tn tl ag labels kids))) (hone : Hid (nU (.mk kind chan name label xk xn xs xv xt af exprs names tk ts tn tl ag labels kids) = 0)) (hn3 : n3 = names.length) (R : Str) (hR : Hid (lC (.mk kind chan name label xk xn xs xv xt af exprs names tk ts tn tl ag labels kids) = R)) :
  Code.wp Tryz.prog mY (bodyPost Tryz.prog Tryz.f47 (fun e w' => e = .returned (.string ⟨R.toArray⟩) ∧ Below w.heap.size w w')) { tmps:=#[u0,.pointer (some ⟨b,0,none⟩),u2,u3,.string ⟨sc.toArray⟩,.slice Ak nk ck,u6,u7,u8,u9,jI,jJ,jk,jl,iW,iY,u16,jc,jd,je,jL,mW,mX,jM,jB,jG,jH,jQ,jR,jS,jT,jU,u32,jV,jW,jX,jY,jZ,ku,kw,kz,kC,kD,kE,kF,kG,kH,kJ,kK,kL,kM,kN,kP,kQ,kR,kS,kT,kU,kV,kW,kX,kY,kZ,lg,u64,lh,lm,lq,lu,lJ,lK,lL,lM,lN,lQ,lS,lT,lU,lV,lW,lX,lY,lZ,l9,mf,mg,mi,mr,mD,mF,lD,lw,mP,nP,nD,oH,oI,oJ,oK,oL,dE,dF,dG,dH,dI,dJ,dK,dL,dM,dN,dO,bP,bQ,bT,bU,bV,bW,bY,bZ,cu,cO,cZ,dh,di,dw,dC,dD,gJ,gK,gQ,gU,gV,fO,fP,fQ,fU,fV,fZ,gp,gq,gu,gy,gB,gG,gI,eu,eF,eG,eH,eP,eQ,eU,eX,eY,fA,fB,fC,fD,fE,fF,fG,fH,dS,dU,dV,dW,dX,dY,dZ,ed,iq,iw,iy,iC,iD,iE,iF,iG,iH,iI,iJ,iK,iL,iM,iO,iP,iQ,iR,iT,iU,mZ,ng],defers:=[] } wz:=by
 have h1 : 1 ≤ kind:=HH.out.k1
 have h2 : kind ≤ 13:=HH.out.k2
 rcases (by omega : kind = 1 ∨ kind = 2 ∨ kind = 3 ∨ kind = 4 ∨ kind = 5 ∨ kind = 6 ∨ kind = 7 ∨ kind = 8 ∨ kind = 9 ∨ kind = 10 ∨ kind = 11 ∨ kind = 12 ∨ kind = 13) with rfl | rfl | rfl | rfl | rfl | rfl | rfl | rfl | rfl | rfl | rfl | rfl | rfl
 ·have hch : chan = []:=yh hone.out rfl
  subst hch
  refine rk_1 _ _ _ _ _ _ _ _ _ _ _ _ _ _ _ _ _ _ _ _ _ _ _ _ _ _ _ _ _ _ _ _ _ _ _ _ _ _ _ _ w wz sc (by rw [hsc]; have:=HH.out.ch; simp only [Pr.aT] at this; simp [bK]; try omega) hS hf.out HH.out R (zH ?_)
  ·rw [← hR.out,jK (.mk 1 [] name label xk xn xs xv xt af exprs names tk ts tn tl ag labels _),Dj rfl]
   skip
   all_goals (first | rfl | (simp [hsc,bK,List.getLastD,Pr.ex,Pr.ty]; done) | (simp [hsc,bK,List.getLastD,Pr.ex,Pr.ty]; rfl))
 ·obtain ⟨k,rfl⟩ : ∃ k,kids = [k]:=by
   have : kids.length = 1:=HH.out.kids
   match kids,this with
   | [k],_ => exact ⟨k,rfl⟩
  obtain rfl : nk = 1:=hnk
  obtain ⟨g,rfl,-,-,-,gc,-⟩:=qx hown.out 0 (by omega) (.string ⟨#[]⟩)
  refine rk_2 _ _ _ _ _ _ _ _ _ _ _ _ _ _ _ _ _ _ _ _ _ _ _ _ _ _ _ _ _ _ _ _ _ _ _ _ _ _ _ _ w wz sc (by rw [hsc]; have:=HH.out.ch; simp only [Pr.aT] at this; simp [bK]; try omega) g ck (lC k) (hlen k (by simp)) hnck (gc 0 _ rfl) hS hf.out HH.out R (zH ?_)
  ·rw [← hR.out,jK (.mk 2 chan name label xk xn xs xv xt af exprs names tk ts tn tl ag labels _),Dk rfl]
   skip
   all_goals (first | rfl | (simp [hsc,bK,List.getLastD,Pr.ex,Pr.ty]; done) | (simp [hsc,bK,List.getLastD,Pr.ex,Pr.ty]; rfl))
 ·obtain ⟨k,rfl⟩ : ∃ k,kids = [k]:=by
   have : kids.length = 1:=HH.out.kids
   match kids,this with
   | [k],_ => exact ⟨k,rfl⟩
  obtain rfl : nk = 1:=hnk
  obtain ⟨g,rfl,-,-,-,gc,-⟩:=qx hown.out 0 (by omega) (.string ⟨#[]⟩)
  refine rk_3 _ _ _ _ _ _ _ _ _ _ _ _ _ _ _ _ _ _ _ _ _ _ _ _ _ _ _ _ _ _ _ _ _ _ _ _ _ _ _ _ w wz sc (by rw [hsc]; have:=HH.out.ch; simp only [Pr.aT] at this; simp [bK]; try omega) g ck (lC k) (hlen k (by simp)) hnck (gc 0 _ rfl) hS hf.out HH.out R (zH ?_)
  ·rw [← hR.out,jK (.mk 3 chan name label xk xn xs xv xt af exprs names tk ts tn tl ag labels _),Dl rfl]
   skip
   all_goals (first | rfl | (simp [hsc,bK,List.getLastD,Pr.ex,Pr.ty]; done) | (simp [hsc,bK,List.getLastD,Pr.ex,Pr.ty]; rfl))
 ·obtain ⟨k,rfl⟩ : ∃ k,kids = [k]:=by
   have : kids.length = 1:=HH.out.kids
   match kids,this with
   | [k],_ => exact ⟨k,rfl⟩
  obtain rfl : nk = 1:=hnk
  obtain ⟨g,rfl,-,-,-,gc,-⟩:=qx hown.out 0 (by omega) (.string ⟨#[]⟩)
  refine rk_4 _ _ _ _ _ _ _ _ _ _ _ _ _ _ _ _ _ _ _ _ _ _ _ _ _ _ _ _ _ _ _ _ _ _ _ _ _ _ _ _ w wz sc (by rw [hsc]; have:=HH.out.ch; simp only [Pr.aT] at this; simp [bK]; try omega) g ck (lC k) (hlen k (by simp)) hnck (gc 0 _ rfl) hS hf.out HH.out R (zH ?_)
  ·rw [← hR.out,jK (.mk 4 chan name label xk xn xs xv xt af exprs names tk ts tn tl ag labels _),Dn rfl]
   skip
   all_goals (first | rfl | (simp [hsc,bK,List.getLastD,Pr.ex,Pr.ty]; done) | (simp [hsc,bK,List.getLastD,Pr.ex,Pr.ty]; rfl))
 ·obtain ⟨k,rfl⟩ : ∃ k,kids = [k]:=by
   have : kids.length = 1:=HH.out.kids
   match kids,this with
   | [k],_ => exact ⟨k,rfl⟩
  obtain rfl : nk = 1:=hnk
  obtain ⟨g,rfl,-,-,-,gc,-⟩:=qx hown.out 0 (by omega) (.string ⟨#[]⟩)
  refine rk_5 _ _ _ _ _ _ _ _ _ _ _ _ _ _ _ _ _ _ _ _ _ _ _ _ _ _ _ _ _ _ _ _ _ _ _ _ _ _ _ _ w wz sc (by rw [hsc]; have:=HH.out.ch; simp only [Pr.aT] at this; simp [bK]; try omega) g ck (lC k) (hlen k (by simp)) hnck (gc 0 _ rfl) hS hf.out HH.out R (zH ?_)
  ·rw [← hR.out,jK (.mk 5 chan name label xk xn xs xv xt af exprs names tk ts tn tl ag labels _),Dp rfl]
   skip
   all_goals (first | rfl | (simp [hsc,bK,List.getLastD,Pr.ex,Pr.ty]; done) | (simp [hsc,bK,List.getLastD,Pr.ex,Pr.ty]; rfl))
 ·obtain ⟨k,rfl⟩ : ∃ k,kids = [k]:=by
   have : kids.length = 1:=HH.out.kids
   match kids,this with
   | [k],_ => exact ⟨k,rfl⟩
  obtain rfl : nk = 1:=hnk
  obtain ⟨g,rfl,-,-,-,gc,-⟩:=qx hown.out 0 (by omega) (.string ⟨#[]⟩)
  refine rk_6 _ _ _ _ _ _ _ _ _ _ _ _ _ _ _ _ _ _ _ _ _ _ _ _ _ _ _ _ _ _ _ _ _ _ _ _ _ _ _ _ w wz sc (by rw [hsc]; have:=HH.out.ch; simp only [Pr.aT] at this; simp [bK]; try omega) g ck (lC k) (hlen k (by simp)) hnck (gc 0 _ rfl) hS hf.out HH.out R (zH ?_)
  ·rw [← hR.out,jK (.mk 6 chan name label xk xn xs xv xt af exprs names tk ts tn tl ag labels _),Dq rfl]
   skip
   all_goals (first | rfl | (simp [hsc,bK,List.getLastD,Pr.ex,Pr.ty]; done) | (simp [hsc,bK,List.getLastD,Pr.ex,Pr.ty]; rfl))
 ·refine rk_7 _ _ _ _ _ _ _ _ _ _ _ _ _ _ _ _ _ _ _ _ _ _ _ _ _ _ _ _ _ _ _ _ _ _ _ _ _ _ _ _ w wz sc (by rw [hsc]; have:=HH.out.ch; simp only [Pr.aT] at this; simp [bK]; try omega) N nk Ak ck (kids.map lC) (by rw [List.length_map]; exact hnk.symm) (by rw [hnk]; exact (HH.out.kids).symm) (by intro s hs; obtain ⟨k,hk,rfl⟩:=List.mem_map.1 hs; exact hlen k hk) hwN hbN hnck hown.out hlab hS hf.out HH.out R (zH ?_)
  ·rw [← hR.out,jK (.mk 7 chan name label xk xn xs xv xt af exprs names tk ts tn tl ag labels _),Dt rfl]
   skip
   all_goals (first | rfl | (simp [hsc,bK,List.getLastD,Pr.ex,Pr.ty]; done) | (simp [hsc,bK,List.getLastD,Pr.ex,Pr.ty]; rfl))
 ·obtain ⟨k,rfl⟩ : ∃ k,kids = [k]:=by
   have : kids.length = 1:=HH.out.kids
   match kids,this with
   | [k],_ => exact ⟨k,rfl⟩
  obtain rfl : nk = 1:=hnk
  obtain ⟨g,rfl,-,-,-,gc,-⟩:=qx hown.out 0 (by omega) (.string ⟨#[]⟩)
  refine rk_8 _ _ _ _ _ _ _ _ _ _ _ _ _ _ _ _ _ _ _ _ _ _ _ _ _ _ _ _ _ _ _ _ _ _ _ _ _ _ _ _ w wz sc (by rw [hsc]; have:=HH.out.ch; simp only [Pr.aT] at this; simp [bK]; try omega) g ck (lC k) (hlen k (by simp)) hnck (gc 0 _ rfl) hS hf.out HH.out R (zH ?_)
  ·rw [← hR.out,jK (.mk 8 chan name label xk xn xs xv xt af exprs names tk ts tn tl ag labels _),Du rfl]
   skip
   all_goals (first | rfl | (simp [hsc,bK,List.getLastD,Pr.ex,Pr.ty]; done) | (simp [hsc,bK,List.getLastD,Pr.ex,Pr.ty]; rfl))
 ·obtain ⟨ka,kb,rfl⟩ : ∃ a b,kids = [a,b]:=by
   have : kids.length = 2:=HH.out.kids
   match kids,this with
   | [a,b],_ => exact ⟨a,b,rfl⟩
  obtain rfl : nk = 2:=hnk
  obtain ⟨g,rfl,-,-,-,gc,-⟩:=qx hown.out 0 (by omega) (.string ⟨#[]⟩)
  refine rk_9 _ _ _ _ _ _ _ _ _ _ _ _ _ _ _ _ _ _ _ _ _ _ _ _ _ _ _ _ _ _ _ _ _ _ _ _ _ _ _ _ w wz sc (by rw [hsc]; have:=HH.out.ch; simp only [Pr.aT] at this; simp [bK]; try omega) g ck (lC ka) (lC kb) (hlen ka (by simp)) (hlen kb (by simp)) hnck (gc 0 _ rfl) (gc 1 _ rfl) hS hf.out HH.out R (zH ?_)
  ·rw [← hR.out,jK (.mk 9 chan name label xk xn xs xv xt af exprs names tk ts tn tl ag labels _),Dv rfl]
   skip
   all_goals (first | rfl | (simp [hsc,bK,List.getLastD,Pr.ex,Pr.ty]; done) | (simp [hsc,bK,List.getLastD,Pr.ex,Pr.ty]; rfl))
 ·obtain ⟨ka,kb,rfl⟩ : ∃ a b,kids = [a,b]:=by
   have : kids.length = 2:=HH.out.kids
   match kids,this with
   | [a,b],_ => exact ⟨a,b,rfl⟩
  obtain rfl : nk = 2:=hnk
  obtain ⟨g,rfl,-,-,-,gc,-⟩:=qx hown.out 0 (by omega) (.string ⟨#[]⟩)
  have hch : chan = []:=yh hone.out rfl
  subst hch
  refine rk_10 _ _ _ _ _ _ _ _ _ _ _ _ _ _ _ _ _ _ _ _ _ _ _ _ _ _ _ _ _ _ _ _ _ _ _ _ _ _ _ _ w wz sc (by rw [hsc]; have:=HH.out.ch; simp only [Pr.aT] at this; simp [bK]; try omega) g ck (lC ka) (lC kb) (hlen ka (by simp)) (hlen kb (by simp)) hnck (gc 0 _ rfl) (gc 1 _ rfl) hS hf.out HH.out R (zH ?_)
  ·rw [← hR.out,jK (.mk 10 [] name label xk xn xs xv xt af exprs names tk ts tn tl ag labels _),Az rfl]
   skip
   all_goals (first | rfl | (simp [hsc,bK,List.getLastD,Pr.ex,Pr.ty]; done) | (simp [hsc,bK,List.getLastD,Pr.ex,Pr.ty]; rfl))
 ·obtain ⟨k,rfl⟩ : ∃ k,kids = [k]:=by
   have : kids.length = 1:=HH.out.kids
   match kids,this with
   | [k],_ => exact ⟨k,rfl⟩
  obtain rfl : nk = 1:=hnk
  obtain ⟨g,rfl,-,-,-,gc,-⟩:=qx hown.out 0 (by omega) (.string ⟨#[]⟩)
  have hch : chan = []:=yh hone.out rfl
  subst hch
  refine rk_11 _ _ _ _ _ _ _ _ _ _ _ _ _ _ _ _ _ _ _ _ _ _ _ _ _ _ _ _ _ _ _ _ _ _ _ _ _ _ _ _ w wz sc (by rw [hsc]; have:=HH.out.ch; simp only [Pr.aT] at this; simp [bK]; try omega) g ck (lC k) (hlen k (by simp)) hnck (gc 0 _ rfl) hS hf.out HH.out R (zH ?_)
  ·rw [← hR.out,jK (.mk 11 [] name label xk xn xs xv xt af exprs names tk ts tn tl ag labels _),AA rfl]
   skip
   all_goals (first | rfl | (simp [hsc,bK,List.getLastD,Pr.ex,Pr.ty]; done) | (simp [hsc,bK,List.getLastD,Pr.ex,Pr.ty]; rfl))
 ·obtain ⟨k,rfl⟩ : ∃ k,kids = [k]:=by
   have : kids.length = 1:=HH.out.kids
   match kids,this with
   | [k],_ => exact ⟨k,rfl⟩
  obtain rfl : nk = 1:=hnk
  obtain ⟨g,rfl,-,-,-,gc,-⟩:=qx hown.out 0 (by omega) (.string ⟨#[]⟩)
  have hch : chan = []:=yh hone.out rfl
  subst hch
  refine rk_12 _ _ _ _ _ _ _ _ _ _ _ _ _ _ _ _ _ _ _ _ _ _ _ _ _ _ _ _ _ _ _ _ _ _ _ _ _ _ _ _ w wz sc (by rw [hsc]; have:=HH.out.ch; simp only [Pr.aT] at this; simp [bK]; try omega) g ck (lC k) (hlen k (by simp)) hnck (gc 0 _ rfl) hS hf.out HH.out R (zH ?_)
  ·rw [← hR.out,jK (.mk 12 [] name label xk xn xs xv xt af exprs names tk ts tn tl ag labels _),AB rfl]
   skip
   all_goals (first | rfl | (simp [hsc,bK,List.getLastD,Pr.ex,Pr.ty]; done) | (simp [hsc,bK,List.getLastD,Pr.ex,Pr.ty]; rfl))
 ·refine rk_13 _ _ _ _ _ _ _ _ _ _ _ _ _ _ _ _ _ _ _ _ _ _ _ _ _ _ _ _ _ _ _ _ _ _ _ _ _ _ _ _ w wz sc (by rw [hsc]; have:=HH.out.ch; simp only [Pr.aT] at this; simp [bK]; try omega) hS hf.out HH.out R (zH ?_)
  ·rw [← hR.out,jK (.mk 13 chan name label xk xn xs xv xt af exprs names tk ts tn tl ag labels _),AC rfl]
   rw [hn3]
   all_goals (first | rfl | (simp [hsc,bK,List.getLastD,Pr.ex,Pr.ty]; done) | (simp [hsc,bK,List.getLastD,Pr.ex,Pr.ty]; rfl))
theorem rt_2 (m : Nat) (ih : P5 m) (kind : Int) (chan name label : Str) (xk : Int) (xn : Str) (xs xv : Int) (xt : Str) (af exprs : List Ex) (names : List Str) (tk ts : Int) (tn : Str) (tl : List Str) (ag : List Ty) (labels : List Str) (kids : List Pr) (A1 : Option Addr) (n1 c1 : Nat) (A2 : Option Addr) (n2 c2 : Nat) (A3 : Option Addr) (n3 c3 : Nat) (A4 : Option Addr) (n4 c4 : Nat) (A5 : Option Addr) (n5 c5 : Nat) (A6 : Option Addr) (n6 c6 : Nat) (A7 : Option Addr) (n7 c7 : Nat) (b : Nat) (w wz : World) {u0 u2 u4 u5 u6 u7 u8 u9 jI jJ jk jl iW iY u16 jc jd je jL mW mX jM jB jG jH jQ jR jS jT jU u32 jV jW jX jY jZ ku kw kz kC kD kE kF kG kH kJ kK kL kM kN kP kQ kR kS kT kU kV kW kX kY kZ lg u64 lh lm lq lu lJ lK lL lM lN lQ lS lT lU lV lW lX lY lZ l9 mf mg mi mr mD mF lD lw mP nP nD oH oI oJ oK oL dE dF dG dH dI dJ dK dL dM dN dO bP bQ bT bU bV bW bY bZ cu cO cZ dh di dw dC dD gJ gK gQ gU gV fO fP fQ fU fV fZ gp gq gu gy gB gG gI eu eF eG eH eP eQ eU eX eY fA fB fC fD fE fF fG fH dS dU dV dW dX dY dZ ed iq iw iy iC iD iE iF iG iH iI iJ iK iL iM iO iP iQ iR iT iU mZ ng : Value} (wd : Str) (hwd : wd = bK kind) (hm : bG (.mk kind chan name label xk xn xs xv xt af exprs names tk ts tn tl ag labels kids) ≤ m + 1) (hm2 : bG (.mk kind chan name label xk xn xs xv xt af exprs names tk ts tn tl ag labels kids) ≤ 200) (hg : pq (.mk kind chan name label xk xn xs xv xt af exprs names tk ts tn tl ag labels kids)) (hlab : aF w (.slice A6 n6 c6) labels)
  (hS : (GH kind chan name label xk xn xs xv xt af exprs names tk ts tn tl ag labels kids A1 n1 c1 A2 n2 c2 A3 n3 c3 A4 n4 c4 A5 n5 c5 A6 n6 c6 A7 n7 c7 w wz b)) (hf : bF 1048576 (.mk kind chan name label xk xn xs xv xt af exprs names tk ts tn tl ag labels kids)) (R : Str) (hR : Hid (lC (.mk kind chan name label xk xn xs xv xt af exprs names tk ts tn tl ag labels kids) = R)) :
  Code.wp Tryz.prog BI (bodyPost Tryz.prog Tryz.f47 (fun e w' => e = .returned (.string ⟨R.toArray⟩) ∧ Below w.heap.size w w')) { tmps:=#[u0,.pointer (some ⟨b,0,none⟩),u2,.string ⟨wd.toArray⟩,u4,u5,u6,u7,u8,u9,jI,jJ,jk,jl,iW,iY,u16,jc,jd,je,jL,mW,mX,jM,jB,jG,jH,jQ,jR,jS,jT,jU,u32,jV,jW,jX,jY,jZ,ku,kw,kz,kC,kD,kE,kF,kG,kH,kJ,kK,kL,kM,kN,kP,kQ,kR,kS,kT,kU,kV,kW,kX,kY,kZ,lg,u64,lh,lm,lq,lu,lJ,lK,lL,lM,lN,lQ,lS,lT,lU,lV,lW,lX,lY,lZ,l9,mf,mg,mi,mr,mD,mF,lD,lw,mP,nP,nD,oH,oI,oJ,oK,oL,dE,dF,dG,dH,dI,dJ,dK,dL,dM,dN,dO,bP,bQ,bT,bU,bV,bW,bY,bZ,cu,cO,cZ,dh,di,dw,dC,dD,gJ,gK,gQ,gU,gV,fO,fP,fQ,fU,fV,fZ,gp,gq,gu,gy,gB,gG,gI,eu,eF,eG,eH,eP,eQ,eU,eX,eY,fA,fB,fC,fD,fE,fF,fG,fH,dS,dU,dV,dW,dX,dY,dZ,ed,iq,iw,iy,iC,iD,iE,iF,iG,iH,iI,iJ,iK,iL,iM,iO,iP,iQ,iR,iT,iU,mZ,ng],defers:=[] } wz:=by
 have h : BI = Code.seq _ (Code.seq _ (Code.seq _ mY)):=rfl
 rw [h]
 clear h
 have HS:=zH hS
 have HF:=zH hf
 have HH:=zH (Ie hg.one)
 have HG:=zH hg
 have HIH:=zH ih
 have I5:=zH hlab
 have MZ:=zH hwd
 have k1:=hS.bx.c1
 have k18:=hS.bx.c18
 have hbz : b < wz.heap.size:=hS.bx.lt
 simp only [Pr.aN,Pr.aT,Pr.aI,Pr.aW,Pr.jm,Pr.jo,Pr.jq,Pr.jv,Pr.jr,Pr.aY,Pr.aV,Pr.aU,Pr.jg,Pr.ji,Pr.jh,Pr.jA,Pr.aX,Pr.aH,Pr.aK] at k1 k18
 obtain ⟨e1,e2,e3,e4,e5,e6,e7,e,q1,q2,q3,q4,q5,q6,q7⟩:=id HS.out.pv
 simp only [Value.agg.injEq,Pr.aN,Pr.aT,Pr.aI,Pr.aW,Pr.jm,Pr.jo,Pr.jq,Pr.jv,Pr.jr,Pr.aY,Pr.aV,Pr.aU,Pr.jg,Pr.ji,Pr.jh,Pr.jA,Pr.aX,Pr.aH,Pr.aK] at e q1 q2 q3 q4 q5 q6 q7
 have e':=congrArg Array.toList e
 simp only [List.cons.injEq,and_true,true_and] at e'
 obtain ⟨Ag,Ah,Ai,Aj,Am,Ap,Aq⟩:=e'
 subst Ag Ah Ai Aj Am Ap Aq
 have G5 : n7 = kids.length:=by obtain ⟨_,_,e,-⟩:=q7; injection e
 have hn3 : n3 = names.length:=by obtain ⟨_,_,e,-⟩:=q3; injection e
 have MX:=zH q7
 have Bo:=zH G5
 have Ht:=zH hn3
 have hkl : kids.length ≤ 6:=by
  have h1:=HH.out.kids
  have h2:=HH.out.ls
  have h3:=HH.out.k1
  have h4:=HH.out.k2
  simp only [Pr.aK,Pr.aH,Pr.aN] at h1 h2 h3 h4
  rw [h1]
  rcases (by omega : kind = 1 ∨ kind = 2 ∨ kind = 3 ∨ kind = 4 ∨ kind = 5 ∨ kind = 6 ∨ kind = 7 ∨ kind = 8 ∨ kind = 9 ∨ kind = 10 ∨ kind = 11 ∨ kind = 12 ∨ kind = 13) with rfl | rfl | rfl | rfl | rfl | rfl | rfl | rfl | rfl | rfl | rfl | rfl | rfl
  all_goals (first | exact h2 | exact (by decide : (0 : Nat) ≤ 6) | exact (by decide : (1 : Nat) ≤ 6) | exact (by decide : (2 : Nat) ≤ 6))
 have hn7l : n7 ≤ 6:=by omega
 have hwl : wd.length ≤ 6:=by
  have h3:=HH.out.k1
  have h4:=HH.out.k2
  simp only [Pr.aN] at h3 h4
  rw [hwd]
  rcases (by omega : kind = 1 ∨ kind = 2 ∨ kind = 3 ∨ kind = 4 ∨ kind = 5 ∨ kind = 6 ∨ kind = 7 ∨ kind = 8 ∨ kind = 9 ∨ kind = 10 ∨ kind = 11 ∨ kind = 12 ∨ kind = 13) with rfl | rfl | rfl | rfl | rfl | rfl | rfl | rfl | rfl | rfl | rfl | rfl | rfl
  all_goals decide
 have hchl : chan.length ≤ 8:=HH.out.ch
 have hkk : ∀ k ∈ kids,(lC k).length ≤ 400000000000:=by
  intro k hk
  have h1:=rM k (hg.kid k hk) (hf.kid k hk)
  have h2:=uZ hk
  have h3 : 1 + oG kids ≤ 200:=hm2
  omega
 have hkp : ∀ k ∈ kids,(bG k ≤ m ∧ bG k ≤ 200) ∧ pq k ∧ bF 1048576 k:=by
  intro k hk
  have h2:=uZ hk
  have h3 : 1 + oG kids ≤ 200:=hm2
  have h4 : 1 + oG kids ≤ m + 1:=hm
  exact ⟨by omega,hg.kid k hk,hf.kid k hk⟩
 have HKK:=zH hkk
 have HKP:=zH hkp
 have UC:=zH k18
 have hwz : w.heap.size ≤ wz.heap.size:=HS.out.bl.size
 clear e q1 q2 q3 q4 q5 q6 q7 G5 hn3 hkk hkp hkl hS hf hg ih hlab hwd hm hm2 k18
 go_wp2_with fail
 go_loopw [5,6] (fun lv iv wr => ∃ (k : Nat),k ≤ n7 ∧ iv = .int .i64 k ∧ Hid (wr.ownsRow wz.heap.size 9 1 lv k (((kids.map lC).take k).map fun s => .string ⟨s.toArray⟩)) ∧ Hid (Below wz.heap.size wz wr)) (fun _ iv _ => n7 - (intOf iv).toNat)
 case atStart => exact ⟨0,by omega,rfl,zH (World.ownsRow_nil _ _ _ _),zH (Below.refl _ _)⟩
 case round =>
  obtain ⟨k,hk,rfl,HOWN,qF⟩:=hrel
  obtain ⟨Av,cv,rfl⟩:=bg HOWN.out
  have hzz : wz.heap.size ≤ wr.heap.size:=qF.out.size
  have UQ:=ae UC.out qF.out
  by_cases hlt : k < n7
  ·obtain ⟨c,hc'⟩ : ∃ y,kids[k]? = some y:=⟨_,List.getElem?_eq_getElem (by have:=Bo.out; omega)⟩
   have yz : (kids.map lC)[k]? = some (lC c):=by rw [List.getElem?_map,hc']; rfl
   obtain ⟨A',cap',e,hle,-,hrow⟩:=MX.out.below qF.out
   injection e with e1 e2 e3
   subst e1 e3
   obtain ⟨b',off,rfl,-,hrow⟩:=hrow (by have:=Bo.out; omega)
   obtain ⟨cs,hrg,hcs⟩:=(zo hrow hc').range
   have hcl:=hcs.len
   have Gv:=zH (HKP.out c (az hc'))
   have htl:=HKK.out c (az hc')
   obtain ⟨X,hX⟩ : ∃ x,lC c = x:=⟨_,rfl⟩
   rw [hX] at yz htl
   have HX:=zH hX
   have Ja:=zH yz
   have DN:=zH hrg
   have NJ:=zH hcs
   have LP : n7 ≤ c7:=by have:=Bo.out; omega
   clear hrow hrg hcs hc' hX yz e2 hle
   go_wp2_with (first | (refine jb DN.out hcl rfl (.tmp 30) rfl rfl ?_))
   refine Calls.mono (HIH.out c (.agg cs.toArray) wr Gv.out.1.1 Gv.out.1.2 NJ.out Gv.out.2.2 Gv.out.2.1) ?_
   rw [HX.out]
   rintro e w7 ⟨rfl,hb7⟩
   have FO:=qI HOWN.out hb7 (Nat.le_refl _)
   have UN:=hb7.size
   have IU:=zH hb7
   clear hb7
   go_wp2_with (at_builtin; go_must (refine pK nO w7 (.string ⟨X.toArray⟩) rfl (.tmp 26) (.tmp 33) rfl wz.heap.size (.slice Av k cv) k _ rfl FO rfl rfl (by omega) (by omega) (by omega) ?_; intro v4 w4 o1 o2 o3 o4; obtain ⟨Ue,UE,rfl⟩:=bg o1; have I8:=zH o1; have PO:=zH o4; clear o1 o2 o3 o4))
   go_roundw
   case rel =>
    refine ⟨k + 1,by omega,by go_num,zH ?_,zH ((chain qF.out IU.out).trans PO.out)⟩
    rw [List.take_add_one,Ja.out]
    simpa using I8.out
   case measure => simp [intOf]; omega
  ·have hkn : k = n7:=by omega
   subst hkn
   have hown : wr.ownsRow wz.heap.size 9 1 (.slice Av k cv) k ((kids.map lC).map fun s => .string ⟨s.toArray⟩):=by
    have h1:=HOWN.out
    rwa [List.take_of_length_le (by rw [List.length_map]; have:=Bo.out; omega)] at h1
   have hcv : k ≤ cv:=by
    rcases HOWN.out.2 with ⟨e,h0⟩ | ⟨_,_,_,e,_,_,hn,_⟩
    ·omega
    ·injection e with _ _ e3; omega
   have HO:=zH hown
   clear hown
   go_wp2_with fail
   exact rt_kinds kind _ _ _ _ _ _ _ _ _ _ _ _ _ _ _ _ _ _ _ _ _ _ _ _ _ _ _ _ _ _ _ _ _ _ _ _ _ _ _ _ w wr (wd ++ chan) (by rw [MZ.out]) wz.heap.size k Av cv Bo.out hcv hwz hbz HO I5.out HKK.out (HS.out.next qF.out) HF HH (zH HG.out.one) Ht.out R hR
theorem zN : ∀ (m : Nat),P5 m:=by
 intro m
 induction m with
 | zero => intro t v w h; cases t; simp only [bG] at h; omega
 | succ m ih =>
  intro t v w hm hm2 hv hf hg
  unfold Jf
  have HIH:=zH ih
  obtain ⟨kind,chan,name,label,xk,xn,xs,xv,xt,af,exprs,names,tk,ts,tn,tl,ag,labels,kids⟩:=t
  have HVV:=zH hv
  have HG:=zH hg
  have HF:=zH hf
  have hH:=Ie hg.one
  have hk1 : 1 ≤ kind:=hH.k1
  have hk2 : kind ≤ 13:=hH.k2
  obtain ⟨A1,n1,c1,A2,n2,c2,A3,n3,c3,A4,n4,c4,A5,n5,c5,A6,n6,c6,A7,n7,c7,rfl,q1,q2,q3,q4,q5,q6,q7⟩:=hv.one'
  simp only [Pr.aN,Pr.aT,Pr.aI,Pr.aW,Pr.jm,Pr.jo,Pr.jq,Pr.jv,Pr.jr,Pr.aY,Pr.aV,Pr.aU,Pr.jg,Pr.ji,Pr.jh,Pr.jA,Pr.aX,Pr.aH,Pr.aK] at q1 q2 q3 q4 q5 q6 q7 ⊢
  have I5 : Hid (aF w (.slice A6 n6 c6) labels):=zH q6.is
  obtain ⟨R,hR⟩ : ∃ x,lC (.mk kind chan name label xk xn xs xv xt af exprs names tk ts tn tl ag labels kids) = x:=⟨_,rfl⟩
  rw [hR]
  have HR:=zH hR
  have HM:=zH (And.intro hm hm2)
  clear hm hm2 hv hf hg q1 q2 q3 q4 q5 q6 q7 hR ih hH
  go_enter Tryz.func47,Tryz.ntmps47
  change Code.wp _ (Code.seq _ (Code.seq _ BI)) _ _ _
  iterate 14 (first | go_values | go_skip | go_guarded | go_step | go_upon | go_back)
  obtain ⟨W,hW⟩ : ∃ W,w.alloc (.cells #[.int .i64 kind,.string ⟨chan.toArray⟩,.string ⟨name.toArray⟩,.string ⟨label.toArray⟩,.int .i64 xk,.string ⟨xn.toArray⟩,.int .i64 xs,.int .i64 xv,.string ⟨xt.toArray⟩,.slice A1 n1 c1,.slice A2 n2 c2,.slice A3 n3 c3,.int .i64 tk,.int .i64 ts,.string ⟨tn.toArray⟩,.slice A4 n4 c4,.slice A5 n5 c5,.slice A6 n6 c6,.slice A7 n7 c7] 85) = W:=⟨_,rfl⟩
  rw [hW]
  have hbW : Below w.heap.size w W:=by subst hW; go_grown
  have hB : nK W w.heap.size (.mk kind chan name label xk xn xs xv xt af exprs names tk ts tn tl ag labels kids) (.slice A1 n1 c1) (.slice A2 n2 c2) (.slice A3 n3 c3) (.slice A4 n4 c4) (.slice A5 n5 c5) (.slice A6 n6 c6) (.slice A7 n7 c7):=by
   subst hW
   exact wG w (.mk kind chan name label xk xn xs xv xt af exprs names tk ts tn tl ag labels kids) _ _ _ _ _ _ _ 85
  clear hW
  have k0:=hB.c0
  simp only [Pr.aN,Pr.aT,Pr.aI,Pr.aW,Pr.jm,Pr.jo,Pr.jq,Pr.jv,Pr.jr,Pr.aY,Pr.aV,Pr.aU,Pr.jg,Pr.ji,Pr.jh,Pr.jA,Pr.aX,Pr.aH,Pr.aK] at k0
  have hzl : w.heap.size < W.heap.size:=hB.lt
  have HB:=zH hB
  have yB:=zH hbW
  clear hB hbW
  rcases (by omega : kind = 1 ∨ kind = 2 ∨ kind = 3 ∨ kind = 4 ∨ kind = 5 ∨ kind = 6 ∨ kind = 7 ∨ kind = 8 ∨ kind = 9 ∨ kind = 10 ∨ kind = 11 ∨ kind = 12 ∨ kind = 13) with rfl | rfl | rfl | rfl | rfl | rfl | rfl | rfl | rfl | rfl | rfl | rfl | rfl
  all_goals
   clear hk1 hk2
   go_wp2_with fail
   generalize hW2 : World.alloc W _ = W2
   have hb2 : Below W.heap.size W W2:=by subst hW2; exact (Below.refl _ _).alloc (Nat.le_refl _) _
   clear hW2
   exact rt_2 m HIH.out _ _ _ _ _ _ _ _ _ _ _ _ _ _ _ _ _ _ _ _ _ _ _ _ _ _ _ _ _ _ _ _ _ _ _ _ _ _ _ _ _ w W2 _ rfl HM.out.1 HM.out.2 HG.out I5.out ⟨HB.out.kept hb2,chain yB.out hb2,HVV.out.below (chain yB.out hb2)⟩ HF.out R HR
noncomputable def ptBody : Code:=((Tryz.f15.body).bind zg).getD .skip
noncomputable def SQ : Code:=BG (zu (bH ptBody))
noncomputable def ptX6 : Code:=bH SQ
noncomputable def MP : Code:=bH ptX6
noncomputable def JI : Code:=bH MP
noncomputable def Nj : Code:=bH JI
def Ey (u0 u2 jI jJ jk jl iW iY u16 mP : Value) (l : List Df) (j : Nat) (A : Option Addr) (c : Nat) (w : World) (g : Nat) (S' : Str) (N : Act → World → Prop) : Prop :=
 ∀ (wz : World),ET w wz g l A c → ∀ (v5 v6 v7 v8 v9 UT UU UV SY S9 UW UX Px Nv Nw JU JW JX JY Iz JZ J3 J4 J5 J6 Ih J7 J8 J9 Ko Kq Kr Kt Ku Hl Kv Kw Ky Kz IL KA IA KC KD KE KF KG KH KI KJ KL KN KO KP KQ KU KW KX IB KY IC KZ La IM IP Lc Ld Le Lh Lj Ll Lm Lp Lr Ls Lt Lu LC Ny Nz : Value),N { tmps:=#[u0,.pointer (some ⟨g,0,none⟩),u2,(.string ⟨S'.toArray⟩),.int .i64 j,v5,v6,v7,v8,v9,jI,jJ,jk,jl,iW,iY,u16,UT,UU,UV,SY,S9,UW,UX,Px,Nv,Nw,JU,JW,JX,JY,Iz,JZ,J3,J4,J5,J6,Ih,J7,J8,J9,Ko,Kq,Kr,Kt,Ku,Hl,Kv,Kw,Ky,Kz,IL,KA,IA,KC,KD,KE,KF,KG,KH,KI,KJ,KL,KN,KO,KP,KQ,KU,KW,KX,IB,KY,IC,KZ,La,IM,IP,Lc,Ld,Le,Lh,Lj,Ll,Lm,Lp,Lr,Ls,Lt,Lu,LC,Ny,Nz,mP],defers:=[] } wz
theorem pt_15 (l : List Df) (j : Nat) (A : Option Addr) (c : Nat) (w wz : World) (g : Nat) (S S' : Str) (Av : Option Addr) (nv cv : Nat) (Ac : Option Addr) (nc cc : Nat) (q : Nat) (cs : List Value) (d : Df) {u0 u2 u8 u9 jI jJ jk jl iW iY u16 jc jd je jL mW mX jM jB jG jH jQ jR jS jT jU u32 jV jW jX jY jZ ku kw kz kC kD kE kF kG kH kJ kK kL kM kN kP kQ kR kS kT kU kV kW kX kY kZ lg u64 lh lm lq lu lJ lK lL lM lN lQ lS lT lU lV lW lX lY lZ l9 mf mg mi mr mD mF lD lw mP : Value} (N : Act → World → Prop) (Qx : Exit → Act → World → Prop) (hw : ET w wz g l A c) (hd : LH wz q cs d) (hf : oh 1048576 d) (hg : o7 d) (hsl : S.length ≤ 5000000000000) (hav : aF wz (.slice Av nv cv) (gX d)) (hac : aF wz (.slice Ac nc cc) (fM d)) (hS : Hid (S ++ yG d = S')) (hN : Ey u0 u2 jI jJ jk jl iW iY u16 mP l j A c w g S' N) (hP : ∀ c (a : Act) i (v : Value) w,Qx (Exit.panic c) (a.put i v) w → Qx (Exit.panic c) a w) :
  Code.wp Tryz.prog Nj (Exit.then N Qx) { tmps:=#[u0,.pointer (some ⟨g,0,none⟩),u2,.string ⟨S.toArray⟩,.int .i64 j,.pointer (some ⟨q,0,none⟩),.slice Av nv cv,.slice Ac nc cc,u8,u9,jI,jJ,jk,jl,iW,iY,u16,jc,jd,je,jL,mW,mX,jM,jB,jG,jH,jQ,jR,jS,jT,jU,u32,jV,jW,jX,jY,jZ,ku,kw,kz,kC,kD,kE,kF,kG,kH,kJ,kK,kL,kM,kN,kP,kQ,kR,kS,kT,kU,kV,kW,kX,kY,kZ,lg,u64,lh,lm,lq,lu,lJ,lK,lL,lM,lN,lQ,lS,lT,lU,lV,lW,lX,lY,lZ,l9,mf,mg,mi,mr,mD,mF,lD,lw,mP],defers:=[] } wz:=by
 have h : Nj = Code.seq _ _:=rfl
 rw [h]
 clear h
 have HN:=zH hN
 have HP:=zH hP
 have HW:=zH hw
 have HF:=zH hf
 have HG:=zH hg
 have HD:=zH hd
 clear hN hP hw hf hg hd
 obtain ⟨v1,v2,v3,v4,ps,rfl,g1,g2,g3,g4,g5⟩:=id HD.out.dc
 have k0:=HD.out.bx.at_ (j:=0) rfl
 have hpl : ps.length = 19:=g5.len
 have MW:=zH g5
 have hrg : wz.rangeAt q 5 ps:=fun i v hi => by
  have:=HD.out.bx.rg (i + 5) v (by simpa using hi)
  rwa [show 0 + (i + 5) = 5 + i by omega] at this
 have DN:=zH hrg
 have hqz : q < wz.heap.size:=HD.out.bx.lt
 have hvl : (gX d).length = nv:=by obtain ⟨_,_,e,-⟩:=hav; injection e with _ e2; exact e2.symm
 have hcl : (fM d).length = nc:=by obtain ⟨_,_,e,-⟩:=hac; injection e with _ e2; exact e2.symm
 have hvl6 : nv ≤ 6:=by have:=(vS HG.out).1; have:=HG.out.vl; omega
 have hcl6 : nc ≤ 6:=by have:=(rC HG.out).1; have:=HG.out.cl; omega
 have hnm:=HG.out.nm
 obtain ⟨JV,SI⟩ : ∃ x,bn comma (gX d) = x:=⟨_,rfl⟩
 obtain ⟨JC,SG⟩ : ∃ x,bn comma (fM d) = x:=⟨_,rfl⟩
 obtain ⟨X,hX⟩ : ∃ x,lC d.body = x:=⟨_,rfl⟩
 have hJVl : JV.length ≤ 200:=by rw [← SI]; exact vP HG.out
 have hJCl : JC.length ≤ 40000:=by rw [← SG]; exact uS HG.out
 have LM : X.length ≤ 400000000000:=by rw [← hX]; exact Cc HG.out HF.out.2.2.2.2.2.2.2.2.2
 have hS2:=hS.out
 have hch : d.chans.length = nc:=by have:=(rC HG.out).1; omega
 rw [CE,SI,SG,hX,hch] at hS2
 have HS2:=zH hS2
 have HJV:=zH SI
 have HJC:=zH SG
 have HX:=zH hX
 have NH:=zH hav
 have HAC:=zH hac
 have HVL:=zH (show (gX d).length ≤ 6 by omega)
 have NI:=zH (show (fM d).length ≤ 6 by omega)
 clear g1 g2 g3 g4 g5 hrg hav hac hvl hcl SI SG hX hS hS2 hch
 go_wp2_with fail
 have hb0 : Below wz.heap.size wz wz.drew:=(Below.refl _ _).drew
 have fJ:=zH (fun (wq : World) (hSw : Below wz.heap.size wz wq) => ae k0 hSw)
 refine aC 9 (fun w' : World => Below wz.heap.size wz w') (by kernel_rfl) ?_
 refine jF (i:=0) (v:=?_) rfl (by kernel_rfl) (by kernel_rfl) (by kernel_rfl) (by kernel_rfl) (fun _ _ _ h => HP.out _ _ _ _ _ h) (Or.inl ⟨by rfl,?_⟩) hb0 ?_
 rotate_left
 ·(intro wq hSw; have:=fJ.out wq hSw; go_simp; all_goals first | with_reducible rfl | rw [zI])
 try simp only [zA,zB,zC,Act.put,zD,zE,zF]
 refine jF (i:=1) (v:=?_) rfl (by kernel_rfl) (by kernel_rfl) (by kernel_rfl) (by kernel_rfl) (fun _ _ _ h => HP.out _ _ _ _ _ h) (Or.inl ⟨by rfl,?_⟩) hb0 ?_
 rotate_left
 ·(intro wq hSw; have:=fJ.out wq hSw; go_simp; all_goals first | with_reducible rfl | rw [zI])
 try simp only [zA,zB,zC,Act.put,zD,zE,zF]
 refine jF (i:=2) (v:=?_) rfl (by kernel_rfl) (by kernel_rfl) (by kernel_rfl) (by kernel_rfl) (fun _ _ _ h => HP.out _ _ _ _ _ h) (Or.inl ⟨by rfl,?_⟩) hb0 ?_
 rotate_left
 ·(intro wq hSw; have:=fJ.out wq hSw; go_simp; all_goals first | with_reducible rfl | rw [zI])
 try simp only [zA,zB,zC,Act.put,zD,zE,zF]
 refine jF (i:=3) (v:=?_) rfl (by kernel_rfl) (by kernel_rfl) (by kernel_rfl) (by kernel_rfl) (fun _ _ _ h => HP.out _ _ _ _ _ h) (Or.inl ⟨by rfl,?_⟩) hb0 ?_
 rotate_left
 ·(intro wq hSw; have:=fJ.out wq hSw; go_simp; all_goals first | with_reducible rfl | rw [zI])
 try simp only [zA,zB,zC,Act.put,zD,zE,zF]
 refine jF (i:=4) (v:=?_) rfl (by kernel_rfl) (by kernel_rfl) (by kernel_rfl) (by kernel_rfl) (fun _ _ _ h => HP.out _ _ _ _ _ h) (Or.inl ⟨by rfl,?_⟩) hb0 ?_
 rotate_left
 ·(intro wq hSw; have:=fJ.out wq hSw; go_simp; all_goals first | with_reducible rfl | rw [zI])
 try simp only [zA,zB,zC,Act.put,zD,zE,zF]
 refine jF (i:=5) (v:=?_) rfl (by kernel_rfl) (by kernel_rfl) (by kernel_rfl) (by kernel_rfl) (fun _ _ _ h => HP.out _ _ _ _ _ h) (Or.inl ⟨by rfl,?_⟩) hb0 ?_
 rotate_left
 ·(intro wq hSw; have:=fJ.out wq hSw; go_simp; all_goals first | with_reducible rfl | rw [zI])
 try simp only [zA,zB,zC,Act.put,zD,zE,zF]
 refine zO 6 fun K hK => ?_
 go_simp
 refine Calls.mono (qX _ (gX d) comma wz.drew (NH.out.keep hb0) (by have:=HVL.out; omega) (by have:=vP HG.out; omega)) ?_
 rw [HJV.out]
 rintro e w2 ⟨rfl,hq⟩
 have hb1:=chain hb0 hq
 clear hq
 refine hK.out _ _ (fun _ => hb1) ?_
 clear hK K
 try simp only [zA,zB,zC,Act.put,zD,zE,zF]
 refine jF (i:=7) (v:=?_) rfl (by kernel_rfl) (by kernel_rfl) (by kernel_rfl) (by kernel_rfl) (fun _ _ _ h => HP.out _ _ _ _ _ h) (Or.inl ⟨by rfl,?_⟩) hb1 ?_
 rotate_left
 ·(intro wq hSw; have:=fJ.out wq hSw; go_simp; all_goals first | with_reducible rfl | rw [zI])
 try simp only [zA,zB,zC,Act.put,zD,zE,zF]
 refine jF (i:=8) (v:=?_) rfl (by kernel_rfl) (by kernel_rfl) (by kernel_rfl) (by kernel_rfl) (fun _ _ _ h => HP.out _ _ _ _ _ h) (Or.inl ⟨by rfl,?_⟩) hb1 ?_
 rotate_left
 ·(intro wq hSw; have:=fJ.out wq hSw; go_simp; all_goals first | with_reducible rfl | rw [zI])
 try simp only [zA,zB,zC,Act.put,zD,zE,zF]
 refine zO 9 fun K hK => ?_
 go_simp
 refine hK.out _ _ (fun h => absurd h (by decide)) ?_
 clear hK K
 try simp only [zA,zB,zC,Act.put,zD,zE,zF]
 refine bf (by kernel_rfl) ?_
 have ER:=zH hb1
 have hrg2 : w2.rangeAt q 5 ps:=nH ER.out hqz DN.out
 have L8:=zH hrg2
 clear hrg2 hb1 hb0 k0
 by_cases h0 : nc = 0
 ·subst h0
  have Jb : Hid (S ++ (([100,101,102,32] : Str) ++ d.name ++ [40] ++ JV ++ [] ++ [41,32,61,32] ++ X ++ [10]) = S'):=zH (by have:=HS2.out; rwa [if_pos rfl] at this)
  go_wp2_with (first | (refine jb L8.out hpl rfl (.tmp 86) rfl rfl ?_))
  refine Calls.mono (zN (bG d.body) d.body (.agg ps.toArray) w2 (Nat.le_refl _) HG.out.bp (MW.out.keep (Same.below ER.out) (fun _ h _ => h)) HF.out.2.2.2.2.2.2.2.2.2 HG.out.bd) ?_
  rw [HX.out]
  rintro e w3 ⟨rfl,hb3⟩
  have HE:=zH (HW.out.next (chain ER.out hb3))
  go_wp2_with fail
  rw [show (S ++ 100 :: 101 :: 102 :: 32 :: (d.name ++ 40 :: (JV ++ 41 :: 32 :: 61 :: 32 :: (X ++ [10])))) = S' by rw [← Jb.out]; simp]
  exact HN.out w3 HE.out _ _ _ _ _ _ _ _ _ _ _ _ _ _ _ _ _ _ _ _ _ _ _ _ _ _ _ _ _ _ _ _ _ _ _ _ _ _ _ _ _ _ _ _ _ _ _ _ _ _ _ _ _ _ _ _ _ _ _ _ _ _ _ _ _ _ _ _ _ _ _ _ _ _ _ _ _ _ _ _ 
 ·have Jb : Hid (S ++ (([100,101,102,32] : Str) ++ d.name ++ [40] ++ JV ++ ([59,32] ++ JC) ++ [41,32,61,32] ++ X ++ [10]) = S'):=zH (by have:=HS2.out; rwa [if_neg h0] at this)
  have hpos : 0 < nc:=by omega
  clear h0
  go_wp2_with fail
  refine Calls.mono (qX _ (fM d) comma w2 (HAC.out.keep ER.out) (by have:=NI.out; omega) (by have:=uS HG.out; omega)) ?_
  rw [HJC.out]
  rintro e w3 ⟨rfl,hb3⟩
  have hrg3 : w3.rangeAt q 5 ps:=nH hb3 (Nat.lt_of_lt_of_le hqz ER.out.size) L8.out
  have HRG3:=zH hrg3
  have HB3:=zH (chain ER.out hb3)
  clear hrg3 hb3
  go_wp2_with (first | (refine jb HRG3.out hpl rfl (.tmp 86) rfl rfl ?_))
  refine Calls.mono (zN (bG d.body) d.body (.agg ps.toArray) w3 (Nat.le_refl _) HG.out.bp (MW.out.keep (Same.below HB3.out) (fun _ h _ => h)) HF.out.2.2.2.2.2.2.2.2.2 HG.out.bd) ?_
  rw [HX.out]
  rintro e w4 ⟨rfl,hb4⟩
  have HE:=zH (HW.out.next (chain HB3.out hb4))
  go_wp2_with fail
  rw [show (S ++ 100 :: 101 :: 102 :: 32 :: (d.name ++ 40 :: (JV ++ 59 :: 32 :: (JC ++ 41 :: 32 :: 61 :: 32 :: (X ++ [10]))))) = S' by rw [← Jb.out]; simp]
  exact HN.out w4 HE.out _ _ _ _ _ _ _ _ _ _ _ _ _ _ _ _ _ _ _ _ _ _ _ _ _ _ _ _ _ _ _ _ _ _ _ _ _ _ _ _ _ _ _ _ _ _ _ _ _ _ _ _ _ _ _ _ _ _ _ _ _ _ _ _ _ _ _ _ _ _ _ _ _ _ _ _ _ _ _ _ 
theorem pt_11 (l : List Df) (j : Nat) (A : Option Addr) (c : Nat) (w wz : World) (g : Nat) (S S' : Str) (Av : Option Addr) (nv cv : Nat) (q : Nat) (cs : List Value) (d : Df) {u0 u2 u8 u9 jI jJ jk jl iW iY u16 jc jd je jL mW mX jM jB jG jH jQ jR jS jT jU u32 jV jW jX jY jZ ku kw kz kC kD kE kF kG kH kJ kK kL kM kN kP kQ kR kS kT kU kV kW kX kY kZ lg u64 lh lm lq lu lJ lK lL lM lN lQ lS lT lU lV lW lX lY lZ l9 mf mg mi mr mD mF lD lw mP : Value} (N : Act → World → Prop) (Qx : Exit → Act → World → Prop) (hw : ET w wz g l A c) (hd : LH wz q cs d) (hf : oh 1048576 d) (hg : o7 d) (hsl : S.length ≤ 5000000000000) (hav : aF wz (.slice Av nv cv) (gX d)) (hS : Hid (S ++ yG d = S')) (hN : Ey u0 u2 jI jJ jk jl iW iY u16 mP l j A c w g S' N) (hP : ∀ c (a : Act) i (v : Value) w,Qx (Exit.panic c) (a.put i v) w → Qx (Exit.panic c) a w) :
  Code.wp Tryz.prog JI (Exit.then N Qx) { tmps:=#[u0,.pointer (some ⟨g,0,none⟩),u2,.string ⟨S.toArray⟩,.int .i64 j,.pointer (some ⟨q,0,none⟩),.slice Av nv cv,.slice none 0 0,u8,u9,jI,jJ,jk,jl,iW,iY,u16,jc,jd,je,jL,mW,mX,jM,jB,jG,jH,jQ,jR,jS,jT,jU,u32,jV,jW,jX,jY,jZ,ku,kw,kz,kC,kD,kE,kF,kG,kH,kJ,kK,kL,kM,kN,kP,kQ,kR,kS,kT,kU,kV,kW,kX,kY,kZ,lg,u64,lh,lm,lq,lu,lJ,lK,lL,lM,lN,lQ,lS,lT,lU,lV,lW,lX,lY,lZ,l9,mf,mg,mi,mr,mD,mF,lD,lw,mP],defers:=[] } wz:=by
 have h : JI = Code.seq _ _:=rfl
 rw [h]
 clear h
 have HN:=zH hN
 have HP:=zH hP
 have HW:=zH hw
 have HF:=zH hf
 have HG:=zH hg
 have HD:=zH hd
 clear hN hP hw hf hg hd
 obtain ⟨v1,v2,v3,v4,ps,rfl,g1,g2,g3,g4,g5⟩:=id HD.out.dc
 obtain ⟨e3,p3,rfl,hp3,hc3⟩:=id g3
 obtain ⟨e4,p4,rfl,OL,-⟩:=id g4
 have k3:=HD.out.bx.at_ (j:=3) rfl
 have k4:=HD.out.bx.at_ (j:=4) rfl
 obtain ⟨n,hn⟩ : ∃ n,d.chans.length = n:=⟨_,rfl⟩
 have hn4 : d.types.length = n:=by rw [← HG.out.ct]; exact hn
 have D7 : n ≤ 6:=by rw [← hn]; exact HG.out.cl
 rw [hn] at hp3 k3
 rw [hn4] at OL k4
 have LU : Hid (bD All wz (.slice e3 n p3) d.chans):=zH (by rw [← hn]; exact g3)
 have IZ : Hid (qZ All wz (.slice e4 n p4) d.types):=zH (by rw [← hn4]; exact g4)
 have Gy:=zH hn
 have ru:=zH hn4
 have NK:=zH (rC HG.out)
 have NH:=zH hav
 have K3:=zH k3
 have K4:=zH k4
 have hqz : q < wz.heap.size:=HD.out.bx.lt
 obtain ⟨N0,hN0⟩ : ∃ N0,wz.heap.size = N0:=⟨_,rfl⟩
 have LZ:=zH hN0
 rw [hN0] at hqz
 clear g1 g2 g3 g4 g5 hn hn4 hc3 hav hN0 k3 k4
 go_step
 rename_i K8 h8
 have H8:=zH h8
 clear h8
 go_wp2_with fail
 go_loopw [7,9] (fun lv iv wr => ∃ (k : Nat),k ≤ n ∧ iv = .int .i64 k ∧ Hid (wr.ownsRow N0 9 1 lv k (((fM d).take k).map fun s => .string ⟨s.toArray⟩)) ∧ Hid (Below wz.heap.size wz wr)) (fun _ iv _ => n - (intOf iv).toNat)
 case atStart => exact ⟨0,by omega,rfl,zH (World.ownsRow_nil _ _ _ _),zH (Below.refl _ _)⟩
 case round =>
  obtain ⟨k,hk,rfl,HOWN,qF⟩:=hrel
  obtain ⟨Ax,cx,rfl⟩:=bg HOWN.out
  have MC : N0 ≤ wr.heap.size:=by rw [← LZ.out]; exact qF.out.size
  have r3:=ae K3.out qF.out
  have r4:=ae K4.out qF.out
  by_cases hlt : k < n
  ·obtain ⟨s,hs⟩ : ∃ y,d.chans[k]? = some y:=⟨_,List.getElem?_eq_getElem (by have:=Gy.out; omega)⟩
   obtain ⟨t,ht⟩ : ∃ y,d.types[k]? = some y:=⟨_,List.getElem?_eq_getElem (by have:=ru.out; omega)⟩
   have yz:=xy hs ht
   have OO:=HG.out.c8 s (az hs)
   have ht0:=HG.out.t0 t (az ht)
   have htl:=AP ht0
   obtain ⟨As,caps,es,hsc,xK⟩:=LU.out
   injection es with es1 es2 es3
   subst es1 es3
   obtain ⟨sb,so,rfl,-,JD⟩:=xK (by have:=Gy.out; omega)
   have hscell:=JD k s hs
   have hsb : sb < N0:=by rw [← LZ.out]; exact cell_lt hscell
   have kl:=(qF.out.cell (p:=⟨sb,so + k,none⟩) (cell_lt hscell)).trans hscell
   obtain ⟨-,hc4,b',off,A1,n1,c1,A2,n2,c2,rfl,-,y0,y1,y2,y3,y4,hL,hK2⟩:=qi IZ.out ht
   have hyb : b' < N0:=by rw [← LZ.out]; exact cell_lt y0
   have z0:=(qF.out.cell (p:=⟨b',off + k * 5,none⟩) (cell_lt y0)).trans y0
   have z1:=(qF.out.cell (p:=⟨b',off + k * 5 + 1,none⟩) (cell_lt y0)).trans y1
   have z2:=(qF.out.cell (p:=⟨b',off + k * 5 + 2,none⟩) (cell_lt y0)).trans y2
   have z3:=(qF.out.cell (p:=⟨b',off + k * 5 + 3,none⟩) (cell_lt y0)).trans y3
   have z4:=(qF.out.cell (p:=⟨b',off + k * 5 + 4,none⟩) (cell_lt y0)).trans y4
   have hyv : ny wr (.agg #[.int .i64 t.kind,.int .i64 t.sort,.string ⟨t.name.toArray⟩,.slice A1 n1 c1,.slice A2 n2 c2]) t:=⟨_,_,rfl,(hL.keep (Same.below qF.out) (fun _ h _ => h)).is,(hK2.keep (Same.below qF.out) (fun _ h _ => h)).is⟩
   obtain ⟨Y,hY⟩ : ∃ x,txt t = x:=⟨_,rfl⟩
   rw [hY] at yz htl
   have HY:=zH hY
   have PY:=zH hyv
   have HT0:=zH ht0
   have Ja:=zH yz
   clear hs ht yz ht0 hscell JD xK hsc es2 y0 y1 y2 y3 y4 hL hK2 hyv hY
   go_wp2_with fail
   have hd0 : Below N0 wr wr.drew:=(Below.refl _ _).drew
   have fJ:=zH (fun (wq : World) (hSw : Below N0 wr wq) => And.intro ((hSw.cell (p:=⟨q,3,none⟩) hqz).trans r3) (And.intro ((hSw.cell (p:=⟨q,4,none⟩) hqz).trans r4) (And.intro ((hSw.cell (p:=⟨sb,so + k,none⟩) hsb).trans kl) (And.intro ((hSw.cell (p:=⟨b',off + k * 5,none⟩) hyb).trans z0) (And.intro ((hSw.cell (p:=⟨b',off + k * 5 + 1,none⟩) hyb).trans z1) (And.intro ((hSw.cell (p:=⟨b',off + k * 5 + 2,none⟩) hyb).trans z2) (And.intro ((hSw.cell (p:=⟨b',off + k * 5 + 3,none⟩) hyb).trans z3) ((hSw.cell (p:=⟨b',off + k * 5 + 4,none⟩) hyb).trans z4))))))))
   refine aC 16 (fun w' : World => Below N0 wr w') (by kernel_rfl) ?_
   refine jF (i:=0) (v:=?_) rfl (by kernel_rfl) (by kernel_rfl) (by kernel_rfl) (by kernel_rfl) (fun _ _ _ h => HP.out _ _ _ _ _ h) (Or.inl ⟨by rfl,?_⟩) hd0 ?_
   rotate_left
   ·(intro wq hSw; obtain ⟨_,_,_,_,_,_,_,_⟩:=fJ.out wq hSw; go_simp; all_goals first | with_reducible rfl | rw [zI])
   try simp only [zA,zB,zC,Act.put,zD,zE,zF]
   refine jF (i:=1) (v:=?_) rfl (by kernel_rfl) (by kernel_rfl) (by kernel_rfl) (by kernel_rfl) (fun _ _ _ h => HP.out _ _ _ _ _ h) (Or.inl ⟨by rfl,?_⟩) hd0 ?_
   rotate_left
   ·(intro wq hSw; obtain ⟨_,_,_,_,_,_,_,_⟩:=fJ.out wq hSw; go_simp; all_goals first | with_reducible rfl | rw [zI])
   try simp only [zA,zB,zC,Act.put,zD,zE,zF]
   refine jF (i:=2) (v:=?_) rfl (by kernel_rfl) (by kernel_rfl) (by kernel_rfl) (by kernel_rfl) (fun _ _ _ h => HP.out _ _ _ _ _ h) (Or.inl ⟨by rfl,?_⟩) hd0 ?_
   rotate_left
   ·(intro wq hSw; obtain ⟨_,_,_,_,_,_,_,_⟩:=fJ.out wq hSw; go_simp; all_goals first | with_reducible rfl | rw [zI])
   try simp only [zA,zB,zC,Act.put,zD,zE,zF]
   refine jF (i:=3) (v:=?_) rfl (by kernel_rfl) (by kernel_rfl) (by kernel_rfl) (by kernel_rfl) (fun _ _ _ h => HP.out _ _ _ _ _ h) (Or.inl ⟨by rfl,?_⟩) hd0 ?_
   rotate_left
   ·(intro wq hSw; obtain ⟨_,_,_,_,_,_,_,_⟩:=fJ.out wq hSw; go_simp; all_goals first | with_reducible rfl | rw [zI])
   try simp only [zA,zB,zC,Act.put,zD,zE,zF]
   refine jF (i:=4) (v:=?_) rfl (by kernel_rfl) (by kernel_rfl) (by kernel_rfl) (by kernel_rfl) (fun _ _ _ h => HP.out _ _ _ _ _ h) (Or.inl ⟨by rfl,?_⟩) hd0 ?_
   rotate_left
   ·(intro wq hSw; obtain ⟨_,_,_,_,_,_,_,_⟩:=fJ.out wq hSw; go_simp; all_goals first | with_reducible rfl | rw [zI])
   try simp only [zA,zB,zC,Act.put,zD,zE,zF]
   refine jF (i:=5) (v:=?_) rfl (by kernel_rfl) (by kernel_rfl) (by kernel_rfl) (by kernel_rfl) (fun _ _ _ h => HP.out _ _ _ _ _ h) (Or.inl ⟨by rfl,?_⟩) hd0 ?_
   rotate_left
   ·(intro wq hSw; obtain ⟨_,_,_,_,_,_,_,_⟩:=fJ.out wq hSw; go_simp; all_goals first | with_reducible rfl | rw [zI])
   try simp only [zA,zB,zC,Act.put,zD,zE,zF]
   refine jF (i:=6) (v:=?_) rfl (by kernel_rfl) (by kernel_rfl) (by kernel_rfl) (by kernel_rfl) (fun _ _ _ h => HP.out _ _ _ _ _ h) (Or.inl ⟨by rfl,?_⟩) hd0 ?_
   rotate_left
   ·(intro wq hSw; obtain ⟨_,_,_,_,_,_,_,_⟩:=fJ.out wq hSw; go_simp; all_goals first | with_reducible rfl | rw [zI])
   try simp only [zA,zB,zC,Act.put,zD,zE,zF]
   refine jF (i:=7) (v:=?_) rfl (by kernel_rfl) (by kernel_rfl) (by kernel_rfl) (by kernel_rfl) (fun _ _ _ h => HP.out _ _ _ _ _ h) (Or.inl ⟨by rfl,?_⟩) hd0 ?_
   rotate_left
   ·(intro wq hSw; obtain ⟨_,_,_,_,_,_,_,_⟩:=fJ.out wq hSw; go_simp; all_goals first | with_reducible rfl | rw [zI])
   try simp only [zA,zB,zC,Act.put,zD,zE,zF]
   refine jF (i:=8) (v:=?_) rfl (by kernel_rfl) (by kernel_rfl) (by kernel_rfl) (by kernel_rfl) (fun _ _ _ h => HP.out _ _ _ _ _ h) (Or.inl ⟨by rfl,?_⟩) hd0 ?_
   rotate_left
   ·(intro wq hSw; obtain ⟨_,_,_,_,_,_,_,_⟩:=fJ.out wq hSw; go_simp; all_goals first | with_reducible rfl | rw [zI])
   try simp only [zA,zB,zC,Act.put,zD,zE,zF]
   refine jF (i:=9) (v:=?_) rfl (by kernel_rfl) (by kernel_rfl) (by kernel_rfl) (by kernel_rfl) (fun _ _ _ h => HP.out _ _ _ _ _ h) (Or.inl ⟨by rfl,?_⟩) hd0 ?_
   rotate_left
   ·(intro wq hSw; obtain ⟨_,_,_,_,_,_,_,_⟩:=fJ.out wq hSw; go_simp; all_goals first | with_reducible rfl | rw [zI])
   try simp only [zA,zB,zC,Act.put,zD,zE,zF]
   refine jF (i:=10) (v:=?_) rfl (by kernel_rfl) (by kernel_rfl) (by kernel_rfl) (by kernel_rfl) (fun _ _ _ h => HP.out _ _ _ _ _ h) (Or.inl ⟨by rfl,?_⟩) hd0 ?_
   rotate_left
   ·(intro wq hSw; obtain ⟨_,_,_,_,_,_,_,_⟩:=fJ.out wq hSw; go_simp; all_goals first | with_reducible rfl | rw [zI])
   try simp only [zA,zB,zC,Act.put,zD,zE,zF]
   refine jF (i:=11) (v:=?_) rfl (by kernel_rfl) (by kernel_rfl) (by kernel_rfl) (by kernel_rfl) (fun _ _ _ h => HP.out _ _ _ _ _ h) (Or.inl ⟨by rfl,?_⟩) hd0 ?_
   rotate_left
   ·(intro wq hSw; obtain ⟨_,_,_,_,_,_,_,_⟩:=fJ.out wq hSw; go_simp; all_goals first | with_reducible rfl | rw [zI])
   try simp only [zA,zB,zC,Act.put,zD,zE,zF]
   refine zO 12 fun K hK => ?_
   go_simp
   refine Calls.mono (Dx t _ wr.drew (PY.out.keep ((Below.refl wr.heap.size wr).drew)) HT0.out) ?_
   rw [HY.out]
   rintro e w1 ⟨rfl,hq⟩
   have hb1 : Below wr.heap.size wr w1:=chain (Below.refl wr.heap.size wr).drew hq
   have hs1:=hb1.size
   have EJ:=hb1.mono MC
   clear hq
   refine hK.out _ _ (fun _ => EJ) ?_
   clear hK K
   try simp only [zA,zB,zC,Act.put,zD,zE,zF]
   refine jF (i:=13) (v:=?_) rfl (by kernel_rfl) (by kernel_rfl) (by kernel_rfl) (by kernel_rfl) (fun _ _ _ h => HP.out _ _ _ _ _ h) (Or.inl ⟨by rfl,?_⟩) EJ ?_
   rotate_left
   ·(intro wq hSw; obtain ⟨_,_,_,_,_,_,_,_⟩:=fJ.out wq hSw; go_simp; all_goals first | with_reducible rfl | rw [zI])
   try simp only [zA,zB,zC,Act.put,zD,zE,zF]
   refine zO 14 fun K hK => ?_
   go_simp
   have Bz : Below N0 wr (w1.alloc (.cells #[.string ⟨(s ++ 58 :: Y).toArray⟩] 9)):=EJ.alloc (by omega) _
   refine hK.out _ _ (fun _ => Bz) ?_
   clear hK K
   try simp only [zA,zB,zC,Act.put,zD,zE,zF]
   refine zO 15 fun K hK => ?_
   refine o5 nO rfl (.tmp 52) (.tmp 66) rfl N0 (.slice Ax k cx) k _ rfl ((qI HOWN.out hb1 (Nat.le_refl _)).alloc _) ⟨w1.heap.size,0,none⟩ 1 1 [.string ⟨(s ++ 58 :: Y).toArray⟩] rfl rfl (cell_one_new _ _ _) (by simp [Value.oneCell']) (by unfold maxLen; omega) (by omega) (by rw [World.size_alloc]; omega) (fun v' w3 n1' n2' n3' n4' => ?_)
   obtain ⟨Aw,Ir,rfl⟩:=bg n1'
   have hb3:=Bz.trans n4'
   refine hK.out _ _ (fun _ => hb3) ?_
   clear hK K
   try simp only [zA,zB,zC,Act.put,zD,zE,zF]
   refine zO 16 fun K hK => ?_
   go_simp
   refine hK.out _ _ (fun h => absurd h (by decide)) ?_
   clear hK K
   try simp only [zA,zB,zC,Act.put,zD,zE,zF]
   refine bf (by kernel_rfl) ?_
   have FM : Below wz.heap.size wz w3:=qF.out.trans (by rw [LZ.out]; exact hb3)
   have HB3:=zH FM
   have I8:=zH n1'
   clear hd0 hb1 EJ Bz n1' n2' n3' n4' hb3 FM
   go_wp2_with fail
   go_roundw
   case rel =>
    refine ⟨k + 1,by omega,by go_num,zH ?_,HB3⟩
    rw [List.take_add_one,Ja.out]
    simpa using I8.out
   case measure => simp [intOf]; omega
  ·have hkn : k = n:=by omega
   subst hkn
   have hpv : aF wr (.slice Ax k cx) (fM d):=by
    have h1:=HOWN.out
    have h0 : (fM d).length = k:=by rw [NK.out.1]; exact Gy.out
    rw [List.take_of_length_le (by rw [h0]; exact Nat.le_refl _)] at h1
    have h2 : wr.ownsRow N0 9 1 (.slice Ax k cx) (fM d).length ((fM d).map fun s => .string ⟨s.toArray⟩):=by rw [h0]; exact h1
    exact (uX (D:=All) h2 fun _ _ => trivial).is
   have Ip:=zH hpv
   clear hpv
   go_wp2_with fail
   refine H8.out _ _ ?_
   clear H8
   exact pt_15 l j A c w wr g S S' Av nv cv Ax k cx q _ d N Qx (HW.out.next qF.out) (HD.out.next qF.out) HF.out HG.out hsl (NH.out.keep qF.out) Ip.out hS HN.out HP.out
theorem pt_7 (l : List Df) (j : Nat) (A : Option Addr) (c : Nat) (w wz : World) (g : Nat) (S S' : Str) (q : Nat) (cs : List Value) (d : Df) {u0 u2 u8 u9 jI jJ jk jl iW iY u16 jc jd je jL mW mX jM jB jG jH jQ jR jS jT jU u32 jV jW jX jY jZ ku kw kz kC kD kE kF kG kH kJ kK kL kM kN kP kQ kR kS kT kU kV kW kX kY kZ lg u64 lh lm lq lu lJ lK lL lM lN lQ lS lT lU lV lW lX lY lZ l9 mf mg mi mr mD mF lD lw mP : Value} (N : Act → World → Prop) (Qx : Exit → Act → World → Prop) (hw : ET w wz g l A c) (hd : LH wz q cs d) (hf : oh 1048576 d) (hg : o7 d) (hsl : S.length ≤ 5000000000000) (hS : Hid (S ++ yG d = S')) (hN : Ey u0 u2 jI jJ jk jl iW iY u16 mP l j A c w g S' N) (hP : ∀ c (a : Act) i (v : Value) w,Qx (Exit.panic c) (a.put i v) w → Qx (Exit.panic c) a w) :
  Code.wp Tryz.prog MP (Exit.then N Qx) { tmps:=#[u0,.pointer (some ⟨g,0,none⟩),u2,.string ⟨S.toArray⟩,.int .i64 j,.pointer (some ⟨q,0,none⟩),.slice none 0 0,.slice none 0 0,u8,u9,jI,jJ,jk,jl,iW,iY,u16,jc,jd,je,jL,mW,mX,jM,jB,jG,jH,jQ,jR,jS,jT,jU,u32,jV,jW,jX,jY,jZ,ku,kw,kz,kC,kD,kE,kF,kG,kH,kJ,kK,kL,kM,kN,kP,kQ,kR,kS,kT,kU,kV,kW,kX,kY,kZ,lg,u64,lh,lm,lq,lu,lJ,lK,lL,lM,lN,lQ,lS,lT,lU,lV,lW,lX,lY,lZ,l9,mf,mg,mi,mr,mD,mF,lD,lw,mP],defers:=[] } wz:=by
 have h : MP = Code.seq _ _:=rfl
 rw [h]
 clear h
 have HN:=zH hN
 have HP:=zH hP
 have HW:=zH hw
 have HF:=zH hf
 have HG:=zH hg
 have HD:=zH hd
 clear hN hP hw hf hg hd
 obtain ⟨v1,v2,v3,v4,ps,rfl,g1,g2,g3,g4,g5⟩:=id HD.out.dc
 obtain ⟨e1,p1,rfl,hp1,-⟩:=id g1
 obtain ⟨e2,p2,rfl,hp2,-⟩:=id g2
 have k1:=HD.out.bx.at_ (j:=1) rfl
 have k2:=HD.out.bx.at_ (j:=2) rfl
 obtain ⟨n,hn⟩ : ∃ n,d.vals.length = n:=⟨_,rfl⟩
 have hn2 : d.sorts.length = n:=by rw [← HG.out.vs]; exact hn
 have D7 : n ≤ 6:=by rw [← hn]; exact HG.out.vl
 rw [hn] at hp1 k1
 rw [hn2] at hp2 k2
 have LQ : Hid (bD All wz (.slice e1 n p1) d.vals):=zH (by rw [← hn]; exact g1)
 have HG2 : Hid (rU All wz (.slice e2 n p2) d.sorts):=zH (by rw [← hn2]; exact g2)
 have Gy:=zH hn
 have ru:=zH hn2
 have NK:=zH (vS HG.out)
 have K1:=zH k1
 have K2:=zH k2
 have hqz : q < wz.heap.size:=HD.out.bx.lt
 obtain ⟨N0,hN0⟩ : ∃ N0,wz.heap.size = N0:=⟨_,rfl⟩
 have LZ:=zH hN0
 rw [hN0] at hqz
 clear g1 g2 g3 g4 g5 hn hn2 hN0 k1 k2
 go_step
 rename_i K8 h8
 have H8:=zH h8
 clear h8
 go_wp2_with fail
 go_loopw [6,8] (fun lv iv wr => ∃ (k : Nat),k ≤ n ∧ iv = .int .i64 k ∧ Hid (wr.ownsRow N0 9 1 lv k (((gX d).take k).map fun s => .string ⟨s.toArray⟩)) ∧ Hid (Below wz.heap.size wz wr)) (fun _ iv _ => n - (intOf iv).toNat)
 case atStart => exact ⟨0,by omega,rfl,zH (World.ownsRow_nil _ _ _ _),zH (Below.refl _ _)⟩
 case round =>
  obtain ⟨k,hk,rfl,HOWN,qF⟩:=hrel
  obtain ⟨Ax,cx,rfl⟩:=bg HOWN.out
  have MC : N0 ≤ wr.heap.size:=by rw [← LZ.out]; exact qF.out.size
  have r1:=ae K1.out qF.out
  have r2:=ae K2.out qF.out
  by_cases hlt : k < n
  ·obtain ⟨s,hs⟩ : ∃ y,d.vals[k]? = some y:=⟨_,List.getElem?_eq_getElem (by have:=Gy.out; omega)⟩
   obtain ⟨t,ht⟩ : ∃ y,d.sorts[k]? = some y:=⟨_,List.getElem?_eq_getElem (by have:=ru.out; omega)⟩
   have yz:=zl hs ht
   have OO:=HG.out.v8 s (az hs)
   have ht0:=HG.out.s3 t (az ht)
   have htl:=xU (s:=t)
   obtain ⟨As,caps,es,hsc,xK⟩:=LQ.out
   injection es with es1 es2 es3
   subst es1 es3
   obtain ⟨sb,so,rfl,-,JD⟩:=xK (by have:=Gy.out; omega)
   have hscell:=JD k s hs
   have hsb : sb < N0:=by rw [← LZ.out]; exact cell_lt hscell
   have kl:=(qF.out.cell (p:=⟨sb,so + k,none⟩) (cell_lt hscell)).trans hscell
   obtain ⟨At,capt,et,htc,FQ⟩:=HG2.out
   injection et with et1 et2 et3
   subst et1 et3
   obtain ⟨tb,tf,rfl,-,htr⟩:=FQ (by have:=ru.out; omega)
   have wP:=htr k t ht
   have htb : tb < N0:=by rw [← LZ.out]; exact cell_lt wP
   have kt:=(qF.out.cell (p:=⟨tb,tf + k,none⟩) (cell_lt wP)).trans wP
   obtain ⟨Y,hY⟩ : ∃ x,uU t = x:=⟨_,rfl⟩
   have hY2 : pX t = Y:=by rw [sortWord_txt ht0.1 ht0.2]; exact hY
   rw [hY] at yz htl
   have HY:=zH hY2
   have HT0:=zH ht0
   have Ja:=zH yz
   clear hs ht yz ht0 hscell JD xK hsc es2 htc FQ htr wP et2 hY hY2
   go_wp2_with fail
   have hd0 : Below N0 wr wr.drew:=(Below.refl _ _).drew
   have fJ:=zH (fun (wq : World) (hSw : Below N0 wr wq) => And.intro ((hSw.cell (p:=⟨q,1,none⟩) hqz).trans r1) (And.intro ((hSw.cell (p:=⟨q,2,none⟩) hqz).trans r2) (And.intro ((hSw.cell (p:=⟨sb,so + k,none⟩) hsb).trans kl) ((hSw.cell (p:=⟨tb,tf + k,none⟩) htb).trans kt))))
   refine aC 16 (fun w' : World => Below N0 wr w') (by kernel_rfl) ?_
   refine jF (i:=0) (v:=?_) rfl (by kernel_rfl) (by kernel_rfl) (by kernel_rfl) (by kernel_rfl) (fun _ _ _ h => HP.out _ _ _ _ _ h) (Or.inl ⟨by rfl,?_⟩) hd0 ?_
   rotate_left
   ·(intro wq hSw; obtain ⟨_,_,_,_⟩:=fJ.out wq hSw; go_simp; all_goals first | with_reducible rfl | rw [zI])
   try simp only [zA,zB,zC,Act.put,zD,zE,zF]
   refine jF (i:=1) (v:=?_) rfl (by kernel_rfl) (by kernel_rfl) (by kernel_rfl) (by kernel_rfl) (fun _ _ _ h => HP.out _ _ _ _ _ h) (Or.inl ⟨by rfl,?_⟩) hd0 ?_
   rotate_left
   ·(intro wq hSw; obtain ⟨_,_,_,_⟩:=fJ.out wq hSw; go_simp; all_goals first | with_reducible rfl | rw [zI])
   try simp only [zA,zB,zC,Act.put,zD,zE,zF]
   refine jF (i:=2) (v:=?_) rfl (by kernel_rfl) (by kernel_rfl) (by kernel_rfl) (by kernel_rfl) (fun _ _ _ h => HP.out _ _ _ _ _ h) (Or.inl ⟨by rfl,?_⟩) hd0 ?_
   rotate_left
   ·(intro wq hSw; obtain ⟨_,_,_,_⟩:=fJ.out wq hSw; go_simp; all_goals first | with_reducible rfl | rw [zI])
   try simp only [zA,zB,zC,Act.put,zD,zE,zF]
   refine jF (i:=3) (v:=?_) rfl (by kernel_rfl) (by kernel_rfl) (by kernel_rfl) (by kernel_rfl) (fun _ _ _ h => HP.out _ _ _ _ _ h) (Or.inl ⟨by rfl,?_⟩) hd0 ?_
   rotate_left
   ·(intro wq hSw; obtain ⟨_,_,_,_⟩:=fJ.out wq hSw; go_simp; all_goals first | with_reducible rfl | rw [zI])
   try simp only [zA,zB,zC,Act.put,zD,zE,zF]
   refine jF (i:=4) (v:=?_) rfl (by kernel_rfl) (by kernel_rfl) (by kernel_rfl) (by kernel_rfl) (fun _ _ _ h => HP.out _ _ _ _ _ h) (Or.inl ⟨by rfl,?_⟩) hd0 ?_
   rotate_left
   ·(intro wq hSw; obtain ⟨_,_,_,_⟩:=fJ.out wq hSw; go_simp; all_goals first | with_reducible rfl | rw [zI])
   try simp only [zA,zB,zC,Act.put,zD,zE,zF]
   refine jF (i:=5) (v:=?_) rfl (by kernel_rfl) (by kernel_rfl) (by kernel_rfl) (by kernel_rfl) (fun _ _ _ h => HP.out _ _ _ _ _ h) (Or.inl ⟨by rfl,?_⟩) hd0 ?_
   rotate_left
   ·(intro wq hSw; obtain ⟨_,_,_,_⟩:=fJ.out wq hSw; go_simp; all_goals first | with_reducible rfl | rw [zI])
   try simp only [zA,zB,zC,Act.put,zD,zE,zF]
   refine jF (i:=6) (v:=?_) rfl (by kernel_rfl) (by kernel_rfl) (by kernel_rfl) (by kernel_rfl) (fun _ _ _ h => HP.out _ _ _ _ _ h) (Or.inl ⟨by rfl,?_⟩) hd0 ?_
   rotate_left
   ·(intro wq hSw; obtain ⟨_,_,_,_⟩:=fJ.out wq hSw; go_simp; all_goals first | with_reducible rfl | rw [zI])
   try simp only [zA,zB,zC,Act.put,zD,zE,zF]
   refine jF (i:=7) (v:=?_) rfl (by kernel_rfl) (by kernel_rfl) (by kernel_rfl) (by kernel_rfl) (fun _ _ _ h => HP.out _ _ _ _ _ h) (Or.inl ⟨by rfl,?_⟩) hd0 ?_
   rotate_left
   ·(intro wq hSw; obtain ⟨_,_,_,_⟩:=fJ.out wq hSw; go_simp; all_goals first | with_reducible rfl | rw [zI])
   try simp only [zA,zB,zC,Act.put,zD,zE,zF]
   refine jF (i:=8) (v:=?_) rfl (by kernel_rfl) (by kernel_rfl) (by kernel_rfl) (by kernel_rfl) (fun _ _ _ h => HP.out _ _ _ _ _ h) (Or.inl ⟨by rfl,?_⟩) hd0 ?_
   rotate_left
   ·(intro wq hSw; obtain ⟨_,_,_,_⟩:=fJ.out wq hSw; go_simp; all_goals first | with_reducible rfl | rw [zI])
   try simp only [zA,zB,zC,Act.put,zD,zE,zF]
   refine jF (i:=9) (v:=?_) rfl (by kernel_rfl) (by kernel_rfl) (by kernel_rfl) (by kernel_rfl) (fun _ _ _ h => HP.out _ _ _ _ _ h) (Or.inl ⟨by rfl,?_⟩) hd0 ?_
   rotate_left
   ·(intro wq hSw; obtain ⟨_,_,_,_⟩:=fJ.out wq hSw; go_simp; all_goals first | with_reducible rfl | rw [zI])
   try simp only [zA,zB,zC,Act.put,zD,zE,zF]
   refine jF (i:=10) (v:=?_) rfl (by kernel_rfl) (by kernel_rfl) (by kernel_rfl) (by kernel_rfl) (fun _ _ _ h => HP.out _ _ _ _ _ h) (Or.inl ⟨by rfl,?_⟩) hd0 ?_
   rotate_left
   ·(intro wq hSw; obtain ⟨_,_,_,_⟩:=fJ.out wq hSw; go_simp; all_goals first | with_reducible rfl | rw [zI])
   try simp only [zA,zB,zC,Act.put,zD,zE,zF]
   refine jF (i:=11) (v:=?_) rfl (by kernel_rfl) (by kernel_rfl) (by kernel_rfl) (by kernel_rfl) (fun _ _ _ h => HP.out _ _ _ _ _ h) (Or.inl ⟨by rfl,?_⟩) hd0 ?_
   rotate_left
   ·(intro wq hSw; obtain ⟨_,_,_,_⟩:=fJ.out wq hSw; go_simp; all_goals first | with_reducible rfl | rw [zI])
   try simp only [zA,zB,zC,Act.put,zD,zE,zF]
   refine zO 12 fun K hK => ?_
   go_simp
   refine Calls.mono (wV t HT0.out.1 HT0.out.2 wr.drew) ?_
   rw [HY.out]
   rintro e w1 ⟨rfl,hq⟩
   have hb1 : Below wr.heap.size wr w1:=chain (Below.refl wr.heap.size wr).drew hq
   have hs1:=hb1.size
   have EJ:=hb1.mono MC
   clear hq
   refine hK.out _ _ (fun _ => EJ) ?_
   clear hK K
   try simp only [zA,zB,zC,Act.put,zD,zE,zF]
   refine jF (i:=13) (v:=?_) rfl (by kernel_rfl) (by kernel_rfl) (by kernel_rfl) (by kernel_rfl) (fun _ _ _ h => HP.out _ _ _ _ _ h) (Or.inl ⟨by rfl,?_⟩) EJ ?_
   rotate_left
   ·(intro wq hSw; obtain ⟨_,_,_,_⟩:=fJ.out wq hSw; go_simp; all_goals first | with_reducible rfl | rw [zI])
   try simp only [zA,zB,zC,Act.put,zD,zE,zF]
   refine zO 14 fun K hK => ?_
   go_simp
   have Bz : Below N0 wr (w1.alloc (.cells #[.string ⟨(s ++ 58 :: Y).toArray⟩] 9)):=EJ.alloc (by omega) _
   refine hK.out _ _ (fun _ => Bz) ?_
   clear hK K
   try simp only [zA,zB,zC,Act.put,zD,zE,zF]
   refine zO 15 fun K hK => ?_
   refine o5 nO rfl (.tmp 29) (.tmp 43) rfl N0 (.slice Ax k cx) k _ rfl ((qI HOWN.out hb1 (Nat.le_refl _)).alloc _) ⟨w1.heap.size,0,none⟩ 1 1 [.string ⟨(s ++ 58 :: Y).toArray⟩] rfl rfl (cell_one_new _ _ _) (by simp [Value.oneCell']) (by unfold maxLen; omega) (by omega) (by rw [World.size_alloc]; omega) (fun v' w3 n1' n2' n3' n4' => ?_)
   obtain ⟨Aw,Ir,rfl⟩:=bg n1'
   have hb3:=Bz.trans n4'
   refine hK.out _ _ (fun _ => hb3) ?_
   clear hK K
   try simp only [zA,zB,zC,Act.put,zD,zE,zF]
   refine zO 16 fun K hK => ?_
   go_simp
   refine hK.out _ _ (fun h => absurd h (by decide)) ?_
   clear hK K
   try simp only [zA,zB,zC,Act.put,zD,zE,zF]
   refine bf (by kernel_rfl) ?_
   have FM : Below wz.heap.size wz w3:=qF.out.trans (by rw [LZ.out]; exact hb3)
   have HB3:=zH FM
   have I8:=zH n1'
   clear hd0 hb1 EJ Bz n1' n2' n3' n4' hb3 FM
   go_wp2_with fail
   go_roundw
   case rel =>
    refine ⟨k + 1,by omega,by go_num,zH ?_,HB3⟩
    rw [List.take_add_one,Ja.out]
    simpa using I8.out
   case measure => simp [intOf]; omega
  ·have hkn : k = n:=by omega
   subst hkn
   have hpv : aF wr (.slice Ax k cx) (gX d):=by
    have h1:=HOWN.out
    have h0 : (gX d).length = k:=by rw [NK.out.1]; exact Gy.out
    rw [List.take_of_length_le (by rw [h0]; exact Nat.le_refl _)] at h1
    have h2 : wr.ownsRow N0 9 1 (.slice Ax k cx) (gX d).length ((gX d).map fun s => .string ⟨s.toArray⟩):=by rw [h0]; exact h1
    exact (uX (D:=All) h2 fun _ _ => trivial).is
   have Ip:=zH hpv
   clear hpv
   go_wp2_with fail
   refine H8.out _ _ ?_
   clear H8
   exact pt_11 l j A c w wr g S S' Ax k cx q _ d N Qx (HW.out.next qF.out) (HD.out.next qF.out) HF.out HG.out hsl Ip.out hS HN.out HP.out
end Go.Proofs.YtpidjanngbaiiaaGreatDoor
