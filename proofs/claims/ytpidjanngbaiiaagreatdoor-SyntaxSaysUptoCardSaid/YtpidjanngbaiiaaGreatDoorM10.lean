/-
  PrO93 PrO94 PrOt
-/
import Derived.Test.YtpidjanngbaiiaaGreatDoorM8
import Derived.Test.YtpidjanngbaiiaaGreatDoorM9
namespace Go.Proofs.YtpidjanngbaiiaaGreatDoor
open Go.RowKit Go.Proofs
set_option maxRecDepth 100000
set_option maxHeartbeats 32000000

theorem shape_p3 (kind : Int) (chan name label : Str) (xk : Int) (xn : Str) (xs xv : Int) (xt : Str) (af exprs : List Ex) (names : List Str) (tk ts : Int) (tn : Str) (tl : List Str) (ag : List Ty) (labels : List Str) (kids : List Pr) (A1 : Option Addr) (n1 c1 : Nat) (A2 : Option Addr) (n2 c2 : Nat) (A3 : Option Addr) (n3 c3 : Nat) (A4 : Option Addr) (n4 c4 : Nat) (A5 : Option Addr) (n5 c5 : Nat) (A6 : Option Addr) (n6 c6 : Nat) (A7 : Option Addr) (n7 c7 : Nat) (wr : World) (b q : Nat) (f0 f1 f2 f3 f4 f5 f6 f7 : Bool) (f8 : Nat) (B0 R NM NE NT : Bool) (B1 B2 B3 B4 B5 B6 : Bool) (u0 u6 u7 u9 jI jJ jk jl iW iY u16 jc jd je jL mW mX jM jB jG jH jQ jR jS jT jU u32 jV jW jX jY jZ ku kw kz kC kD kE kF kG kH kJ kK kL kM kN kP kQ kR kS kT kU kV kW kX kY kZ lg u64 lh lm lq lu lJ lK lL lM lN lQ lS lT lU lV lW lX lY lZ l9 mf mg mi mr mD mF lD lw mP nP nD oH oI oJ oK oL dE dF dG dH dI dJ dK dL dM dN dO bP bQ bT bU bV bW bY bZ cu cO cZ dh di dw dC dD gJ gK gQ gU gV fO fP fQ fU fV fZ gp gq gu gy gB gG gI eu eF eG eH eP eQ eU eX eY fA fB fC fD fE fF fG fH dS dU dV dW dX dY dZ ed iq iw iy iC iD iE iF iG iH iI iJ iK iL iM iO iP iQ iR iT iU : Value) (w1 : World) (Q : Exit → Act → World → Prop) (hpq : ∀ c (a : Act) d v w,Q (.panic c) (a.put d v) w → Q (.panic c) a w)
  (hlc : chan.length ≤ 9223372036854775807) (hll : label.length ≤ 9223372036854775807) (hl3 : names.length ≤ 9223372036854775807) (hln : ∀ s ∈ names,s.length ≤ 9223372036854775807)
  (hne : ∀ w,Calls Tryz.prog 118 #[.agg #[.int .i64 xk,.string ⟨xn.toArray⟩,.int .i64 xs,.int .i64 xv,.string ⟨xt.toArray⟩,.slice A1 n1 c1]] w fun e w' => e = .returned (.bool NE) ∧ Below w.heap.size w w') (hnt : ∀ w,Calls Tryz.prog 119 #[.agg #[.int .i64 tk,.int .i64 ts,.string ⟨tn.toArray⟩,.slice A4 n4 c4,.slice A5 n5 c5]] w fun e w' => e = .returned (.bool NT) ∧ Below w.heap.size w w')
  (hn3 : ∀ wq,Below wr.heap.size wr wq → aF wq (.slice A3 n3 c3) names) (hS : (nR wr b q (.mk kind chan name label xk xn xs xv xt af exprs names tk ts tn tl ag labels kids) (.slice A1 n1 c1) (.slice A2 n2 c2) (.slice A3 n3 c3) (.slice A4 n4 c4) (.slice A5 n5 c5) (.slice A6 n6 c6) (.slice A7 n7 c7) (⟨f0,f1,f2,f3,f4,f5,f6,f7,f8⟩ : uN)) w1)
  (hnext : ∀ w2,(nR wr b q (.mk kind chan name label xk xn xs xv xt af exprs names tk ts tn tl ag labels kids) (.slice A1 n1 c1) (.slice A2 n2 c2) (.slice A3 n3 c3) (.slice A4 n4 c4) (.slice A5 n5 c5) (.slice A6 n6 c6) (.slice A7 n7 c7) (⟨f0,f1,f2,f3,f4,f5,f6,f7,f8⟩ : uN)) w2 → wZ Tryz.prog Region.Mode.any mM Q (nR wr b q (.mk kind chan name label xk xn xs xv xt af exprs names tk ts tn tl ag labels kids) (.slice A1 n1 c1) (.slice A2 n2 c2) (.slice A3 n3 c3) (.slice A4 n4 c4) (.slice A5 n5 c5) (.slice A6 n6 c6) (.slice A7 n7 c7) (⟨f0,f1,f2,f3,f4,f5,f6,f7,f8⟩ : uN)) 93 18 #[true,true,true,true,true,true,true,true,true,true,true,true,true,true,true,true,true,true,true,true,true,true,true,true,true,true,true,true,true,true,true,true,true,true,true,true,true,true,true,true,true,true,true,true,true,true,true,true,true,true,true,true,true,true,true,true,true,true,true,true,true,true,true,true,true,true,true,true,true,true,true,true,true,true,true,true,false,false,false,false,false,false,false,false,false,false,false,false,false,false,false,false,false,false] { tmps:=#[u0,.pointer (some ⟨b,0,none⟩),.int .i64 0,.pointer (some ⟨q,0,none⟩),.bool B0,.bool R,u6,u7,.bool NM,u9,jI,jJ,jk,jl,iW,iY,u16,jc,jd,je,jL,mW,mX,jM,jB,jG,jH,jQ,jR,jS,jT,jU,u32,jV,jW,jX,jY,jZ,ku,kw,kz,kC,kD,kE,kF,kG,kH,kJ,kK,kL,kM,kN,kP,kQ,kR,kS,kT,kU,kV,kW,kX,kY,kZ,lg,u64,lh,lm,lq,lu,.bool B0,.bool B0,gv B0 (.pointer (some ⟨q,0,none⟩)),gv B0 (.bool f0),gv B0 (.pointer (some ⟨b,1,none⟩)),gv B0 (.string ⟨chan.toArray⟩),gv B0 (.bool (!decide (chan = []))),gv B0 (.pointer (some ⟨b,1,none⟩)),gv B0 (.string ⟨chan.toArray⟩),gv B0 (.bool (ah chan)),gv B0 (.bool (ai f0 (!decide (chan = [])) (ah chan))),.bool B1,.bool B1,gv B1 (.pointer (some ⟨q,1,none⟩)),gv B1 (.bool f1),gv B1 (.pointer (some ⟨b,2,none⟩)),gv B1 (.string ⟨name.toArray⟩),gv B1 (.bool (!decide (name = []))),gv B1 (.bool NM),gv B1 (.bool (ai f1 (!decide (name = [])) NM)),.bool B2,.bool B2,gv B2 (.pointer (some ⟨q,2,none⟩)),gv B2 (.bool f2),gv B2 (.pointer (some ⟨b,3,none⟩)),gv B2 (.string ⟨label.toArray⟩),gv B2 (.bool (!decide (label = []))),gv B2 (.pointer (some ⟨b,3,none⟩)),gv B2 (.string ⟨label.toArray⟩),gv B2 (.bool (ah label)),gv B2 (.bool (ai f2 (!decide (label = [])) (ah label))),.bool B3,.bool B3,gv B3 (.pointer (some ⟨q,7,none⟩)),gv B3 (.bool f7),gv B3 (.pointer (some ⟨b,17,none⟩)),gv B3 (.slice A6 n6 c6),gv B3 (.int .i64 n6),gv B3 (.bool (!decide (n6 = 0))),gv B3 (.bool R),gv B3 (.bool (ai f7 (!decide (n6 = 0)) R)),.bool B4,.bool B4,gv B4 (.pointer (some ⟨q,5,none⟩)),gv B4 (.bool f5),gv B4 (.pointer (some ⟨b,11,none⟩)),gv B4 (.slice A3 n3 c3),gv B4 (.int .i64 n3),gv B4 (.bool (!decide (n3 = 0))),gv B4 (.pointer (some ⟨b,11,none⟩)),gv B4 (.slice A3 n3 c3),gv B4 (.bool (aZ names)),gv B4 (.bool (ai f5 (!decide (n3 = 0)) (aZ names))),.bool B5,.bool B5,gv B5 (.pointer (some ⟨q,3,none⟩)),gv B5 (.bool f3),gv B5 (.pointer (some ⟨b,4,none⟩)),gv B5 (.agg #[.int .i64 xk,.string ⟨xn.toArray⟩,.int .i64 xs,.int .i64 xv,.string ⟨xt.toArray⟩,.slice A1 n1 c1]),gv B5 (.bool NE),gv B5 (.bool (!NE)),gv B5 (.bool (ai f3 (!NE) true)),.bool B6,.bool B6,gv B6 (.pointer (some ⟨q,4,none⟩)),gv B6 (.bool f4),gv B6 (.pointer (some ⟨b,10,none⟩)),gv B6 (.slice A2 n2 c2),gv B6 (.int .i64 n2),gv B6 (.bool (!decide (n2 = 0))),gv B6 (.pointer (some ⟨b,10,none⟩)),gv B6 (.slice A2 n2 c2),gv B6 (.int .i64 n2),gv B6 (.bool (decide (n2 ≤ 6))),gv B6 (.bool (ai f4 (!decide (n2 = 0)) (decide (n2 ≤ 6)))),.bool (B6 && (ai f4 (!decide (n2 = 0)) (decide (n2 ≤ 6)))),eu,eF,eG,eH,eP,eQ,eU,eX,eY,fA,fB,fC,fD,fE,fF,fG,fH,dS,dU,dV,dW,dX,dY,dZ,ed,iq,iw,iy,iC,iD,iE,iF,iG,iH,iI,iJ,iK,iL,iM,iO,iP,iQ,iR,iT,iU],defers:=[] } w2) :
  wZ Tryz.prog Region.Mode.any mM Q (nR wr b q (.mk kind chan name label xk xn xs xv xt af exprs names tk ts tn tl ag labels kids) (.slice A1 n1 c1) (.slice A2 n2 c2) (.slice A3 n3 c3) (.slice A4 n4 c4) (.slice A5 n5 c5) (.slice A6 n6 c6) (.slice A7 n7 c7) (⟨f0,f1,f2,f3,f4,f5,f6,f7,f8⟩ : uN)) 93 31 #[true,true,true,true,true,true,true,true,true,true,true,true,true,true,true,true,true,true,true,true,true,true,true,true,true,true,true,true,true,true,true,true,true,true,true,true,true,true,true,true,true,true,true,true,true,true,true,true,true,true,true,true,true,true,true,true,true,true,true,true,true,true,true,false,false,false,false,false,false,false,false,false,false,false,false,false,false,false,false,false,false,false,false,false,false,false,false,false,false,false,false,false,false,false] { tmps:=#[u0,.pointer (some ⟨b,0,none⟩),.int .i64 0,.pointer (some ⟨q,0,none⟩),.bool B0,.bool R,u6,u7,.bool NM,u9,jI,jJ,jk,jl,iW,iY,u16,jc,jd,je,jL,mW,mX,jM,jB,jG,jH,jQ,jR,jS,jT,jU,u32,jV,jW,jX,jY,jZ,ku,kw,kz,kC,kD,kE,kF,kG,kH,kJ,kK,kL,kM,kN,kP,kQ,kR,kS,kT,kU,kV,kW,kX,kY,kZ,lg,u64,lh,lm,lq,lu,.bool B0,.bool B0,gv B0 (.pointer (some ⟨q,0,none⟩)),gv B0 (.bool f0),gv B0 (.pointer (some ⟨b,1,none⟩)),gv B0 (.string ⟨chan.toArray⟩),gv B0 (.bool (!decide (chan = []))),gv B0 (.pointer (some ⟨b,1,none⟩)),gv B0 (.string ⟨chan.toArray⟩),gv B0 (.bool (ah chan)),gv B0 (.bool (ai f0 (!decide (chan = [])) (ah chan))),.bool B1,.bool B1,gv B1 (.pointer (some ⟨q,1,none⟩)),gv B1 (.bool f1),gv B1 (.pointer (some ⟨b,2,none⟩)),gv B1 (.string ⟨name.toArray⟩),gv B1 (.bool (!decide (name = []))),gv B1 (.bool NM),gv B1 (.bool (ai f1 (!decide (name = [])) NM)),.bool B2,.bool B2,gv B2 (.pointer (some ⟨q,2,none⟩)),gv B2 (.bool f2),gv B2 (.pointer (some ⟨b,3,none⟩)),gv B2 (.string ⟨label.toArray⟩),gv B2 (.bool (!decide (label = []))),gv B2 (.pointer (some ⟨b,3,none⟩)),gv B2 (.string ⟨label.toArray⟩),gv B2 (.bool (ah label)),gv B2 (.bool (ai f2 (!decide (label = [])) (ah label))),.bool B3,.bool B3,gv B3 (.pointer (some ⟨q,7,none⟩)),gv B3 (.bool f7),gv B3 (.pointer (some ⟨b,17,none⟩)),gv B3 (.slice A6 n6 c6),gv B3 (.int .i64 n6),gv B3 (.bool (!decide (n6 = 0))),gv B3 (.bool R),gv B3 (.bool (ai f7 (!decide (n6 = 0)) R)),.bool B4,.bool B4,gv B4 (.pointer (some ⟨q,5,none⟩)),gv B4 (.bool f5),gv B4 (.pointer (some ⟨b,11,none⟩)),gv B4 (.slice A3 n3 c3),gv B4 (.int .i64 n3),gv B4 (.bool (!decide (n3 = 0))),gv B4 (.pointer (some ⟨b,11,none⟩)),gv B4 (.slice A3 n3 c3),gv B4 (.bool (aZ names)),gv B4 (.bool (ai f5 (!decide (n3 = 0)) (aZ names))),.bool B5,.bool B5,gv B5 (.pointer (some ⟨q,3,none⟩)),gv B5 (.bool f3),gv B5 (.pointer (some ⟨b,4,none⟩)),gv B5 (.agg #[.int .i64 xk,.string ⟨xn.toArray⟩,.int .i64 xs,.int .i64 xv,.string ⟨xt.toArray⟩,.slice A1 n1 c1]),gv B5 (.bool NE),gv B5 (.bool (!NE)),gv B5 (.bool (ai f3 (!NE) true)),.bool B6,fO,fP,fQ,fU,fV,fZ,gp,gq,gu,gy,gB,gG,gI,eu,eF,eG,eH,eP,eQ,eU,eX,eY,fA,fB,fC,fD,fE,fF,fG,fH,dS,dU,dV,dW,dX,dY,dZ,ed,iq,iw,iy,iC,iD,iE,iF,iG,iH,iI,iJ,iK,iL,iM,iO,iP,iQ,iR,iT,iU],defers:=[] } w1:=by
 have e : mM = List.toArray _:=rfl
 rw [e] at hnext ⊢
 clear e
 dsimp only [List.append] at hnext ⊢
 have iV:=zH (fun c a d v w h => hpq c a d v w h)
 have yc:=zH hne
 have ru:=zH hnt
 have Ht:=zH hn3
 have mV:=zH hnext
 clear hnext hne hnt hn3 hpq
 have y6 : decide (0 < n6) = !decide (n6 = 0):=by rw [Bool.eq_iff_iff]; simp; omega
 have y3 : decide (0 < n3) = !decide (n3 = 0):=by rw [Bool.eq_iff_iff]; simp; omega
 have y2 : decide (0 < n2) = !decide (n2 = 0):=by rw [Bool.eq_iff_iff]; simp; omega
 have z1 : List.isEmpty chan = decide (chan = []):=by cases chan <;> rfl
 have z2 : List.isEmpty name = decide (name = []):=by cases name <;> rfl
 have z3 : List.isEmpty label = decide (label = []):=by cases label <;> rfl
 have HS:=hS
 clear hS
 refine jF (i:=63) (v:=.bool B6) rfl (by kernel_rfl) (by kernel_rfl) (by kernel_rfl) (by kernel_rfl) (fun c a w h => iV.out c a _ _ w h) (Or.inl ⟨by rfl,fun wq hSw => by go_simp⟩) HS ?_
 simp only [zA,zB,zC,Act.put,zD,zE,zF]
 refine bu 64 B6 (.pointer (some ⟨q,4,none⟩)) rfl (by rintro rfl; exact ⟨by kernel_rfl,fun wq hSw => by (clear HS hSw mV iV; (try simp only [aG]); go_simp; all_goals (first | (with_reducible rfl) | (rw [show ((n2 : Int) ≤ 6) = (n2 ≤ 6) by rw [eq_iff_iff]; omega]) | (rw [Bool.eq_iff_iff]; simp; omega) | omega | (exact y6) | (exact y3) | (exact y2)))⟩) (by rintro rfl; kernel_rfl) HS (by kernel_rfl) (by kernel_rfl) (by kernel_rfl) (by kernel_rfl) (fun c a w h => iV.out c a _ _ w h) ?_
 simp only [zA,zB,zC,Act.put,zD,zE,zF]
 refine bu 65 B6 (.bool f4) rfl (by rintro rfl; exact ⟨by kernel_rfl,fun wq hSw => by (have c4 : wq.cell? ⟨q,4,none⟩ = some (.bool f4):=hSw.fx.c4; clear HS hSw mV iV; (try simp only [aG]); go_simp; all_goals (first | (with_reducible rfl) | (rw [show ((n2 : Int) ≤ 6) = (n2 ≤ 6) by rw [eq_iff_iff]; omega]) | (rw [Bool.eq_iff_iff]; simp; omega) | omega | (exact y6) | (exact y3) | (exact y2)))⟩) (by rintro rfl; kernel_rfl) HS (by kernel_rfl) (by kernel_rfl) (by kernel_rfl) (by kernel_rfl) (fun c a w h => iV.out c a _ _ w h) ?_
 simp only [zA,zB,zC,Act.put,zD,zE,zF]
 refine bu 66 B6 (.pointer (some ⟨b,10,none⟩)) rfl (by rintro rfl; exact ⟨by kernel_rfl,fun wq hSw => by (clear HS hSw mV iV; (try simp only [aG]); go_simp; all_goals (first | (with_reducible rfl) | (rw [show ((n2 : Int) ≤ 6) = (n2 ≤ 6) by rw [eq_iff_iff]; omega]) | (rw [Bool.eq_iff_iff]; simp; omega) | omega | (exact y6) | (exact y3) | (exact y2)))⟩) (by rintro rfl; kernel_rfl) HS (by kernel_rfl) (by kernel_rfl) (by kernel_rfl) (by kernel_rfl) (fun c a w h => iV.out c a _ _ w h) ?_
 simp only [zA,zB,zC,Act.put,zD,zE,zF]
 refine bu 67 B6 (.slice A2 n2 c2) rfl (by rintro rfl; exact ⟨by kernel_rfl,fun wq hSw => by (have c10 : wq.cell? ⟨b,10,none⟩ = some (.slice A2 n2 c2):=hSw.bx.c10; clear HS hSw mV iV; (try simp only [aG]); go_simp; all_goals (first | (with_reducible rfl) | (rw [show ((n2 : Int) ≤ 6) = (n2 ≤ 6) by rw [eq_iff_iff]; omega]) | (rw [Bool.eq_iff_iff]; simp; omega) | omega | (exact y6) | (exact y3) | (exact y2)))⟩) (by rintro rfl; kernel_rfl) HS (by kernel_rfl) (by kernel_rfl) (by kernel_rfl) (by kernel_rfl) (fun c a w h => iV.out c a _ _ w h) ?_
 simp only [zA,zB,zC,Act.put,zD,zE,zF]
 refine bu 68 B6 (.int .i64 n2) rfl (by rintro rfl; exact ⟨by kernel_rfl,fun wq hSw => by (clear HS hSw mV iV; (try simp only [aG]); go_simp; all_goals (first | (with_reducible rfl) | (rw [show ((n2 : Int) ≤ 6) = (n2 ≤ 6) by rw [eq_iff_iff]; omega]) | (rw [Bool.eq_iff_iff]; simp; omega) | omega | (exact y6) | (exact y3) | (exact y2)))⟩) (by rintro rfl; kernel_rfl) HS (by kernel_rfl) (by kernel_rfl) (by kernel_rfl) (by kernel_rfl) (fun c a w h => iV.out c a _ _ w h) ?_
 simp only [zA,zB,zC,Act.put,zD,zE,zF]
 refine bu 69 B6 (.bool (!decide (n2 = 0))) rfl (by rintro rfl; exact ⟨by kernel_rfl,fun wq hSw => by (clear HS hSw mV iV; (try simp only [aG]); go_simp; all_goals (first | (with_reducible rfl) | (rw [show ((n2 : Int) ≤ 6) = (n2 ≤ 6) by rw [eq_iff_iff]; omega]) | (rw [Bool.eq_iff_iff]; simp; omega) | omega | (exact y6) | (exact y3) | (exact y2)))⟩) (by rintro rfl; kernel_rfl) HS (by kernel_rfl) (by kernel_rfl) (by kernel_rfl) (by kernel_rfl) (fun c a w h => iV.out c a _ _ w h) ?_
 simp only [zA,zB,zC,Act.put,zD,zE,zF]
 refine bu 70 B6 (.pointer (some ⟨b,10,none⟩)) rfl (by rintro rfl; exact ⟨by kernel_rfl,fun wq hSw => by (clear HS hSw mV iV; (try simp only [aG]); go_simp; all_goals (first | (with_reducible rfl) | (rw [show ((n2 : Int) ≤ 6) = (n2 ≤ 6) by rw [eq_iff_iff]; omega]) | (rw [Bool.eq_iff_iff]; simp; omega) | omega | (exact y6) | (exact y3) | (exact y2)))⟩) (by rintro rfl; kernel_rfl) HS (by kernel_rfl) (by kernel_rfl) (by kernel_rfl) (by kernel_rfl) (fun c a w h => iV.out c a _ _ w h) ?_
 simp only [zA,zB,zC,Act.put,zD,zE,zF]
 refine bu 71 B6 (.slice A2 n2 c2) rfl (by rintro rfl; exact ⟨by kernel_rfl,fun wq hSw => by (have c10 : wq.cell? ⟨b,10,none⟩ = some (.slice A2 n2 c2):=hSw.bx.c10; clear HS hSw mV iV; (try simp only [aG]); go_simp; all_goals (first | (with_reducible rfl) | (rw [show ((n2 : Int) ≤ 6) = (n2 ≤ 6) by rw [eq_iff_iff]; omega]) | (rw [Bool.eq_iff_iff]; simp; omega) | omega | (exact y6) | (exact y3) | (exact y2)))⟩) (by rintro rfl; kernel_rfl) HS (by kernel_rfl) (by kernel_rfl) (by kernel_rfl) (by kernel_rfl) (fun c a w h => iV.out c a _ _ w h) ?_
 simp only [zA,zB,zC,Act.put,zD,zE,zF]
 refine bu 72 B6 (.int .i64 n2) rfl (by rintro rfl; exact ⟨by kernel_rfl,fun wq hSw => by (clear HS hSw mV iV; (try simp only [aG]); go_simp; all_goals (first | (with_reducible rfl) | (rw [show ((n2 : Int) ≤ 6) = (n2 ≤ 6) by rw [eq_iff_iff]; omega]) | (rw [Bool.eq_iff_iff]; simp; omega) | omega | (exact y6) | (exact y3) | (exact y2)))⟩) (by rintro rfl; kernel_rfl) HS (by kernel_rfl) (by kernel_rfl) (by kernel_rfl) (by kernel_rfl) (fun c a w h => iV.out c a _ _ w h) ?_
 simp only [zA,zB,zC,Act.put,zD,zE,zF]
 refine bu 73 B6 (.bool (decide (n2 ≤ 6))) rfl (by rintro rfl; exact ⟨by kernel_rfl,fun wq hSw => by (clear HS hSw mV iV; (try simp only [aG]); go_simp; all_goals (first | (with_reducible rfl) | (rw [show ((n2 : Int) ≤ 6) = (n2 ≤ 6) by rw [eq_iff_iff]; omega]) | (rw [Bool.eq_iff_iff]; simp; omega) | omega | (exact y6) | (exact y3) | (exact y2)))⟩) (by rintro rfl; kernel_rfl) HS (by kernel_rfl) (by kernel_rfl) (by kernel_rfl) (by kernel_rfl) (fun c a w h => iV.out c a _ _ w h) ?_
 simp only [zA,zB,zC,Act.put,zD,zE,zF]
 refine pI 74 B6 (.bool (ai f4 (!decide (n2 = 0)) (decide (n2 ≤ 6)))) rfl (by kernel_rfl) (by rintro rfl; kernel_rfl) (by rintro rfl; kernel_rfl) (by rintro rfl; intro K' hK'; simp only [zA,zB,zC,Act.put,zD,zE,zF] at hK'; have hbq:=HS.bl; clear mV iV; simp only [aG] at hK' ⊢; go_simp; refine (vO f4 (!decide (n2 = 0)) (decide (n2 ≤ 6)) _).mono ?_; rintro e w1 ⟨rfl,rfl⟩; exact hK' _ (Below.refl _ _)) ?_
 intro w74 Qu
 replace HS:=HS.next Qu
 refine ⟨fun _ => HS,?_⟩
 clear Qu
 simp only [zA,zB,zC,Act.put,zD,zE,zF]
 obtain ⟨B7,SA⟩ : ∃ x,(B6 && (ai f4 (!decide (n2 = 0)) (decide (n2 ≤ 6)))) = x:=⟨_,rfl⟩
 rw [SA] at mV
 refine jF (i:=75) (v:=.bool B7) rfl (by kernel_rfl) (by kernel_rfl) (by kernel_rfl) (by kernel_rfl) (fun c a w h => iV.out c a _ _ w h) (Or.inl ⟨by rfl,fun wq hSw => ?_⟩) HS ?_
 ·cases B6 <;> (simp only [gv]; go_simp; all_goals (first | (simpa using SA) | (simpa using SA.symm)))
 simp only [zA,zB,zC,Act.put,zD,zE,zF]
 clear SA
 exact mV.out _ HS
theorem shape_p4 (kind : Int) (chan name label : Str) (xk : Int) (xn : Str) (xs xv : Int) (xt : Str) (af exprs : List Ex) (names : List Str) (tk ts : Int) (tn : Str) (tl : List Str) (ag : List Ty) (labels : List Str) (kids : List Pr) (A1 : Option Addr) (n1 c1 : Nat) (A2 : Option Addr) (n2 c2 : Nat) (A3 : Option Addr) (n3 c3 : Nat) (A4 : Option Addr) (n4 c4 : Nat) (A5 : Option Addr) (n5 c5 : Nat) (A6 : Option Addr) (n6 c6 : Nat) (A7 : Option Addr) (n7 c7 : Nat) (wr : World) (b q : Nat) (f0 f1 f2 f3 f4 f5 f6 f7 : Bool) (f8 : Nat) (B0 R NM NE NT : Bool) (B1 B2 B3 B4 B5 B6 B7 : Bool) (u0 u6 u7 u9 jI jJ jk jl iW iY u16 jc jd je jL mW mX jM jB jG jH jQ jR jS jT jU u32 jV jW jX jY jZ ku kw kz kC kD kE kF kG kH kJ kK kL kM kN kP kQ kR kS kT kU kV kW kX kY kZ lg u64 lh lm lq lu lJ lK lL lM lN lQ lS lT lU lV lW lX lY lZ l9 mf mg mi mr mD mF lD lw mP nP nD oH oI oJ oK oL dE dF dG dH dI dJ dK dL dM dN dO bP bQ bT bU bV bW bY bZ cu cO cZ dh di dw dC dD gJ gK gQ gU gV fO fP fQ fU fV fZ gp gq gu gy gB gG gI eu eF eG eH eP eQ eU eX eY fA fB fC fD fE fF fG fH dS dU dV dW dX dY dZ ed iq iw iy iC iD iE iF iG iH iI iJ iK iL iM iO iP iQ iR iT iU : Value) (w1 : World) (Q : Exit → Act → World → Prop) (hpq : ∀ c (a : Act) d v w,Q (.panic c) (a.put d v) w → Q (.panic c) a w)
  (hlc : chan.length ≤ 9223372036854775807) (hll : label.length ≤ 9223372036854775807) (hl3 : names.length ≤ 9223372036854775807) (hln : ∀ s ∈ names,s.length ≤ 9223372036854775807)
  (hne : ∀ w,Calls Tryz.prog 118 #[.agg #[.int .i64 xk,.string ⟨xn.toArray⟩,.int .i64 xs,.int .i64 xv,.string ⟨xt.toArray⟩,.slice A1 n1 c1]] w fun e w' => e = .returned (.bool NE) ∧ Below w.heap.size w w') (hnt : ∀ w,Calls Tryz.prog 119 #[.agg #[.int .i64 tk,.int .i64 ts,.string ⟨tn.toArray⟩,.slice A4 n4 c4,.slice A5 n5 c5]] w fun e w' => e = .returned (.bool NT) ∧ Below w.heap.size w w')
  (hn3 : ∀ wq,Below wr.heap.size wr wq → aF wq (.slice A3 n3 c3) names) (hS : (nR wr b q (.mk kind chan name label xk xn xs xv xt af exprs names tk ts tn tl ag labels kids) (.slice A1 n1 c1) (.slice A2 n2 c2) (.slice A3 n3 c3) (.slice A4 n4 c4) (.slice A5 n5 c5) (.slice A6 n6 c6) (.slice A7 n7 c7) (⟨f0,f1,f2,f3,f4,f5,f6,f7,f8⟩ : uN)) w1)
  (hnext : ∀ w2,(nR wr b q (.mk kind chan name label xk xn xs xv xt af exprs names tk ts tn tl ag labels kids) (.slice A1 n1 c1) (.slice A2 n2 c2) (.slice A3 n3 c3) (.slice A4 n4 c4) (.slice A5 n5 c5) (.slice A6 n6 c6) (.slice A7 n7 c7) (⟨f0,f1,f2,f3,f4,f5,f6,f7,f8⟩ : uN)) w2 → wZ Tryz.prog Region.Mode.any mM Q (nR wr b q (.mk kind chan name label xk xn xs xv xt af exprs names tk ts tn tl ag labels kids) (.slice A1 n1 c1) (.slice A2 n2 c2) (.slice A3 n3 c3) (.slice A4 n4 c4) (.slice A5 n5 c5) (.slice A6 n6 c6) (.slice A7 n7 c7) (⟨f0,f1,f2,f3,f4,f5,f6,f7,f8⟩ : uN)) 93 1 #[true,true,true,true,true,true,true,true,true,true,true,true,true,true,true,true,true,true,true,true,true,true,true,true,true,true,true,true,true,true,true,true,true,true,true,true,true,true,true,true,true,true,true,true,true,true,true,true,true,true,true,true,true,true,true,true,true,true,true,true,true,true,true,true,true,true,true,true,true,true,true,true,true,true,true,true,true,true,true,true,true,true,true,true,true,true,true,true,true,true,true,true,true,false] { tmps:=#[u0,.pointer (some ⟨b,0,none⟩),.int .i64 0,.pointer (some ⟨q,0,none⟩),.bool B0,.bool R,u6,u7,.bool NM,u9,jI,jJ,jk,jl,iW,iY,u16,jc,jd,je,jL,mW,mX,jM,jB,jG,jH,jQ,jR,jS,jT,jU,u32,jV,jW,jX,jY,jZ,ku,kw,kz,kC,kD,kE,kF,kG,kH,kJ,kK,kL,kM,kN,kP,kQ,kR,kS,kT,kU,kV,kW,kX,kY,kZ,lg,u64,lh,lm,lq,lu,.bool B0,.bool B0,gv B0 (.pointer (some ⟨q,0,none⟩)),gv B0 (.bool f0),gv B0 (.pointer (some ⟨b,1,none⟩)),gv B0 (.string ⟨chan.toArray⟩),gv B0 (.bool (!decide (chan = []))),gv B0 (.pointer (some ⟨b,1,none⟩)),gv B0 (.string ⟨chan.toArray⟩),gv B0 (.bool (ah chan)),gv B0 (.bool (ai f0 (!decide (chan = [])) (ah chan))),.bool B1,.bool B1,gv B1 (.pointer (some ⟨q,1,none⟩)),gv B1 (.bool f1),gv B1 (.pointer (some ⟨b,2,none⟩)),gv B1 (.string ⟨name.toArray⟩),gv B1 (.bool (!decide (name = []))),gv B1 (.bool NM),gv B1 (.bool (ai f1 (!decide (name = [])) NM)),.bool B2,.bool B2,gv B2 (.pointer (some ⟨q,2,none⟩)),gv B2 (.bool f2),gv B2 (.pointer (some ⟨b,3,none⟩)),gv B2 (.string ⟨label.toArray⟩),gv B2 (.bool (!decide (label = []))),gv B2 (.pointer (some ⟨b,3,none⟩)),gv B2 (.string ⟨label.toArray⟩),gv B2 (.bool (ah label)),gv B2 (.bool (ai f2 (!decide (label = [])) (ah label))),.bool B3,.bool B3,gv B3 (.pointer (some ⟨q,7,none⟩)),gv B3 (.bool f7),gv B3 (.pointer (some ⟨b,17,none⟩)),gv B3 (.slice A6 n6 c6),gv B3 (.int .i64 n6),gv B3 (.bool (!decide (n6 = 0))),gv B3 (.bool R),gv B3 (.bool (ai f7 (!decide (n6 = 0)) R)),.bool B4,.bool B4,gv B4 (.pointer (some ⟨q,5,none⟩)),gv B4 (.bool f5),gv B4 (.pointer (some ⟨b,11,none⟩)),gv B4 (.slice A3 n3 c3),gv B4 (.int .i64 n3),gv B4 (.bool (!decide (n3 = 0))),gv B4 (.pointer (some ⟨b,11,none⟩)),gv B4 (.slice A3 n3 c3),gv B4 (.bool (aZ names)),gv B4 (.bool (ai f5 (!decide (n3 = 0)) (aZ names))),.bool B5,.bool B5,gv B5 (.pointer (some ⟨q,3,none⟩)),gv B5 (.bool f3),gv B5 (.pointer (some ⟨b,4,none⟩)),gv B5 (.agg #[.int .i64 xk,.string ⟨xn.toArray⟩,.int .i64 xs,.int .i64 xv,.string ⟨xt.toArray⟩,.slice A1 n1 c1]),gv B5 (.bool NE),gv B5 (.bool (!NE)),gv B5 (.bool (ai f3 (!NE) true)),.bool B6,.bool B6,gv B6 (.pointer (some ⟨q,4,none⟩)),gv B6 (.bool f4),gv B6 (.pointer (some ⟨b,10,none⟩)),gv B6 (.slice A2 n2 c2),gv B6 (.int .i64 n2),gv B6 (.bool (!decide (n2 = 0))),gv B6 (.pointer (some ⟨b,10,none⟩)),gv B6 (.slice A2 n2 c2),gv B6 (.int .i64 n2),gv B6 (.bool (decide (n2 ≤ 6))),gv B6 (.bool (ai f4 (!decide (n2 = 0)) (decide (n2 ≤ 6)))),.bool B7,.bool B7,gv B7 (.pointer (some ⟨q,6,none⟩)),gv B7 (.bool f6),gv B7 (.pointer (some ⟨b,12,none⟩)),gv B7 (.agg #[.int .i64 tk,.int .i64 ts,.string ⟨tn.toArray⟩,.slice A4 n4 c4,.slice A5 n5 c5]),gv B7 (.bool NT),gv B7 (.bool (!NT)),gv B7 (.bool (ai f6 (!NT) true)),.bool (B7 && (ai f6 (!NT) true)),.bool (B7 && (ai f6 (!NT) true)),gv (B7 && (ai f6 (!NT) true)) (.pointer (some ⟨b,18,none⟩)),gv (B7 && (ai f6 (!NT) true)) (.slice A7 n7 c7),gv (B7 && (ai f6 (!NT) true)) (.int .i64 n7),gv (B7 && (ai f6 (!NT) true)) (.pointer (some ⟨q,8,none⟩)),gv (B7 && (ai f6 (!NT) true)) (.int .i64 f8),gv (B7 && (ai f6 (!NT) true)) (.bool (decide (n7 = f8))),.bool ((B7 && (ai f6 (!NT) true)) && (decide (n7 = f8))),dS,dU,dV,dW,dX,dY,dZ,ed,iq,iw,iy,iC,iD,iE,iF,iG,iH,iI,iJ,iK,iL,iM,iO,iP,iQ,iR,iT,iU],defers:=[] } w2) :
  wZ Tryz.prog Region.Mode.any mM Q (nR wr b q (.mk kind chan name label xk xn xs xv xt af exprs names tk ts tn tl ag labels kids) (.slice A1 n1 c1) (.slice A2 n2 c2) (.slice A3 n3 c3) (.slice A4 n4 c4) (.slice A5 n5 c5) (.slice A6 n6 c6) (.slice A7 n7 c7) (⟨f0,f1,f2,f3,f4,f5,f6,f7,f8⟩ : uN)) 93 18 #[true,true,true,true,true,true,true,true,true,true,true,true,true,true,true,true,true,true,true,true,true,true,true,true,true,true,true,true,true,true,true,true,true,true,true,true,true,true,true,true,true,true,true,true,true,true,true,true,true,true,true,true,true,true,true,true,true,true,true,true,true,true,true,true,true,true,true,true,true,true,true,true,true,true,true,true,false,false,false,false,false,false,false,false,false,false,false,false,false,false,false,false,false,false] { tmps:=#[u0,.pointer (some ⟨b,0,none⟩),.int .i64 0,.pointer (some ⟨q,0,none⟩),.bool B0,.bool R,u6,u7,.bool NM,u9,jI,jJ,jk,jl,iW,iY,u16,jc,jd,je,jL,mW,mX,jM,jB,jG,jH,jQ,jR,jS,jT,jU,u32,jV,jW,jX,jY,jZ,ku,kw,kz,kC,kD,kE,kF,kG,kH,kJ,kK,kL,kM,kN,kP,kQ,kR,kS,kT,kU,kV,kW,kX,kY,kZ,lg,u64,lh,lm,lq,lu,.bool B0,.bool B0,gv B0 (.pointer (some ⟨q,0,none⟩)),gv B0 (.bool f0),gv B0 (.pointer (some ⟨b,1,none⟩)),gv B0 (.string ⟨chan.toArray⟩),gv B0 (.bool (!decide (chan = []))),gv B0 (.pointer (some ⟨b,1,none⟩)),gv B0 (.string ⟨chan.toArray⟩),gv B0 (.bool (ah chan)),gv B0 (.bool (ai f0 (!decide (chan = [])) (ah chan))),.bool B1,.bool B1,gv B1 (.pointer (some ⟨q,1,none⟩)),gv B1 (.bool f1),gv B1 (.pointer (some ⟨b,2,none⟩)),gv B1 (.string ⟨name.toArray⟩),gv B1 (.bool (!decide (name = []))),gv B1 (.bool NM),gv B1 (.bool (ai f1 (!decide (name = [])) NM)),.bool B2,.bool B2,gv B2 (.pointer (some ⟨q,2,none⟩)),gv B2 (.bool f2),gv B2 (.pointer (some ⟨b,3,none⟩)),gv B2 (.string ⟨label.toArray⟩),gv B2 (.bool (!decide (label = []))),gv B2 (.pointer (some ⟨b,3,none⟩)),gv B2 (.string ⟨label.toArray⟩),gv B2 (.bool (ah label)),gv B2 (.bool (ai f2 (!decide (label = [])) (ah label))),.bool B3,.bool B3,gv B3 (.pointer (some ⟨q,7,none⟩)),gv B3 (.bool f7),gv B3 (.pointer (some ⟨b,17,none⟩)),gv B3 (.slice A6 n6 c6),gv B3 (.int .i64 n6),gv B3 (.bool (!decide (n6 = 0))),gv B3 (.bool R),gv B3 (.bool (ai f7 (!decide (n6 = 0)) R)),.bool B4,.bool B4,gv B4 (.pointer (some ⟨q,5,none⟩)),gv B4 (.bool f5),gv B4 (.pointer (some ⟨b,11,none⟩)),gv B4 (.slice A3 n3 c3),gv B4 (.int .i64 n3),gv B4 (.bool (!decide (n3 = 0))),gv B4 (.pointer (some ⟨b,11,none⟩)),gv B4 (.slice A3 n3 c3),gv B4 (.bool (aZ names)),gv B4 (.bool (ai f5 (!decide (n3 = 0)) (aZ names))),.bool B5,.bool B5,gv B5 (.pointer (some ⟨q,3,none⟩)),gv B5 (.bool f3),gv B5 (.pointer (some ⟨b,4,none⟩)),gv B5 (.agg #[.int .i64 xk,.string ⟨xn.toArray⟩,.int .i64 xs,.int .i64 xv,.string ⟨xt.toArray⟩,.slice A1 n1 c1]),gv B5 (.bool NE),gv B5 (.bool (!NE)),gv B5 (.bool (ai f3 (!NE) true)),.bool B6,.bool B6,gv B6 (.pointer (some ⟨q,4,none⟩)),gv B6 (.bool f4),gv B6 (.pointer (some ⟨b,10,none⟩)),gv B6 (.slice A2 n2 c2),gv B6 (.int .i64 n2),gv B6 (.bool (!decide (n2 = 0))),gv B6 (.pointer (some ⟨b,10,none⟩)),gv B6 (.slice A2 n2 c2),gv B6 (.int .i64 n2),gv B6 (.bool (decide (n2 ≤ 6))),gv B6 (.bool (ai f4 (!decide (n2 = 0)) (decide (n2 ≤ 6)))),.bool B7,eu,eF,eG,eH,eP,eQ,eU,eX,eY,fA,fB,fC,fD,fE,fF,fG,fH,dS,dU,dV,dW,dX,dY,dZ,ed,iq,iw,iy,iC,iD,iE,iF,iG,iH,iI,iJ,iK,iL,iM,iO,iP,iQ,iR,iT,iU],defers:=[] } w1:=by
 have e : mM = List.toArray _:=rfl
 rw [e] at hnext ⊢
 clear e
 dsimp only [List.append] at hnext ⊢
 have iV:=zH (fun c a d v w h => hpq c a d v w h)
 have yc:=zH hne
 have ru:=zH hnt
 have Ht:=zH hn3
 have mV:=zH hnext
 clear hnext hne hnt hn3 hpq
 have y6 : decide (0 < n6) = !decide (n6 = 0):=by rw [Bool.eq_iff_iff]; simp; omega
 have y3 : decide (0 < n3) = !decide (n3 = 0):=by rw [Bool.eq_iff_iff]; simp; omega
 have y2 : decide (0 < n2) = !decide (n2 = 0):=by rw [Bool.eq_iff_iff]; simp; omega
 have z1 : List.isEmpty chan = decide (chan = []):=by cases chan <;> rfl
 have z2 : List.isEmpty name = decide (name = []):=by cases name <;> rfl
 have z3 : List.isEmpty label = decide (label = []):=by cases label <;> rfl
 have HS:=hS
 clear hS
 refine jF (i:=76) (v:=.bool B7) rfl (by kernel_rfl) (by kernel_rfl) (by kernel_rfl) (by kernel_rfl) (fun c a w h => iV.out c a _ _ w h) (Or.inl ⟨by rfl,fun wq hSw => by go_simp⟩) HS ?_
 simp only [zA,zB,zC,Act.put,zD,zE,zF]
 refine bu 77 B7 (.pointer (some ⟨q,6,none⟩)) rfl (by rintro rfl; exact ⟨by kernel_rfl,fun wq hSw => by (clear HS hSw mV iV; (try simp only [aG]); go_simp; all_goals (first | (with_reducible rfl) | (rw [show ((n2 : Int) ≤ 6) = (n2 ≤ 6) by rw [eq_iff_iff]; omega]) | (rw [Bool.eq_iff_iff]; simp; omega) | omega | (exact y6) | (exact y3) | (exact y2)))⟩) (by rintro rfl; kernel_rfl) HS (by kernel_rfl) (by kernel_rfl) (by kernel_rfl) (by kernel_rfl) (fun c a w h => iV.out c a _ _ w h) ?_
 simp only [zA,zB,zC,Act.put,zD,zE,zF]
 refine bu 78 B7 (.bool f6) rfl (by rintro rfl; exact ⟨by kernel_rfl,fun wq hSw => by (have c6 : wq.cell? ⟨q,6,none⟩ = some (.bool f6):=hSw.fx.c6; clear HS hSw mV iV; (try simp only [aG]); go_simp; all_goals (first | (with_reducible rfl) | (rw [show ((n2 : Int) ≤ 6) = (n2 ≤ 6) by rw [eq_iff_iff]; omega]) | (rw [Bool.eq_iff_iff]; simp; omega) | omega | (exact y6) | (exact y3) | (exact y2)))⟩) (by rintro rfl; kernel_rfl) HS (by kernel_rfl) (by kernel_rfl) (by kernel_rfl) (by kernel_rfl) (fun c a w h => iV.out c a _ _ w h) ?_
 simp only [zA,zB,zC,Act.put,zD,zE,zF]
 refine bu 79 B7 (.pointer (some ⟨b,12,none⟩)) rfl (by rintro rfl; exact ⟨by kernel_rfl,fun wq hSw => by (clear HS hSw mV iV; (try simp only [aG]); go_simp; all_goals (first | (with_reducible rfl) | (rw [show ((n2 : Int) ≤ 6) = (n2 ≤ 6) by rw [eq_iff_iff]; omega]) | (rw [Bool.eq_iff_iff]; simp; omega) | omega | (exact y6) | (exact y3) | (exact y2)))⟩) (by rintro rfl; kernel_rfl) HS (by kernel_rfl) (by kernel_rfl) (by kernel_rfl) (by kernel_rfl) (fun c a w h => iV.out c a _ _ w h) ?_
 simp only [zA,zB,zC,Act.put,zD,zE,zF]
 refine bu 80 B7 (.agg #[.int .i64 tk,.int .i64 ts,.string ⟨tn.toArray⟩,.slice A4 n4 c4,.slice A5 n5 c5]) rfl (by rintro rfl; exact ⟨by kernel_rfl,fun wq hSw => by (have c12 : wq.cell? ⟨b,12,none⟩ = some (.int .i64 tk):=hSw.bx.c12; have c13 : wq.cell? ⟨b,13,none⟩ = some (.int .i64 ts):=hSw.bx.c13; have c14 : wq.cell? ⟨b,14,none⟩ = some (.string ⟨tn.toArray⟩):=hSw.bx.c14; have c15 : wq.cell? ⟨b,15,none⟩ = some (.slice A4 n4 c4):=hSw.bx.c15; have c16 : wq.cell? ⟨b,16,none⟩ = some (.slice A5 n5 c5):=hSw.bx.c16; clear HS hSw mV iV; (try simp only [aG]); go_simp; all_goals (first | (with_reducible rfl) | (rw [show ((n2 : Int) ≤ 6) = (n2 ≤ 6) by rw [eq_iff_iff]; omega]) | (rw [Bool.eq_iff_iff]; simp; omega) | omega | (exact y6) | (exact y3) | (exact y2)))⟩) (by rintro rfl; kernel_rfl) HS (by kernel_rfl) (by kernel_rfl) (by kernel_rfl) (by kernel_rfl) (fun c a w h => iV.out c a _ _ w h) ?_
 simp only [zA,zB,zC,Act.put,zD,zE,zF]
 refine pI 81 B7 (.bool NT) rfl (by kernel_rfl) (by rintro rfl; kernel_rfl) (by rintro rfl; kernel_rfl) (by rintro rfl; intro K' hK'; simp only [zA,zB,zC,Act.put,zD,zE,zF] at hK'; have hbq:=HS.bl; clear mV iV; simp only [aG] at hK' ⊢; go_simp; refine (ru.out _).mono ?_; rintro e w1 ⟨rfl,hb1⟩; exact hK' _ hb1) ?_
 intro w81 Qv
 replace HS:=HS.next Qv
 refine ⟨fun _ => HS,?_⟩
 clear Qv
 simp only [zA,zB,zC,Act.put,zD,zE,zF]
 refine bu 82 B7 (.bool (!NT)) rfl (by rintro rfl; exact ⟨by kernel_rfl,fun wq hSw => by (clear HS hSw mV iV; (try simp only [aG]); go_simp; all_goals (first | (with_reducible rfl) | (rw [show ((n2 : Int) ≤ 6) = (n2 ≤ 6) by rw [eq_iff_iff]; omega]) | (rw [Bool.eq_iff_iff]; simp; omega) | omega | (exact y6) | (exact y3) | (exact y2)))⟩) (by rintro rfl; kernel_rfl) HS (by kernel_rfl) (by kernel_rfl) (by kernel_rfl) (by kernel_rfl) (fun c a w h => iV.out c a _ _ w h) ?_
 simp only [zA,zB,zC,Act.put,zD,zE,zF]
 refine pI 83 B7 (.bool (ai f6 (!NT) true)) rfl (by kernel_rfl) (by rintro rfl; kernel_rfl) (by rintro rfl; kernel_rfl) (by rintro rfl; intro K' hK'; simp only [zA,zB,zC,Act.put,zD,zE,zF] at hK'; have hbq:=HS.bl; clear mV iV; simp only [aG] at hK' ⊢; go_simp; refine (vO f6 (!NT) true _).mono ?_; rintro e w1 ⟨rfl,rfl⟩; exact hK' _ (Below.refl _ _)) ?_
 intro w83 Qw
 replace HS:=HS.next Qw
 refine ⟨fun _ => HS,?_⟩
 clear Qw
 simp only [zA,zB,zC,Act.put,zD,zE,zF]
 obtain ⟨B8,SB⟩ : ∃ x,(B7 && (ai f6 (!NT) true)) = x:=⟨_,rfl⟩
 rw [SB] at mV
 refine jF (i:=84) (v:=.bool B8) rfl (by kernel_rfl) (by kernel_rfl) (by kernel_rfl) (by kernel_rfl) (fun c a w h => iV.out c a _ _ w h) (Or.inl ⟨by rfl,fun wq hSw => ?_⟩) HS ?_
 ·cases B7 <;> (simp only [gv]; go_simp; all_goals (first | (simpa using SB) | (simpa using SB.symm)))
 simp only [zA,zB,zC,Act.put,zD,zE,zF]
 clear SB
 refine jF (i:=85) (v:=.bool B8) rfl (by kernel_rfl) (by kernel_rfl) (by kernel_rfl) (by kernel_rfl) (fun c a w h => iV.out c a _ _ w h) (Or.inl ⟨by rfl,fun wq hSw => by go_simp⟩) HS ?_
 simp only [zA,zB,zC,Act.put,zD,zE,zF]
 refine bu 86 B8 (.pointer (some ⟨b,18,none⟩)) rfl (by rintro rfl; exact ⟨by kernel_rfl,fun wq hSw => by (clear HS hSw mV iV; (try simp only [aG]); go_simp; all_goals (first | (with_reducible rfl) | (rw [show ((n2 : Int) ≤ 6) = (n2 ≤ 6) by rw [eq_iff_iff]; omega]) | (rw [Bool.eq_iff_iff]; simp; omega) | omega | (exact y6) | (exact y3) | (exact y2)))⟩) (by rintro rfl; kernel_rfl) HS (by kernel_rfl) (by kernel_rfl) (by kernel_rfl) (by kernel_rfl) (fun c a w h => iV.out c a _ _ w h) ?_
 simp only [zA,zB,zC,Act.put,zD,zE,zF]
 refine bu 87 B8 (.slice A7 n7 c7) rfl (by rintro rfl; exact ⟨by kernel_rfl,fun wq hSw => by (have c18 : wq.cell? ⟨b,18,none⟩ = some (.slice A7 n7 c7):=hSw.bx.c18; clear HS hSw mV iV; (try simp only [aG]); go_simp; all_goals (first | (with_reducible rfl) | (rw [show ((n2 : Int) ≤ 6) = (n2 ≤ 6) by rw [eq_iff_iff]; omega]) | (rw [Bool.eq_iff_iff]; simp; omega) | omega | (exact y6) | (exact y3) | (exact y2)))⟩) (by rintro rfl; kernel_rfl) HS (by kernel_rfl) (by kernel_rfl) (by kernel_rfl) (by kernel_rfl) (fun c a w h => iV.out c a _ _ w h) ?_
 simp only [zA,zB,zC,Act.put,zD,zE,zF]
 refine bu 88 B8 (.int .i64 n7) rfl (by rintro rfl; exact ⟨by kernel_rfl,fun wq hSw => by (clear HS hSw mV iV; (try simp only [aG]); go_simp; all_goals (first | (with_reducible rfl) | (rw [show ((n2 : Int) ≤ 6) = (n2 ≤ 6) by rw [eq_iff_iff]; omega]) | (rw [Bool.eq_iff_iff]; simp; omega) | omega | (exact y6) | (exact y3) | (exact y2)))⟩) (by rintro rfl; kernel_rfl) HS (by kernel_rfl) (by kernel_rfl) (by kernel_rfl) (by kernel_rfl) (fun c a w h => iV.out c a _ _ w h) ?_
 simp only [zA,zB,zC,Act.put,zD,zE,zF]
 refine bu 89 B8 (.pointer (some ⟨q,8,none⟩)) rfl (by rintro rfl; exact ⟨by kernel_rfl,fun wq hSw => by (clear HS hSw mV iV; (try simp only [aG]); go_simp; all_goals (first | (with_reducible rfl) | (rw [show ((n2 : Int) ≤ 6) = (n2 ≤ 6) by rw [eq_iff_iff]; omega]) | (rw [Bool.eq_iff_iff]; simp; omega) | omega | (exact y6) | (exact y3) | (exact y2)))⟩) (by rintro rfl; kernel_rfl) HS (by kernel_rfl) (by kernel_rfl) (by kernel_rfl) (by kernel_rfl) (fun c a w h => iV.out c a _ _ w h) ?_
 simp only [zA,zB,zC,Act.put,zD,zE,zF]
 refine bu 90 B8 (.int .i64 f8) rfl (by rintro rfl; exact ⟨by kernel_rfl,fun wq hSw => by (have c8 : wq.cell? ⟨q,8,none⟩ = some (.int .i64 f8):=hSw.fx.c8; clear HS hSw mV iV; (try simp only [aG]); go_simp; all_goals (first | (with_reducible rfl) | (rw [show ((n2 : Int) ≤ 6) = (n2 ≤ 6) by rw [eq_iff_iff]; omega]) | (rw [Bool.eq_iff_iff]; simp; omega) | omega | (exact y6) | (exact y3) | (exact y2)))⟩) (by rintro rfl; kernel_rfl) HS (by kernel_rfl) (by kernel_rfl) (by kernel_rfl) (by kernel_rfl) (fun c a w h => iV.out c a _ _ w h) ?_
 simp only [zA,zB,zC,Act.put,zD,zE,zF]
 refine bu 91 B8 (.bool (decide (n7 = f8))) rfl (by rintro rfl; exact ⟨by kernel_rfl,fun wq hSw => by (clear HS hSw mV iV; (try simp only [aG]); go_simp; all_goals (first | (with_reducible rfl) | (rw [show ((n2 : Int) ≤ 6) = (n2 ≤ 6) by rw [eq_iff_iff]; omega]) | (rw [Bool.eq_iff_iff]; simp; omega) | omega | (exact y6) | (exact y3) | (exact y2)))⟩) (by rintro rfl; kernel_rfl) HS (by kernel_rfl) (by kernel_rfl) (by kernel_rfl) (by kernel_rfl) (fun c a w h => iV.out c a _ _ w h) ?_
 simp only [zA,zB,zC,Act.put,zD,zE,zF]
 obtain ⟨B9,SC⟩ : ∃ x,(B8 && (decide (n7 = f8))) = x:=⟨_,rfl⟩
 rw [SC] at mV
 refine jF (i:=92) (v:=.bool B9) rfl (by kernel_rfl) (by kernel_rfl) (by kernel_rfl) (by kernel_rfl) (fun c a w h => iV.out c a _ _ w h) (Or.inl ⟨by rfl,fun wq hSw => ?_⟩) HS ?_
 ·cases B8 <;> (simp only [gv]; go_simp; all_goals (first | (simpa using SC) | (simpa using SC.symm)))
 simp only [zA,zB,zC,Act.put,zD,zE,zF]
 clear SC
 exact mV.out _ HS
theorem shape_p5 (Q : Exit → Act → World → Prop) (S : World → Prop) (OK : Bool) (t0 t1 t2 t3 t5 t6 t7 t8 t9 t10 t11 t12 t13 t14 t15 t16 t17 t18 t19 t20 t21 t22 t23 t24 t25 t26 t27 t28 t29 t30 t31 t32 t33 t34 t35 t36 t37 t38 t39 t40 t41 t42 t43 t44 t45 t46 t47 t48 t49 t50 t51 t52 t53 t54 t55 t56 t57 t58 t59 t60 t61 t62 t63 t64 t65 t66 t67 t68 t69 t70 t71 t72 t73 t74 t75 t76 t77 t78 t79 t80 t81 t82 t83 t84 t85 t86 t87 t88 t89 t90 t91 t92 t93 t94 t95 t96 t97 t98 t99 t100 t101 t102 t103 t104 t105 t106 t107 t108 t109 t110 t111 t112 t113 t114 t115 t116 t117 t118 t119 t120 t121 t122 t123 t124 t125 t126 t127 t128 t129 t130 t131 t132 t133 t134 t135 t136 t137 t138 t139 t140 t141 t142 t143 t144 t145 t146 t147 t148 t149 t150 t151 t152 t153 t154 t155 t156 t157 t158 t159 t160 t162 t163 t164 t165 t166 t167 t168 t169 t170 t171 t172 t173 t174 t175 t176 t177 t178 t179 t180 t181 t182 t183 t184 t185 t186 t187 t188 t189 v4 : Value) (w1 : World) (hnext : Q .normal { tmps:=#[t0,t1,t2,t3,.bool OK,t5,t6,t7,t8,t9,t10,t11,t12,t13,t14,t15,t16,t17,t18,t19,t20,t21,t22,t23,t24,t25,t26,t27,t28,t29,t30,t31,t32,t33,t34,t35,t36,t37,t38,t39,t40,t41,t42,t43,t44,t45,t46,t47,t48,t49,t50,t51,t52,t53,t54,t55,t56,t57,t58,t59,t60,t61,t62,t63,t64,t65,t66,t67,t68,t69,t70,t71,t72,t73,t74,t75,t76,t77,t78,t79,t80,t81,t82,t83,t84,t85,t86,t87,t88,t89,t90,t91,t92,t93,t94,t95,t96,t97,t98,t99,t100,t101,t102,t103,t104,t105,t106,t107,t108,t109,t110,t111,t112,t113,t114,t115,t116,t117,t118,t119,t120,t121,t122,t123,t124,t125,t126,t127,t128,t129,t130,t131,t132,t133,t134,t135,t136,t137,t138,t139,t140,t141,t142,t143,t144,t145,t146,t147,t148,t149,t150,t151,t152,t153,t154,t155,t156,t157,t158,t159,t160,.bool OK,t162,t163,t164,t165,t166,t167,t168,t169,t170,t171,t172,t173,t174,t175,t176,t177,t178,t179,t180,t181,t182,t183,t184,t185,t186,t187,t188,t189],defers:=[] } w1) :
  wZ Tryz.prog Region.Mode.any mM Q S 93 1 #[true,true,true,true,true,true,true,true,true,true,true,true,true,true,true,true,true,true,true,true,true,true,true,true,true,true,true,true,true,true,true,true,true,true,true,true,true,true,true,true,true,true,true,true,true,true,true,true,true,true,true,true,true,true,true,true,true,true,true,true,true,true,true,true,true,true,true,true,true,true,true,true,true,true,true,true,true,true,true,true,true,true,true,true,true,true,true,true,true,true,true,true,true,false] { tmps:=#[t0,t1,t2,t3,v4,t5,t6,t7,t8,t9,t10,t11,t12,t13,t14,t15,t16,t17,t18,t19,t20,t21,t22,t23,t24,t25,t26,t27,t28,t29,t30,t31,t32,t33,t34,t35,t36,t37,t38,t39,t40,t41,t42,t43,t44,t45,t46,t47,t48,t49,t50,t51,t52,t53,t54,t55,t56,t57,t58,t59,t60,t61,t62,t63,t64,t65,t66,t67,t68,t69,t70,t71,t72,t73,t74,t75,t76,t77,t78,t79,t80,t81,t82,t83,t84,t85,t86,t87,t88,t89,t90,t91,t92,t93,t94,t95,t96,t97,t98,t99,t100,t101,t102,t103,t104,t105,t106,t107,t108,t109,t110,t111,t112,t113,t114,t115,t116,t117,t118,t119,t120,t121,t122,t123,t124,t125,t126,t127,t128,t129,t130,t131,t132,t133,t134,t135,t136,t137,t138,t139,t140,t141,t142,t143,t144,t145,t146,t147,t148,t149,t150,t151,t152,t153,t154,t155,t156,t157,t158,t159,t160,.bool OK,t162,t163,t164,t165,t166,t167,t168,t169,t170,t171,t172,t173,t174,t175,t176,t177,t178,t179,t180,t181,t182,t183,t184,t185,t186,t187,t188,t189],defers:=[] } w1:=by
 have e : mM = List.toArray _:=rfl
 rw [e]
 clear e
 dsimp only [List.append]
 refine zO 93 fun K hK => ?_
 go_simp
 refine hK.out _ _ (fun h => absurd h (by decide)) ?_
 simp only [zA,zB,zC,Act.put,zD,zE,zF]
 exact bf (by kernel_rfl) hnext
theorem shape_ok {kind : Int} {chan name label : Str} {xk : Int} {xn : Str} {xs xv : Int} {xt : Str} {af exprs : List Ex} {names : List Str} {tk ts : Int} {tn : Str} {tl : List Str} {ag : List Ty} {labels : List Str} {kids : List Pr} {n1 n2 n3 n4 n5 n6 n7 : Nat} {f0 f1 f2 f3 f4 f5 f6 f7 : Bool} {f8 : Nat}
  (OX : n1 = af.length) (Nc : n2 = exprs.length) (SN : n3 = names.length) (QU : n4 = tl.length) (QV : n5 = ag.length) (Nh : n6 = labels.length) (n7e : n7 = kids.length) (hfr : jw kind n6 = ⟨f0,f1,f2,f3,f4,f5,f6,f7,f8⟩) {B0 R NM NE NT : Bool} (hB0 : isKind kind = B0) (hR : aJ labels = R) (hNM : named (.mk kind chan name label xk xn xs xv xt af exprs names tk ts tn tl ag labels kids) = NM)
  (Me : (decide (xk = 0) && (decide (xn = []) && ((decide (xs = 0) && (decide (xv = 0) && decide (xt = []))) && decide (n1 = 0)))) = NE) (MB : (decide (tk = 0) && (decide (ts = 0) && (decide (tn = []) && decide (n4 + n5 = 0)))) = NT) :
  (((((((((B0 && (ai f0 (!decide (chan = [])) (ah chan))) && (ai f1 (!decide (name = [])) NM)) && (ai f2 (!decide (label = [])) (ah label))) && (ai f7 (!decide (n6 = 0)) R)) && (ai f5 (!decide (n3 = 0)) (aZ names))) && (ai f3 (!NE) true)) && (ai f4 (!decide (n2 = 0)) (decide (n2 ≤ 6)))) && (ai f6 (!NT) true)) && (decide (n7 = f8))) = zh (.mk kind chan name label xk xn xs xv xt af exprs names tk ts tn tl ag labels kids):=by
 subst OX Nc SN QU QV Nh n7e hB0 hR hNM Me MB
 have e : zh (.mk kind chan name label xk xn xs xv xt af exprs names tk ts tn tl ag labels kids) = (decide (1 ≤ kind) && (decide (kind ≤ 13) && (ai (jw kind labels.length).chan (!decide (chan = [])) (ah chan) && (ai (jw kind labels.length).name (!decide (name = [])) (named (.mk kind chan name label xk xn xs xv xt af exprs names tk ts tn tl ag labels kids)) && (ai (jw kind labels.length).label (!decide (label = [])) (ah label) && (ai (jw kind labels.length).labels (!decide (labels.length = 0)) (aJ labels) && (ai (jw kind labels.length).names (!decide (names.length = 0)) (aZ names) && (ai (jw kind labels.length).expr (!(decide (xk = 0) && (decide (xn = []) && ((decide (xs = 0) && (decide (xv = 0) && decide (xt = []))) && decide (af.length = 0))))) true && (ai (jw kind labels.length).exprs (!decide (exprs.length = 0)) (decide (exprs.length ≤ 6)) && (ai (jw kind labels.length).type (!(decide (tk = 0) && (decide (ts = 0) && (decide (tn = []) && decide (tl.length + ag.length = 0))))) true && decide (kids.length = (jw kind labels.length).kids))))))))))):=rfl
 rw [e,hfr]
 simp only [isKind,Bool.and_assoc]
theorem sD (kind : Int) (chan name label : Str) (xk : Int) (xn : Str) (xs xv : Int) (xt : Str) (af exprs : List Ex) (names : List Str) (tk ts : Int) (tn : Str) (tl : List Str) (ag : List Ty) (labels : List Str) (kids : List Pr) (A1 : Option Addr) (n1 c1 : Nat) (A2 : Option Addr) (n2 c2 : Nat) (A3 : Option Addr) (n3 c3 : Nat) (A4 : Option Addr) (n4 c4 : Nat) (A5 : Option Addr) (n5 c5 : Nat) (A6 : Option Addr) (n6 c6 : Nat) (A7 : Option Addr) (n7 c7 : Nat) (wz : World) (b q : Nat) (f0 f1 f2 f3 f4 f5 f6 f7 : Bool) (f8 : Nat) (w : World) (B0 R NM : Bool) {u0 u6 u7 u9 jI jJ jk jl iW iY u16 jc jd je jL mW mX jM jB jG jH jQ jR jS jT jU u32 jV jW jX jY jZ ku kw kz kC kD kE kF kG kH kJ kK kL kM kN kP kQ kR kS kT kU kV kW kX kY kZ lg u64 lh lm lq lu lJ lK lL lM lN lQ lS lT lU lV lW lX lY lZ l9 mf mg mi mr mD mF lD lw mP nP nD oH oI oJ oK oL dE dF dG dH dI dJ dK dL dM dN dO bP bQ bT bU bV bW bY bZ cu cO cZ dh di dw dC dD gJ gK gQ gU gV fO fP fQ fU fV fZ gp gq gu gy gB gG gI eu eF eG eH eP eQ eU eX eY fA fB fC fD fE fF fG fH dS dU dV dW dX dY dZ ed iq iw iy iC iD iE iF iG iH iI iJ iK iL iM iO iP iQ iR iT iU : Value}
  (hbox : nK wz b (.mk kind chan name label xk xn xs xv xt af exprs names tk ts tn tl ag labels kids) (.slice A1 n1 c1) (.slice A2 n2 c2) (.slice A3 n3 c3) (.slice A4 n4 c4) (.slice A5 n5 c5) (.slice A6 n6 c6) (.slice A7 n7 c7)) (hfbox : Ik wz q (⟨f0,f1,f2,f3,f4,f5,f6,f7,f8⟩ : uN)) (hbw : Below w.heap.size w wz) (hv : zn All wz (.agg #[.int .i64 kind,.string ⟨chan.toArray⟩,.string ⟨name.toArray⟩,.string ⟨label.toArray⟩,.int .i64 xk,.string ⟨xn.toArray⟩,.int .i64 xs,.int .i64 xv,.string ⟨xt.toArray⟩,.slice A1 n1 c1,.slice A2 n2 c2,.slice A3 n3 c3,.int .i64 tk,.int .i64 ts,.string ⟨tn.toArray⟩,.slice A4 n4 c4,.slice A5 n5 c5,.slice A6 n6 c6,.slice A7 n7 c7]) (.mk kind chan name label xk xn xs xv xt af exprs names tk ts tn tl ag labels kids))
  (hf : bF 1048576 (.mk kind chan name label xk xn xs xv xt af exprs names tk ts tn tl ag labels kids)) (hT : Tabs wz) (ANS : Int) (hA : Hid (nU (.mk kind chan name label xk xn xs xv xt af exprs names tk ts tn tl ag labels kids) = ANS)) (hfr : Hid (jw kind n6 = (⟨f0,f1,f2,f3,f4,f5,f6,f7,f8⟩ : uN))) (hB0 : Hid (isKind kind = B0)) (hR : Hid (aJ labels = R)) (hNM : Hid (named (.mk kind chan name label xk xn xs xv xt af exprs names tk ts tn tl ag labels kids) = NM)) :
  Code.wp Tryz.prog AO (bodyPost Tryz.prog Tryz.f84 (fun e w' => e = .returned (.int .i64 ANS) ∧ Below w.heap.size w w')) { tmps:=#[u0,.pointer (some ⟨b,0,none⟩),.int .i64 0,.pointer (some ⟨q,0,none⟩),.bool B0,.bool R,u6,u7,.bool NM,u9,jI,jJ,jk,jl,iW,iY,u16,jc,jd,je,jL,mW,mX,jM,jB,jG,jH,jQ,jR,jS,jT,jU,u32,jV,jW,jX,jY,jZ,ku,kw,kz,kC,kD,kE,kF,kG,kH,kJ,kK,kL,kM,kN,kP,kQ,kR,kS,kT,kU,kV,kW,kX,kY,kZ,lg,u64,lh,lm,lq,lu,lJ,lK,lL,lM,lN,lQ,lS,lT,lU,lV,lW,lX,lY,lZ,l9,mf,mg,mi,mr,mD,mF,lD,lw,mP,nP,nD,oH,oI,oJ,oK,oL,dE,dF,dG,dH,dI,dJ,dK,dL,dM,dN,dO,bP,bQ,bT,bU,bV,bW,bY,bZ,cu,cO,cZ,dh,di,dw,dC,dD,gJ,gK,gQ,gU,gV,fO,fP,fQ,fU,fV,fZ,gp,gq,gu,gy,gB,gG,gI,eu,eF,eG,eH,eP,eQ,eU,eX,eY,fA,fB,fC,fD,fE,fF,fG,fH,dS,dU,dV,dW,dX,dY,dZ,ed,iq,iw,iy,iC,iD,iE,iF,iG,iH,iI,iJ,iK,iL,iM,iO,iP,iQ,iR,iT,iU],defers:=[] } wz:=by
 have h : AO = Code.seq (Code.region 9 mM true) _:=rfl
 rw [h]
 clear h
 obtain ⟨-,hch,hna,hla,-,TU,-,-,hxt,QO,ML,hex1,Oz,hn1,hn2,-,-,htn,QK,G6,QJ,OQ,QF,QG,hk1,hk2⟩:=hf.parts
 simp only [Pr.aN,Pr.aT,Pr.aI,Pr.aW,Pr.jm,Pr.jo,Pr.jq,Pr.jv,Pr.jr,Pr.aY,Pr.aV,Pr.aU,Pr.jg,Pr.ji,Pr.jh,Pr.jA,Pr.aX,Pr.aH,Pr.aK] at hch hna hla TU hxt QO ML hex1 Oz hn1 hn2 htn QK G6 QJ OQ QF QG hk1 hk2
 have hlc : chan.length ≤ 9223372036854775807:=by omega
 have hll : label.length ≤ 9223372036854775807:=by omega
 have hl3 : names.length ≤ 9223372036854775807:=by omega
 have hln : ∀ s ∈ names,s.length ≤ 9223372036854775807:=fun s hs => by have:=hn2 s hs; omega
 have hlv : n1 = af.length ∧ n2 = exprs.length ∧ n3 = names.length ∧ n4 = tl.length ∧ n5 = ag.length ∧ n6 = labels.length ∧ n7 = kids.length ∧ bD All wz (.slice A3 n3 c3) names ∧ uz All wz (.slice A1 n1 c1) af ∧ uz All wz (.slice A2 n2 c2) exprs ∧ bD All wz (.slice A4 n4 c4) tl ∧ qZ All wz (.slice A5 n5 c5) ag:=by
  obtain ⟨w1,w2,w3,w4,w5,w6,w7,e,q1,q2,q3,q4,q5,q6,q7⟩:=id hv
  simp only [Value.agg.injEq,Pr.aN,Pr.aT,Pr.aI,Pr.aW,Pr.jm,Pr.jo,Pr.jq,Pr.jv,Pr.jr,Pr.aY,Pr.aV,Pr.aU,Pr.jg,Pr.ji,Pr.jh,Pr.jA,Pr.aX,Pr.aH,Pr.aK] at e q1 q2 q3 q4 q5 q6 q7
  have e':=congrArg Array.toList e
  simp only [List.cons.injEq,and_true,true_and] at e'
  obtain ⟨e1,e2,e3,e4,e5,e6,e7⟩:=e'
  subst e1 e2 e3 e4 e5 e6 e7
  refine ⟨?_,?_,?_,?_,?_,?_,?_,q3,q1,q2,q4,q5⟩
  ·obtain ⟨_,_,e,-⟩:=q1; injection e
  ·obtain ⟨_,_,e,-⟩:=q2; injection e
  ·obtain ⟨_,_,e,-⟩:=q3; injection e
  ·obtain ⟨_,_,e,-⟩:=q4; injection e
  ·obtain ⟨_,_,e,-⟩:=q5; injection e
  ·obtain ⟨_,_,e,-⟩:=q6; injection e
  ·obtain ⟨_,_,e,-⟩:=q7; injection e
 obtain ⟨OX,Nc,SN,QU,QV,Nh,n7e,hd3,hd1,hd2,hd4,hd5⟩:=hlv
 obtain ⟨NE,Me⟩ : ∃ x,(decide (xk = 0) && (decide (xn = []) && ((decide (xs = 0) && (decide (xv = 0) && decide (xt = []))) && decide (n1 = 0)))) = x:=⟨_,rfl⟩
 have hne:=fun w => emptyExpr_cells xk xn xs xv xt A1 n1 c1 w
 obtain ⟨NT,MB⟩ : ∃ x,(decide (tk = 0) && (decide (ts = 0) && (decide (tn = []) && decide (n4 + n5 = 0)))) = x:=⟨_,rfl⟩
 have hnt:=fun w => emptyType_cells tk ts tn A4 n4 c4 A5 n5 c5 w (by omega) (by omega)
 rw [Me] at hne
 rw [MB] at hnt
 have vU:=zH (shape_ok OX Nc SN QU QV Nh n7e hfr.out hB0.out hR.out hNM.out Me MB)
 have hn3 : ∀ wq,Below wz.heap.size wz wq → aF wq (.slice A3 n3 c3) names:=fun wq hb => (hd3.below hb).is
 have HD1:=zH hd1
 have HD2:=zH hd2
 have HD4:=zH hd4
 have HD5:=zH hd5
 have N1:=zH OX
 have N2:=zH Nc
 have N4:=zH QU
 have N6:=zH Nh
 have P6 : Hid (Fit (.mk tk ts tn tl ag)):=by
  have hM : 1048576 ≤ maxLen:=by unfold maxLen; omega
  exact zH (.mk tk ts tn tl ag (by exact hf.parts.2.2.2.2.2.2.2.2.2.2.2.2.2.2.2.1) (by exact hf.parts.2.2.2.2.2.2.2.2.2.2.2.2.2.2.2.2.1) (by omega) (by omega) (fun l hl => by have:=G6 l hl; omega) (by omega) OQ)
 have RQ : Hid (bI 1048576 (.mk xk xn xs xv xt af)):=zH (.mk xk xn xs xv xt af (by exact hf.parts.2.2.2.2.1) TU (by exact hf.parts.2.2.2.2.2.2.1) (by exact hf.parts.2.2.2.2.2.2.2.1) hxt QO ML)
 have N5:=zH QV
 have HX:=zH Oz
 have Sj:=zH ML
 have HF:=zH hf
 have HT:=zH hT
 have hS0 : (nR wz b q (.mk kind chan name label xk xn xs xv xt af exprs names tk ts tn tl ag labels kids) (.slice A1 n1 c1) (.slice A2 n2 c2) (.slice A3 n3 c3) (.slice A4 n4 c4) (.slice A5 n5 c5) (.slice A6 n6 c6) (.slice A7 n7 c7) (⟨f0,f1,f2,f3,f4,f5,f6,f7,f8⟩ : uN)) wz.drew:=⟨hbox.kept (Below.refl _ _).drew,hfbox.keep (Below.refl _ _).drew,(Below.refl _ _).drew⟩
 have hsz : mM.size = 94:=by kernel_rfl
 clear OX Nc SN QU QV Nh n7e hd1 hd2 hd3 hd4 hd5 hv hf hT Me MB hbox hfbox hch hna hla TU hxt ML Oz hn1 hn2 htn QK G6 QJ OQ QF QG hk1 hk2
 go_step
 go_step
 refine aC 93 (nR wz b q (.mk kind chan name label xk xn xs xv xt af exprs names tk ts tn tl ag labels kids) (.slice A1 n1 c1) (.slice A2 n2 c2) (.slice A3 n3 c3) (.slice A4 n4 c4) (.slice A5 n5 c5) (.slice A6 n6 c6) (.slice A7 n7 c7) (⟨f0,f1,f2,f3,f4,f5,f6,f7,f8⟩ : uN)) (by kernel_rfl) ?_
 rw [hsz]
 refine shape_p0 kind chan name label xk xn xs xv xt af exprs names tk ts tn tl ag labels kids A1 n1 c1 A2 n2 c2 A3 n3 c3 A4 n4 c4 A5 n5 c5 A6 n6 c6 A7 n7 c7 wz b q f0 f1 f2 f3 f4 f5 f6 f7 f8 B0 R NM NE NT  u0 u6 u7 u9 jI jJ jk jl iW iY u16 jc jd je jL mW mX jM jB jG jH jQ jR jS jT jU u32 jV jW jX jY jZ ku kw kz kC kD kE kF kG kH kJ kK kL kM kN kP kQ kR kS kT kU kV kW kX kY kZ lg u64 lh lm lq lu lJ lK lL lM lN lQ lS lT lU lV lW lX lY lZ l9 mf mg mi mr mD mF lD lw mP nP nD oH oI oJ oK oL dE dF dG dH dI dJ dK dL dM dN dO bP bQ bT bU bV bW bY bZ cu cO cZ dh di dw dC dD gJ gK gQ gU gV fO fP fQ fU fV fZ gp gq gu gy gB gG gI eu eF eG eH eP eQ eU eX eY fA fB fC fD fE fF fG fH dS dU dV dW dX dY dZ ed iq iw iy iC iD iE iF iG iH iI iJ iK iL iM iO iP iQ iR iT iU _ _ (fun _ _ d _ _ h => by cases d <;> exact h) hlc hll hl3 hln hne hnt hn3 hS0 (fun w2 hS2 => ?_)
 refine shape_p1 kind chan name label xk xn xs xv xt af exprs names tk ts tn tl ag labels kids A1 n1 c1 A2 n2 c2 A3 n3 c3 A4 n4 c4 A5 n5 c5 A6 n6 c6 A7 n7 c7 wz b q f0 f1 f2 f3 f4 f5 f6 f7 f8 B0 R NM NE NT  (B0 && (ai f0 (!decide (chan = [])) (ah chan))) ((B0 && (ai f0 (!decide (chan = [])) (ah chan))) && (ai f1 (!decide (name = [])) NM)) u0 u6 u7 u9 jI jJ jk jl iW iY u16 jc jd je jL mW mX jM jB jG jH jQ jR jS jT jU u32 jV jW jX jY jZ ku kw kz kC kD kE kF kG kH kJ kK kL kM kN kP kQ kR kS kT kU kV kW kX kY kZ lg u64 lh lm lq lu lJ lK lL lM lN lQ lS lT lU lV lW lX lY lZ l9 mf mg mi mr mD mF lD lw mP nP nD oH oI oJ oK oL dE dF dG dH dI dJ dK dL dM dN dO bP bQ bT bU bV bW bY bZ cu cO cZ dh di dw dC dD gJ gK gQ gU gV fO fP fQ fU fV fZ gp gq gu gy gB gG gI eu eF eG eH eP eQ eU eX eY fA fB fC fD fE fF fG fH dS dU dV dW dX dY dZ ed iq iw iy iC iD iE iF iG iH iI iJ iK iL iM iO iP iQ iR iT iU _ _ (fun _ _ d _ _ h => by cases d <;> exact h) hlc hll hl3 hln hne hnt hn3 hS2 (fun w3 hS3 => ?_)
 refine shape_p2 kind chan name label xk xn xs xv xt af exprs names tk ts tn tl ag labels kids A1 n1 c1 A2 n2 c2 A3 n3 c3 A4 n4 c4 A5 n5 c5 A6 n6 c6 A7 n7 c7 wz b q f0 f1 f2 f3 f4 f5 f6 f7 f8 B0 R NM NE NT  (B0 && (ai f0 (!decide (chan = [])) (ah chan))) ((B0 && (ai f0 (!decide (chan = [])) (ah chan))) && (ai f1 (!decide (name = [])) NM)) (((B0 && (ai f0 (!decide (chan = [])) (ah chan))) && (ai f1 (!decide (name = [])) NM)) && (ai f2 (!decide (label = [])) (ah label))) ((((B0 && (ai f0 (!decide (chan = [])) (ah chan))) && (ai f1 (!decide (name = [])) NM)) && (ai f2 (!decide (label = [])) (ah label))) && (ai f7 (!decide (n6 = 0)) R)) u0 u6 u7 u9 jI jJ jk jl iW iY u16 jc jd je jL mW mX jM jB jG jH jQ jR jS jT jU u32 jV jW jX jY jZ ku kw kz kC kD kE kF kG kH kJ kK kL kM kN kP kQ kR kS kT kU kV kW kX kY kZ lg u64 lh lm lq lu lJ lK lL lM lN lQ lS lT lU lV lW lX lY lZ l9 mf mg mi mr mD mF lD lw mP nP nD oH oI oJ oK oL dE dF dG dH dI dJ dK dL dM dN dO bP bQ bT bU bV bW bY bZ cu cO cZ dh di dw dC dD gJ gK gQ gU gV fO fP fQ fU fV fZ gp gq gu gy gB gG gI eu eF eG eH eP eQ eU eX eY fA fB fC fD fE fF fG fH dS dU dV dW dX dY dZ ed iq iw iy iC iD iE iF iG iH iI iJ iK iL iM iO iP iQ iR iT iU _ _ (fun _ _ d _ _ h => by cases d <;> exact h) hlc hll hl3 hln hne hnt hn3 hS3 (fun w4 hS4 => ?_)
 refine shape_p3 kind chan name label xk xn xs xv xt af exprs names tk ts tn tl ag labels kids A1 n1 c1 A2 n2 c2 A3 n3 c3 A4 n4 c4 A5 n5 c5 A6 n6 c6 A7 n7 c7 wz b q f0 f1 f2 f3 f4 f5 f6 f7 f8 B0 R NM NE NT  (B0 && (ai f0 (!decide (chan = [])) (ah chan))) ((B0 && (ai f0 (!decide (chan = [])) (ah chan))) && (ai f1 (!decide (name = [])) NM)) (((B0 && (ai f0 (!decide (chan = [])) (ah chan))) && (ai f1 (!decide (name = [])) NM)) && (ai f2 (!decide (label = [])) (ah label))) ((((B0 && (ai f0 (!decide (chan = [])) (ah chan))) && (ai f1 (!decide (name = [])) NM)) && (ai f2 (!decide (label = [])) (ah label))) && (ai f7 (!decide (n6 = 0)) R)) (((((B0 && (ai f0 (!decide (chan = [])) (ah chan))) && (ai f1 (!decide (name = [])) NM)) && (ai f2 (!decide (label = [])) (ah label))) && (ai f7 (!decide (n6 = 0)) R)) && (ai f5 (!decide (n3 = 0)) (aZ names))) ((((((B0 && (ai f0 (!decide (chan = [])) (ah chan))) && (ai f1 (!decide (name = [])) NM)) && (ai f2 (!decide (label = [])) (ah label))) && (ai f7 (!decide (n6 = 0)) R)) && (ai f5 (!decide (n3 = 0)) (aZ names))) && (ai f3 (!NE) true)) u0 u6 u7 u9 jI jJ jk jl iW iY u16 jc jd je jL mW mX jM jB jG jH jQ jR jS jT jU u32 jV jW jX jY jZ ku kw kz kC kD kE kF kG kH kJ kK kL kM kN kP kQ kR kS kT kU kV kW kX kY kZ lg u64 lh lm lq lu lJ lK lL lM lN lQ lS lT lU lV lW lX lY lZ l9 mf mg mi mr mD mF lD lw mP nP nD oH oI oJ oK oL dE dF dG dH dI dJ dK dL dM dN dO bP bQ bT bU bV bW bY bZ cu cO cZ dh di dw dC dD gJ gK gQ gU gV fO fP fQ fU fV fZ gp gq gu gy gB gG gI eu eF eG eH eP eQ eU eX eY fA fB fC fD fE fF fG fH dS dU dV dW dX dY dZ ed iq iw iy iC iD iE iF iG iH iI iJ iK iL iM iO iP iQ iR iT iU _ _ (fun _ _ d _ _ h => by cases d <;> exact h) hlc hll hl3 hln hne hnt hn3 hS4 (fun w5 hS5 => ?_)
 refine shape_p4 kind chan name label xk xn xs xv xt af exprs names tk ts tn tl ag labels kids A1 n1 c1 A2 n2 c2 A3 n3 c3 A4 n4 c4 A5 n5 c5 A6 n6 c6 A7 n7 c7 wz b q f0 f1 f2 f3 f4 f5 f6 f7 f8 B0 R NM NE NT  (B0 && (ai f0 (!decide (chan = [])) (ah chan))) ((B0 && (ai f0 (!decide (chan = [])) (ah chan))) && (ai f1 (!decide (name = [])) NM)) (((B0 && (ai f0 (!decide (chan = [])) (ah chan))) && (ai f1 (!decide (name = [])) NM)) && (ai f2 (!decide (label = [])) (ah label))) ((((B0 && (ai f0 (!decide (chan = [])) (ah chan))) && (ai f1 (!decide (name = [])) NM)) && (ai f2 (!decide (label = [])) (ah label))) && (ai f7 (!decide (n6 = 0)) R)) (((((B0 && (ai f0 (!decide (chan = [])) (ah chan))) && (ai f1 (!decide (name = [])) NM)) && (ai f2 (!decide (label = [])) (ah label))) && (ai f7 (!decide (n6 = 0)) R)) && (ai f5 (!decide (n3 = 0)) (aZ names))) ((((((B0 && (ai f0 (!decide (chan = [])) (ah chan))) && (ai f1 (!decide (name = [])) NM)) && (ai f2 (!decide (label = [])) (ah label))) && (ai f7 (!decide (n6 = 0)) R)) && (ai f5 (!decide (n3 = 0)) (aZ names))) && (ai f3 (!NE) true)) (((((((B0 && (ai f0 (!decide (chan = [])) (ah chan))) && (ai f1 (!decide (name = [])) NM)) && (ai f2 (!decide (label = [])) (ah label))) && (ai f7 (!decide (n6 = 0)) R)) && (ai f5 (!decide (n3 = 0)) (aZ names))) && (ai f3 (!NE) true)) && (ai f4 (!decide (n2 = 0)) (decide (n2 ≤ 6)))) u0 u6 u7 u9 jI jJ jk jl iW iY u16 jc jd je jL mW mX jM jB jG jH jQ jR jS jT jU u32 jV jW jX jY jZ ku kw kz kC kD kE kF kG kH kJ kK kL kM kN kP kQ kR kS kT kU kV kW kX kY kZ lg u64 lh lm lq lu lJ lK lL lM lN lQ lS lT lU lV lW lX lY lZ l9 mf mg mi mr mD mF lD lw mP nP nD oH oI oJ oK oL dE dF dG dH dI dJ dK dL dM dN dO bP bQ bT bU bV bW bY bZ cu cO cZ dh di dw dC dD gJ gK gQ gU gV fO fP fQ fU fV fZ gp gq gu gy gB gG gI eu eF eG eH eP eQ eU eX eY fA fB fC fD fE fF fG fH dS dU dV dW dX dY dZ ed iq iw iy iC iD iE iF iG iH iI iJ iK iL iM iO iP iQ iR iT iU _ _ (fun _ _ d _ _ h => by cases d <;> exact h) hlc hll hl3 hln hne hnt hn3 hS5 (fun w6 hS6 => ?_)
 refine shape_p5 (hnext:=?_) ..
 dsimp only
 obtain ⟨PZ,Ou⟩ : ∃ x,zh (.mk kind chan name label xk xn xs xv xt af exprs names tk ts tn tl ag labels kids) = x:=⟨_,rfl⟩
 rw [vU.out,Ou]
 have I9:=zH Ou
 have hbl:=chain hbw hS6.bl
 have hTl:=HT.out.below hS6.bl
 obtain ⟨bb,ff,hbz⟩:=id hS6
 have c10:=bb.c10
 have HS6:=zH hS6
 have Gs:=zH hbz
 clear Ou hbw hS0 hS2 hS3 hS4 hS5 hS6 hne hnt hn3 hln hbz bb ff vU
 clear w2 w3 w4 w5
 cases PZ with
 | false =>
  have hans : ANS = 1:=by rw [← hA.out]; unfold nU; rw [if_neg (by rw [I9.out]; decide)]
  have uK:=zH hans
  clear hans
  go_wp2_with fail
  go_ret
  exact ⟨by rw [uK.out]; rfl,hbl⟩
 | true =>
  have hans : ANS = if o8 exprs = 0 then if f3 = true ∧ lF (.mk xk xn xs xv xt af) ≠ 0 then lF (.mk xk xn xs xv xt af) else if f6 = true then pg (.mk tk ts tn tl ag) else 0 else o8 exprs:=by
   rw [← hA.out]
   unfold nU
   rw [if_pos I9.out]
   have e : jw ((.mk kind chan name label xk xn xs xv xt af exprs names tk ts tn tl ag labels kids) : Pr).kind ((.mk kind chan name label xk xn xs xv xt af exprs names tk ts tn tl ag labels kids) : Pr).labels.length = (⟨f0,f1,f2,f3,f4,f5,f6,f7,f8⟩ : uN):=by rw [← hfr.out,N6.out]; rfl
   rw [e]
   rfl
  have uK:=zH hans
  clear hans
  have hn2m : n2 ≤ 1048576:=by have:=N2.out; omega
  go_wp2_with fail
  go_loopw [167] (fun i wr => ∃ k : Nat,k ≤ n2 ∧ i = .int .i64 k ∧ Hid (o8 exprs = o8 (exprs.drop k)) ∧ Below w6.heap.size w6 wr) (fun i _ => n2 - (intOf i).toNat)
  case atStart => exact ⟨0,by omega,rfl,zH rfl,Below.refl _ _⟩
  case round =>
   obtain ⟨k,hk,rfl,hs,hbq⟩:=hrel
   by_cases hlt : k < n2
   ·obtain ⟨c,hc'⟩ : ∃ y,exprs[k]? = some y:=⟨_,List.getElem?_eq_getElem (by have:=N2.out; omega)⟩
    have vY:=zH hc'
    have Qh:=hTl.below hbq
    obtain ⟨-,-,b',off,A9,n9,c9,rfl,-,y0,y1,y2,y3,y4,y5,hk'⟩:=pF ((HD2.out.below Gs.out).below hbq) hc'
    have rP:=zH hk'
    clear hk' hc'
    have hcf : bI 1048576 c:=HX.out c (az vY.out)
    obtain ⟨wa,mQ⟩ : ∃ y,wr.alloc (.cells #[.int .i64 c.kind,.string ⟨c.name.toArray⟩,.int .i64 c.vs,.int .i64 c.vn,.string ⟨c.vt.toArray⟩,.slice A9 n9 c9] 52) = y:=⟨_,rfl⟩
    have hba : Below wr.heap.size wr wa:=by subst mQ; exact (Below.refl _ _).alloc (Nat.le_refl _) _
    have hkb : jf wa wr.heap.size c (.slice A9 n9 c9):=by subst mQ; exact pG wr c _ _
    obtain ⟨k0,k1,k2,k3,k4,k5,k6,k7⟩:=id hkb
    have dP:=zH (yT c _ wa (rD (rP.out.below hba)) hcf (Qh.below hba))
    obtain ⟨E,hE⟩ : ∃ x,lF c = x:=⟨_,rfl⟩
    have hstep:=hs.out
    have hd : o8 (exprs.drop k) = if lF c = 0 then o8 (exprs.drop (k + 1)) else lF c:=by
     obtain ⟨h1,h2⟩:=List.getElem?_eq_some_iff.1 vY.out
     rw [List.drop_eq_getElem_cons h1,h2]
     rfl
    rw [hd,hE] at hstep
    rw [hE] at dP
    have HST:=zH hstep
    clear hstep hd hE hs
    by_cases he : E = 0
    ·have hE : (E != 0) = false:=by rw [bne_eq_false_iff_eq]; exact he
     have EX:=zH he
     clear he
     go_wp2_with fail
     try rw [mQ]
     clear mQ
     refine dP.out.mono ?_
     rintro e w7 ⟨rfl,hb7⟩
     go_wp2_with fail
     go_roundw
     case rel => exact ⟨k + 1,by omega,by go_num,zH (by rw [HST.out,if_pos EX.out]),chain hbq (chain hba hb7)⟩
     case measure => simp [intOf]; omega
    ·have hE : (E != 0) = true:=by rw [bne_iff_ne]; exact he
     have EX:=zH he
     clear he
     go_wp2_with fail
     try rw [mQ]
     clear mQ
     refine dP.out.mono ?_
     rintro e w7 ⟨rfl,hb7⟩
     go_wp2_with fail
     go_ret
     refine ⟨?_,chain hbl (chain hbq (chain hba hb7))⟩
     have h1 : o8 exprs = E:=by rw [HST.out,if_neg EX.out]
     rw [uK.out,if_neg (by rw [h1]; exact EX.out),h1]
     rfl
   ·have hk2 : k = n2:=by omega
    subst hk2
    have h0 : o8 exprs = 0:=by rw [hs.out,List.drop_eq_nil_of_le (by have:=N2.out; omega)]; rfl
    have hS7:=HS6.out.next hbq
    have Qh:=hTl.below hbq
    obtain ⟨bb,ff,hbz⟩:=id hS7
    obtain ⟨-,-,-,-,k0,k1,k2,k3,k4,k5,-,-,k6,k7,k8,k9,k10,-⟩:=id bb
    have cf3:=ff.c3
    have Jl:=ff.c6
    simp only [Pr.aN,Pr.aT,Pr.aI,Pr.aW,Pr.jm,Pr.jo,Pr.jq,Pr.jv,Pr.jr,Pr.aY,Pr.aV,Pr.aU,Pr.jg,Pr.ji,Pr.jh,Pr.jA,Pr.aX,Pr.aH,Pr.aK] at k0 k1 k2 k3 k4 k5 k6 k7 k8 k9 k10 cf3 Jl
    have hans:=uK.out
    rw [if_pos h0] at hans
    have uO:=zH hans
    clear hans h0
    have DT:=zH (yT (.mk xk xn xs xv xt af) (.agg #[.int .i64 xk,.string ⟨xn.toArray⟩,.int .i64 xs,.int .i64 xv,.string ⟨xt.toArray⟩,.slice A1 n1 c1]) wr (rD (t:=.mk xk xn xs xv xt af) ((HD1.out.below Gs.out).below hbq)) RQ.out Qh)
    have N8:=zH (mJ (t:=.mk tk ts tn tl ag) ((HD4.out.below Gs.out).below hbq).is ((HD5.out.keep (D':=All) (Same.below Gs.out) (fun _ _ _ => trivial)).keep (D':=All) (Same.below hbq) (fun _ _ _ => trivial)).is)
    cases f3 with
    | true =>
     obtain ⟨E,hE⟩ : ∃ x,lF (.mk xk xn xs xv xt af) = x:=⟨_,rfl⟩
     rw [hE] at DT uO
     clear hE
     by_cases he : E = 0
     ·have hE : (E != 0) = false:=by rw [bne_eq_false_iff_eq]; exact he
      have hans : ANS = if f6 = true then pg (.mk tk ts tn tl ag) else 0:=by rw [uO.out,if_neg (fun h => h.2 he)]
      have vz:=zH hans
      clear hans he
      cases f6 with
      | true =>
       go_wp2_with fail
       refine DT.out.mono ?_
       rintro e w7 ⟨rfl,hb7⟩
       have l0:=ae k6 hb7
       have l1:=ae k7 hb7
       have l2:=ae k8 hb7
       have l3:=ae k9 hb7
       have l4:=ae k10 hb7
       have l5:=ae Jl hb7
       go_wp2_with fail
       refine (xZ (.mk tk ts tn tl ag) _ _ (N8.out.keep hb7) P6.out).mono ?_
       rintro e w8 ⟨rfl,hb8⟩
       go_wp2_with fail
       go_ret
       exact ⟨by rw [vz.out]; rfl,chain hbl (chain hbq (chain hb7 hb8))⟩
      | false =>
       go_wp2_with fail
       refine DT.out.mono ?_
       rintro e w7 ⟨rfl,hb7⟩
       have l5:=ae Jl hb7
       go_wp2_with fail
       go_ret
       exact ⟨by rw [vz.out]; rfl,chain hbl (chain hbq hb7)⟩
     ·have hE : (E != 0) = true:=by rw [bne_iff_ne]; exact he
      have hans : ANS = E:=by rw [uO.out,if_pos ⟨rfl,he⟩]
      have vz:=zH hans
      clear hans he
      go_wp2_with fail
      refine DT.out.mono ?_
      rintro e w7 ⟨rfl,hb7⟩
      go_wp2_with fail
      go_ret
      exact ⟨by rw [vz.out]; rfl,chain hbl (chain hbq hb7)⟩
    | false =>
     have hans : ANS = if f6 = true then pg (.mk tk ts tn tl ag) else 0:=by rw [uO.out,if_neg (fun h => by cases h.1)]
     have vz:=zH hans
     clear hans
     cases f6 with
     | true =>
      go_wp2_with fail
      refine (xZ (.mk tk ts tn tl ag) _ _ N8.out P6.out).mono ?_
      rintro e w8 ⟨rfl,hb8⟩
      go_wp2_with fail
      go_ret
      exact ⟨by rw [vz.out]; rfl,chain hbl (chain hbq hb8)⟩
     | false =>
      go_wp2_with fail
      go_ret
      exact ⟨by rw [vz.out]; rfl,chain hbl hbq⟩
end Go.Proofs.YtpidjanngbaiiaaGreatDoor
