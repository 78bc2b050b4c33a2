/-
  PrRs23 PrRs17 PrRs12 PrRs10 PrRs9 PrRs BgM
-/
import Derived.Test.YtpidjanngbaiiaaGreatDoorM20
import Derived.Test.YtpidjanngbaiiaaGreatDoorM17
import Derived.Test.YtpidjanngbaiiaaGreatDoorM11
namespace Go.Proofs.YtpidjanngbaiiaaGreatDoor
open Go.RowKit Go.Proofs
set_option maxRecDepth 100000
set_option maxHeartbeats 32000000

theorem rs_23 (l : List Df) (j : Nat) (A : Option Addr) (c : Nat) (w wz : World) (g : Nat) (ANS : Int) (q : Nat) (cs : List Value) (d : Df) (n0 : Nat) {u0 u2 u6 u7 u8 u9 jI jJ jk jl iW iY u16 jc jd je jL mW mX jM jB jG jH jQ jR jS jT jU u32 jV jW jX jY jZ ku kw kz kC kD kE kF kG kH kJ kK kL kM kN kP kQ kR kS kT kU kV kW kX kY kZ lg u64 lh lm lq lu lJ lK lL lM lN lQ lS lT lU lV lW lX lY lZ l9 mf mg mi mr mD mF lD lw mP nP nD oH oI oJ oK oL dE dF dG dH dI dJ dK dL dM dN dO bP bQ bT bU bV bW bY bZ cu cO cZ dh di dw dC dD : Value} (N : Act → World → Prop) (Qx : Exit → Act → World → Prop) (hw : ET w wz g l A c) (hd : LH wz q cs d) (hf : oh 1048576 d) (hn0 : n0 ≤ 200) (HA : Hid ((if (mG d.body ((200 - n0 : Nat) : Int)).1 = 0 then nS (l.drop (j + 1)) (mG d.body ((200 - n0 : Nat) : Int)).2 else (mG d.body ((200 - n0 : Nat) : Int)).1) = ANS)) (hN : BZ u0 jk jl iW iY u16 jc jd je jL mW mX jM jB jG jH l j A c w g ANS N)
  (hQ : ∀ a w',(bodyPost Tryz.prog Tryz.f13 (fun e w' => e = .returned (.int .i64 ANS) ∧ Below w.heap.size w w')) Exit.ret a w' → Qx Exit.ret a w') (hP : ∀ c (a : Act) i (v : Value) w,Qx (Exit.panic c) (a.put i v) w → Qx (Exit.panic c) a w) :
  Code.wp Tryz.prog Nq (Exit.then N Qx) { tmps:=#[u0,.pointer (some ⟨g,0,none⟩),u2,.int .i64 n0,.int .i64 j,.pointer (some ⟨q,0,none⟩),u6,u7,u8,u9,jI,jJ,jk,jl,iW,iY,u16,jc,jd,je,jL,mW,mX,jM,jB,jG,jH,jQ,jR,jS,jT,jU,u32,jV,jW,jX,jY,jZ,ku,kw,kz,kC,kD,kE,kF,kG,kH,kJ,kK,kL,kM,kN,kP,kQ,kR,kS,kT,kU,kV,kW,kX,kY,kZ,lg,u64,lh,lm,lq,lu,lJ,lK,lL,lM,lN,lQ,lS,lT,lU,lV,lW,lX,lY,lZ,l9,mf,mg,mi,mr,mD,mF,lD,lw,mP,nP,nD,oH,oI,oJ,oK,oL,dE,dF,dG,dH,dI,dJ,dK,dL,dM,dN,dO,bP,bQ,bT,bU,bV,bW,bY,bZ,cu,cO,cZ,dh,di,dw,dC,dD],defers:=[] } wz:=by
 have h : Nq = Code.seq _ _:=rfl
 rw [h]
 clear h
 have HN:=zH hN
 have HQ:=zH hQ
 have HP:=zH hP
 have HW:=zH hw
 have HD:=zH hd
 have HF:=zH hf
 clear hN hQ hP hw hd hf
 obtain ⟨v1,v2,v3,v4,ps,rfl,g1,g2,g3,g4,g5⟩:=id HD.out.dc
 have hpl : ps.length = 19:=g5.len
 have MW:=zH g5
 have hrg : wz.rangeAt q 5 ps:=fun i v hi => by
  have:=HD.out.bx.rg (i + 5) v (by simpa using hi)
  rwa [show 0 + (i + 5) = 5 + i by omega] at this
 have DN:=zH hrg
 clear g1 g2 g3 g4 g5 hrg
 obtain ⟨R,hR⟩ : ∃ x,uP (200 - n0) [d.body] = x:=⟨_,rfl⟩
 have h1:=listP_one d.body (200 - n0)
 rw [hR] at h1
 have UJ : R.1 = 0 → nS (l.drop (j + 1)) (R.2 : Int) = ANS:=by
  intro h0
  have:=HA.out
  rw [← h1.1,if_pos h0,← h1.2 (by rw [← h1.1]; exact h0)] at this
  exact this
 have Qa : R.1 ≠ 0 → R.1 = ANS:=by
  intro h0
  have:=HA.out
  rw [← h1.1,if_neg h0] at this
  exact this
 have vU:=zH UJ
 have HBAD:=zH Qa
 have HR0:=zH hR
 clear UJ Qa hR h1 HA
 go_wp2_with (first | (refine jb DN.out hpl rfl (.tmp 103) rfl rfl ?_) | (refine wpList_build1 Hg rfl (.tmp 104) rfl ps hpl (by omega) rfl ?_))
 obtain ⟨W,hW⟩ : ∃ y,wz.alloc (.cells ps.toArray 85) = y:=⟨_,rfl⟩
 have hbW : Below wz.heap.size wz W:=by subst hW; exact (Below.refl _ _).alloc (Nat.le_refl _) _
 have hst : yC All W (.slice (some ⟨wz.heap.size,0,none⟩) 1 1) [d.body]:=by
  have hb:=rZ wz ps ps.toArray 85 (by simp)
  rw [hW] at hb
  refine ⟨_,1,rfl,by simp,(fun e => by cases e),fun _ => ⟨wz.heap.size,0,rfl,trivial,yQ.of_range hb.rg (MW.out.keep (Same.below hbW) fun _ h _ => h),trivial⟩⟩
 have yB:=zH hbW
 try rw [hW]
 clear hW
 go_loopw [3,9] (fun iv v wr => ∃ (k : Nat) (st : List Pr),k ≤ 200 ∧ iv = .int .i64 k ∧ yC All wr v st ∧ Hid (∀ t ∈ st,bF 1048576 t) ∧ st.length ≤ 1048576 * (k + 1) ∧ Below wz.heap.size wz wr ∧ Hid (uP (200 - k) st = R)) (fun iv _ _ => 201 - (intOf iv).toNat)
 case atStart => exact ⟨n0,[d.body],by omega,rfl,hst,zH (fun t ht => by rw [List.mem_singleton.1 ht]; exact HF.out.2.2.2.2.2.2.2.2.2),by simp; omega,hbW,HR0⟩
 case round =>
  clear hst hbW
  obtain ⟨k,st,hk,rfl,hst,PH,hlen,hbw,HL⟩:=hrel
  have HST:=zH hst
  obtain ⟨A0,cap,rfl,hc1,hc2,hc3⟩:=hst
  cases st with
  | nil =>
   clear hc1 hc2 hc3
   have hend : R = (0,200 - k):=by rw [← HL.out]; cases (200 - k) <;> rfl
   have HE:=zH (vU.out (by rw [hend]))
   rw [hend] at HE
   go_wp2_with fail
   exact HN.out wr k (HW.out.next hbw) hk HE _ _ _ _ _ _ _ _ _ _ _ _ _ _ _ _ _ _ _ _ _ _ _ _ _ _ _ _ _ _ _ _ _ _ _ _ _ _ _ _ _ _ _ _ _ _ _ _ _ _ _ _ _ _ _ _ _ _ _ _ _ _ _ _ _ _ _ _ _ _ _ _ _ _ _ _ _ _ _ _ _ _ _ _ _ _ _ _ _ _ _ _ _ _ _ _ _ _ _ _ _ _ _ _ _ _ _ _ 
  | cons u r =>
   simp only [List.length_cons] at hc1 hlen ⊢
   obtain ⟨b,off,rfl,-,hrow⟩:=hc3 (by simp)
   simp only [qR] at hrow
   obtain ⟨cs,hrg,hcs⟩:=hrow.1.range
   obtain ⟨A1,n1,p1,h18,hk'⟩:=hcs.kids_at
   have hcl:=hcs.len
   have L8:=zH hrg
   have NJ:=zH hcs
   have H18:=zH h18
   have HK:=zH hk'
   have NV:=zH hcs.one
   clear hc2 hc3 hrow hrg hcs h18
   obtain ⟨M,hM⟩ : ∃ M,r.length + 1 = M:=⟨_,rfl⟩
   have HM:=zH hM
   simp only [List.length_cons] at HST
   rw [hM] at hc1 hlen HST ⊢
   have hM0 : 0 < M:=by omega
   have hM1 : M ≤ 9223372036854775807:=by omega
   clear hM
   obtain ⟨hn1,-,-,-⟩:=hk'.src
   have hfu : bF 1048576 u:=PH.out u (by simp)
   have QL : u.kids.length ≤ 1048576:=hfu.parts.2.2.2.2.2.2.2.2.2.2.2.2.2.2.2.2.2.2.2.2.2.2.2.2.1
   have hn1' : n1 ≤ 1048576:=by omega
   have Gm:=zH hn1
   have Eu:=zH hfu
   clear hn1 hfu QL hk'
   go_wp2_with (first | (refine jb L8.out hcl rfl (.tmp 110) rfl rfl ?_) | (refine wY (rZ _ _ _ _ rfl) rfl hcl NV.out rfl (.tmp 10) (.tmp 111) rfl rfl rfl ?_; intro wa hbx hbel; have hbW:=hbel _ _ (Nat.le_refl _) ((Below.refl wr.heap.size wr).alloc (Nat.le_refl _) _); have zY:=zH hbx; have DL:=zH hbW; clear hbx hbel hbW))
   have k18:=zY.out.at_ H18.out
   have hS : ∀ w' : World,Below wa.heap.size wa w' → (fun w' : World => w'.cell? ⟨wr.heap.size,18,none⟩ = some (.slice A1 n1 p1)) w':=fun w' h => ae k18 h
   have bC:=zH (hS wa.drew (Below.refl _ _).drew)
   have jE:=zH hS
   clear hS k18
   obtain ⟨so,n2,c2,Tz,hR,hn2⟩ : ∃ so n2 c2,Hid ((cap = 1 ∧ M = 1 ∧ so = off ∧ n2 = 0 ∧ c2 = 0) ∨ (cap ≠ 1 ∧ so = off + 19 ∧ n2 = M - 1 ∧ c2 = cap - 1)) ∧ yC All wr (.slice (some ⟨b,so,none⟩) n2 c2) r ∧ n2 = M - 1:=by
    by_cases hcap : cap = 1
    ·have Ot : M = 1:=by omega
     have hr : r = []:=List.eq_nil_of_length_eq_zero (by have:=HM.out; omega)
     exact ⟨off,0,0,Or.inl ⟨hcap,Ot,rfl,rfl,rfl⟩,by rw [hr]; exact ⟨_,0,rfl,Nat.le_refl _,(fun e => by cases e),fun h => by simp at h⟩,by omega⟩
    ·refine ⟨off + 19,M - 1,cap - 1,Or.inr ⟨hcap,rfl,rfl,rfl⟩,?_,rfl⟩
     have h1:=HM.out
     have:=yC.tail (c:=cap - 1) HST.out (by omega)
     rw [show r.length = M - 1 by omega] at this
     exact this
   have hn2' : n2 ≤ M:=by omega
   have I7:=zH hn2
   have HR:=zH hR
   clear hR hn2
   refine aC 6 (fun w' : World => w'.cell? ⟨wr.heap.size,18,none⟩ = some (.slice A1 n1 p1)) (by kernel_rfl) ?_
   refine jF (i:=0) (v:=?_) rfl (by kernel_rfl) (by kernel_rfl) (by kernel_rfl) (by kernel_rfl) (fun _ _ _ h => HP.out _ _ _ _ _ h) (Or.inl ⟨by rfl,?_⟩) bC.out ?_
   rotate_left
   ·(intro wq hSw; have q0 : wq.cell? ⟨wr.heap.size,18,none⟩ = some (.slice A1 n1 p1):=hSw; go_simp; all_goals (first | (with_reducible rfl) | (rw [if_pos (by omega)]; done) | (rw [if_neg (by omega)]; done) | skip))
   try simp only [zA,zB,zC,Act.put,zD,zE,zF]
   refine jF (i:=1) (v:=?_) rfl (by kernel_rfl) (by kernel_rfl) (by kernel_rfl) (by kernel_rfl) (fun _ _ _ h => HP.out _ _ _ _ _ h) (Or.inl ⟨by rfl,?_⟩) bC.out ?_
   rotate_left
   ·(intro wq hSw; have q0 : wq.cell? ⟨wr.heap.size,18,none⟩ = some (.slice A1 n1 p1):=hSw; go_simp; all_goals (first | (with_reducible rfl) | (rw [if_pos (by omega)]; done) | (rw [if_neg (by omega)]; done) | skip))
   try simp only [zA,zB,zC,Act.put,zD,zE,zF]
   refine jF (i:=3) (v:=?_) rfl (by kernel_rfl) (by kernel_rfl) (by kernel_rfl) (by kernel_rfl) (fun _ _ _ h => HP.out _ _ _ _ _ h) (Or.inl ⟨by rfl,?_⟩) bC.out ?_
   rotate_left
   ·(intro wq hSw; have q0 : wq.cell? ⟨wr.heap.size,18,none⟩ = some (.slice A1 n1 p1):=hSw; go_simp; all_goals (first | (with_reducible rfl) | (rw [if_pos (by omega)]; done) | (rw [if_neg (by omega)]; done) | skip))
   try simp only [zA,zB,zC,Act.put,zD,zE,zF]
   refine jF (i:=4) (v:=(.slice (some ⟨b,so,none⟩) n2 c2)) rfl (by kernel_rfl) (by kernel_rfl) (by kernel_rfl) (by kernel_rfl) (fun _ _ _ h => HP.out _ _ _ _ _ h) (Or.inl ⟨by rfl,?_⟩) bC.out ?_
   ·intro wq hSw
    rcases Tz.out with ⟨h1,h2,h3,h4,h5⟩ | ⟨h1,h3,h4,h5⟩
    ·subst h1 h2 h3 h4 h5
     go_simp
    ·subst h3 h4 h5
     have h6 : 1 ≤ M:=hM0
     go_simp
     all_goals (first | (intro hh; omega) | (rw [if_pos (by omega)]; done) | (rw [if_neg (by omega)]; done))
   try simp only [zA,zB,zC,Act.put,zD,zE,zF]
   have hbd : Below wr.heap.size wr wa.drew:=DL.out.drew
   obtain ⟨-,-,hz1,O5,G7,hsrc1⟩:=((HK.out.below hbd).keep (D':=(· < wa.heap.size)) (Same.refl _ _) (fun b _ h => h)).src
   have N9:=zH G7
   have Jz : O5.length = n1 * 19:=by have:=G7.length; have:=Gm.out; omega
   clear G7
   refine zO 2 fun K hK => ?_
   refine o6 Hg rfl (.const (.slice none 0 0)) (.tmp 113) rfl wa.heap.size _ 0 [] rfl (World.ownsRow_nil _ _ _ _) A1 n1 p1 rfl O5 Jz hz1 hsrc1 N9.out.one (by unfold maxLen; omega) (by omega) (Nat.le_refl _) (fun v1 w2 o1 o2 => ?_)
   have hb2 : Below wa.heap.size wa w2:=(Below.refl _ _ : Below wa.heap.size wa wa).drew.trans o2
   simp only [Nat.zero_add,List.nil_append] at o1
   obtain ⟨A5,c5,rfl⟩:=bg o1
   refine hK.out _ _ (fun _ => jE.out w2 hb2) ?_
   clear hK K
   try simp only [zA,zB,zC,Act.put,zD,zE,zF]
   have Jr : Below wr.heap.size wr w2:=chain DL.out hb2
   obtain ⟨-,-,hz2,RP,G8,FP⟩:=((HR.out.keep (D':=(· < wr.heap.size)) (Same.refl _ _) (fun b _ h => h)).below Jr).src
   have Oa:=zH G8
   have JA : RP.length = n2 * 19:=by have:=G8.length; have:=HM.out; have:=I7.out; omega
   clear G8
   refine zO 5 fun K hK => ?_
   refine o6 Hg rfl (.tmp 114) (.tmp 116) rfl wa.heap.size (.slice A5 n1 c5) n1 O5 rfl o1 (some ⟨b,so,none⟩) n2 c2 rfl RP JA hz2 FP Oa.out.one (by unfold maxLen; omega) (by omega) (by have:=hb2.size; omega) (fun v3 w4 o3 o4 => ?_)
   have hb4 : Below wa.heap.size wa w4:=hb2.trans o4
   obtain ⟨A6,c6,rfl⟩:=bg o3
   refine hK.out _ _ (fun _ => jE.out w4 hb4) ?_
   clear hK K
   try simp only [zA,zB,zC,Act.put,zD,zE,zF]
   refine zO 6 fun K hK => ?_
   go_simp
   refine hK.out _ _ (fun h => absurd h (by decide)) ?_
   clear hK K
   try simp only [zA,zB,zC,Act.put,zD,zE,zF]
   refine bf (by kernel_rfl) ?_
   have Qe : yC All w4 (.slice A6 (n1 + n2) c6) (u.kids ++ r):=by
    have hl : (u.kids ++ r).length = n1 + n2:=by rw [List.length_append]; have:=Gm.out; have:=HM.out; have:=I7.out; omega
    have h1:=N9.out.keep (D':=All) (w':=w4) (fun b hD _ => hb4.block b hD) (fun _ _ _ => trivial)
    have h2:=Oa.out.keep (D':=All) (w':=w4) (fun b hD _ => o4.block b (by have:=DL.out.size; have hD' : b < wr.heap.size:=hD; omega)) (fun _ _ _ => trivial)
    rw [← hl] at o3 ⊢
    exact own_prs o3 (h1.append h2) (fun _ _ => trivial)
   have mV:=zH Qe
   have HB4:=zH (chain DL.out hb4)
   have QA:=zY.out.keep hb4 zY.out.lt
   have PE:=zH QA
   clear Qe o1 o3 o2 o4 hb2 hb4 Jr hz1 hz2 hsrc1 FP Jz JA N9 Oa jE bC hbd QA
   obtain ⟨Z,hZ⟩ : ∃ Z,n1 + n2 = Z:=⟨_,rfl⟩
   rw [hZ] at mV ⊢
   have hZb : Z ≤ 1048576 * (k + 1 + 1):=by omega
   have Qi : (u.kids ++ r).length = Z:=by rw [List.length_append]; have:=Gm.out; have:=HM.out; have:=I7.out; omega
   have Ob:=zH Qi
   have Il : Hid (∀ t ∈ u.kids ++ r,bF 1048576 t):=by
    intro t ht
    rcases List.mem_append.1 ht with h | h
    ·exact Eu.out.parts.2.2.2.2.2.2.2.2.2.2.2.2.2.2.2.2.2.2.2.2.2.2.2.2.2 t h
    ·exact PH.out t (List.mem_cons_of_mem _ h)
   clear hZ Qi
   by_cases wu : k = 200
   ·have HE : Hid (ANS = 2):=by
     have:=HL.out
     rw [wu] at this
     rw [← HBAD.out (by rw [← this]; show (2 : Int) ≠ 0; decide),← this]
     rfl
    subst wu
    go_wp2_with fail
    refine HQ.out _ _ ?_
    go_ret
    exact ⟨by rw [HE.out]; rfl,(HW.out.next (chain hbw HB4.out)).bl⟩
   ·have hk199 : k ≤ 199:=by omega
    have hlt : ¬ (200 < (k : Int) + 1):=by omega
    have hstep:=HL.out
    rw [show 200 - k = (199 - k) + 1 by omega,listP_cons] at hstep
    obtain ⟨E,hE⟩ : ∃ x,nU u = x:=⟨_,rfl⟩
    have hcall:=refAlone_any u (.agg cs.toArray) w4 ((NJ.out.keep (Same.below HB4.out) (fun _ h _ => h)).all) Eu.out ((HW.out.next (chain hbw HB4.out)).tb)
    rw [hE] at hstep hcall
    have PW:=zH hstep
    have HC:=zH hcall
    clear hstep hcall hE wu
    by_cases he : E = 0
    ·have hE : (E != 0) = false:=by rw [bne_eq_false_iff_eq]; exact he
     have hnx : uP (200 - (k + 1)) (u.kids ++ r) = R:=by have:=PW.out; rw [if_pos he] at this; rw [show 200 - (k + 1) = 199 - k by omega]; exact this
     have NU:=zH hnx
     clear he hnx
     go_wp2_with (first | (refine jb PE.out.rg hcl rfl (.tmp 10) rfl rfl ?_))
     refine HC.out.mono ?_
     rintro e w5 ⟨rfl,hb5⟩
     go_wp2_with fail
     go_roundw
     case rel => exact ⟨k + 1,u.kids ++ r,by omega,by go_num,mV.out.below hb5,Il,by have:=Ob.out; omega,chain hbw (chain HB4.out hb5),NU⟩
     case measure => simp [intOf]; omega
    ·have hE : (E != 0) = true:=by rw [bne_iff_ne]; exact he
     have hnx : E = ANS:=by
      have h1:=PW.out
      rw [if_neg he] at h1
      have:=HBAD.out (by rw [← h1]; exact he)
      rw [← h1] at this
      exact this
     have NU:=zH hnx
     clear he hnx
     go_wp2_with (first | (refine jb PE.out.rg hcl rfl (.tmp 10) rfl rfl ?_))
     refine HC.out.mono ?_
     rintro e w5 ⟨rfl,hb5⟩
     go_wp2_with fail
     refine HQ.out _ _ ?_
     go_ret
     exact ⟨by rw [NU.out]; rfl,(HW.out.next (chain hbw (chain HB4.out hb5))).bl⟩
theorem rs_17 (l : List Df) (j : Nat) (A : Option Addr) (c : Nat) (w wz : World) (g : Nat) (ANS : Int) (q : Nat) (cs : List Value) (d : Df) (n0 : Nat) {u0 u2 u6 u7 u8 u9 jI jJ jk jl iW iY u16 jc jd je jL mW mX jM jB jG jH jQ jR jS jT jU u32 jV jW jX jY jZ ku kw kz kC kD kE kF kG kH kJ kK kL kM kN kP kQ kR kS kT kU kV kW kX kY kZ lg u64 lh lm lq lu lJ lK lL lM lN lQ lS lT lU lV lW lX lY lZ l9 mf mg mi mr mD mF lD lw mP nP nD oH oI oJ oK oL dE dF dG dH dI dJ dK dL dM dN dO bP bQ bT bU bV bW bY bZ cu cO cZ dh di dw dC dD : Value} (N : Act → World → Prop) (Qx : Exit → Act → World → Prop) (hw : ET w wz g l A c) (hd : LH wz q cs d) (hf : oh 1048576 d) (hn0 : n0 ≤ 200) (HA : Hid ((if nC d.types = 0 then if (mG d.body ((200 - n0 : Nat) : Int)).1 = 0 then nS (l.drop (j + 1)) (mG d.body ((200 - n0 : Nat) : Int)).2 else (mG d.body ((200 - n0 : Nat) : Int)).1 else nC d.types) = ANS)) (hN : BZ u0 jk jl iW iY u16 jc jd je jL mW mX jM jB jG jH l j A c w g ANS N)
  (hQ : ∀ a w',(bodyPost Tryz.prog Tryz.f13 (fun e w' => e = .returned (.int .i64 ANS) ∧ Below w.heap.size w w')) Exit.ret a w' → Qx Exit.ret a w') (hP : ∀ c (a : Act) i (v : Value) w,Qx (Exit.panic c) (a.put i v) w → Qx (Exit.panic c) a w) :
  Code.wp Tryz.prog JP (Exit.then N Qx) { tmps:=#[u0,.pointer (some ⟨g,0,none⟩),u2,.int .i64 n0,.int .i64 j,.pointer (some ⟨q,0,none⟩),u6,u7,u8,u9,jI,jJ,jk,jl,iW,iY,u16,jc,jd,je,jL,mW,mX,jM,jB,jG,jH,jQ,jR,jS,jT,jU,u32,jV,jW,jX,jY,jZ,ku,kw,kz,kC,kD,kE,kF,kG,kH,kJ,kK,kL,kM,kN,kP,kQ,kR,kS,kT,kU,kV,kW,kX,kY,kZ,lg,u64,lh,lm,lq,lu,lJ,lK,lL,lM,lN,lQ,lS,lT,lU,lV,lW,lX,lY,lZ,l9,mf,mg,mi,mr,mD,mF,lD,lw,mP,nP,nD,oH,oI,oJ,oK,oL,dE,dF,dG,dH,dI,dJ,dK,dL,dM,dN,dO,bP,bQ,bT,bU,bV,bW,bY,bZ,cu,cO,cZ,dh,di,dw,dC,dD],defers:=[] } wz:=by
 have h : JP = Code.seq _ _:=rfl
 rw [h]
 clear h
 have HN:=zH hN
 have HQ:=zH hQ
 have HP:=zH hP
 have HW:=zH hw
 have HD:=zH hd
 have HF:=zH hf
 clear hN hQ hP hw hd hf
 obtain ⟨v1,v2,v3,v4,ps,rfl,g1,g2,g3,g4,g5⟩:=id HD.out.dc
 obtain ⟨At,ct,rfl,hct,-⟩:=id g4
 have IZ:=zH g4
 have k4:=HD.out.bx.at_ (j:=4) rfl
 have hty : d.types.length ≤ 1048576:=HF.out.2.2.2.2.2.2.2.1
 obtain ⟨n,hn⟩ : ∃ n,d.types.length = n:=⟨_,rfl⟩
 have ru:=zH hn
 rw [hn] at hct hty k4
 have IZ : Hid (qZ All wz (.slice At n ct) d.types):=zH (by rw [← hn]; exact IZ.out)
 have K4:=zH k4
 clear g1 g2 g3 g4 g5 hn k4
 go_step
 rename_i K8 h8
 have H8:=zH h8
 clear h8
 go_wp2_with fail
 go_loopw [7] (fun i wr => ∃ k : Nat,k ≤ n ∧ i = .int .i64 k ∧ Hid (nC d.types = nC (d.types.drop k)) ∧ Below wz.heap.size wz wr) (fun i _ => n - (intOf i).toNat)
 case atStart => exact ⟨0,by omega,rfl,zH rfl,Below.refl _ _⟩
 case round =>
  obtain ⟨k,hk,rfl,hs,hbq⟩:=hrel
  have k4:=ae K4.out hbq
  by_cases hlt : k < n
  ·obtain ⟨t,ht⟩ : ∃ y,d.types[k]? = some y:=⟨_,List.getElem?_eq_getElem (by have:=ru.out; omega)⟩
   have HC:=zH ht
   obtain ⟨-,-,b',off,A1,n1,c1,A2,n2,c2,rfl,-,y0,y1,y2,y3,y4,hL,hK⟩:=qi (IZ.out.keep (Same.below hbq) (fun _ h _ => h)) ht
   have htf : Fit t:=HF.out.2.2.2.2.2.2.2.2.1 t (az HC.out)
   have dP:=zH (xR t (.agg #[.int .i64 t.kind,.int .i64 t.sort,.string ⟨t.name.toArray⟩,.slice A1 n1 c1,.slice A2 n2 c2]) wr ⟨_,_,rfl,hL.is,hK.is⟩ htf)
   obtain ⟨E,hE⟩ : ∃ x,pg t = x:=⟨_,rfl⟩
   have hstep:=hs.out
   rw [Bh HC.out,hE] at hstep
   rw [hE] at dP
   have HST:=zH hstep
   clear hstep hE hs ht hL hK htf
   by_cases he : E = 0
   ·have hE : (E != 0) = false:=by rw [bne_eq_false_iff_eq]; exact he
    have EX:=zH he
    clear he
    go_wp2_with fail
    refine dP.out.mono ?_
    rintro e w7 ⟨rfl,hb7⟩
    go_wp2_with fail
    go_roundw
    case rel => exact ⟨k + 1,by omega,by go_num,zH (by rw [HST.out,if_pos EX.out]),chain hbq hb7⟩
    case measure => simp [intOf]; omega
   ·have hE : (E != 0) = true:=by rw [bne_iff_ne]; exact he
    have hnx : E = ANS:=by
     have h1:=HST.out
     rw [if_neg he] at h1
     have:=HA.out
     rwa [h1,if_neg he] at this
    have mV:=zH hnx
    clear he hnx
    go_wp2_with fail
    refine dP.out.mono ?_
    rintro e w7 ⟨rfl,hb7⟩
    go_wp2_with fail
    refine HQ.out _ _ ?_
    go_ret
    exact ⟨by rw [mV.out]; rfl,(HW.out.next (chain hbq hb7)).bl⟩
  ·have hkn : k = n:=by omega
   subst hkn
   have h0' : nC d.types = 0:=by rw [hs.out,List.drop_eq_nil_of_le (by have:=ru.out; omega)]; rfl
   have ha2:=HA.out
   rw [if_pos h0'] at ha2
   have HA2:=zH ha2
   clear hs h0' ha2 HA
   go_wp2_with fail
   refine H8.out _ _ ?_
   clear H8
   exact rs_23 l j A c w wr g ANS q _ d n0 N Qx (HW.out.next hbq) (HD.out.next hbq) HF.out hn0 HA2 HN.out HQ.out HP.out
theorem rs_12 (l : List Df) (j : Nat) (A : Option Addr) (c : Nat) (w wz : World) (g : Nat) (ANS : Int) (q : Nat) (cs : List Value) (d : Df) (n0 : Nat) {u0 u2 u6 u7 u8 u9 jI jJ jk jl iW iY u16 jc jd je jL mW mX jM jB jG jH jQ jR jS jT jU u32 jV jW jX jY jZ ku kw kz kC kD kE kF kG kH kJ kK kL kM kN kP kQ kR kS kT kU kV kW kX kY kZ lg u64 lh lm lq lu lJ lK lL lM lN lQ lS lT lU lV lW lX lY lZ l9 mf mg mi mr mD mF lD lw mP nP nD oH oI oJ oK oL dE dF dG dH dI dJ dK dL dM dN dO bP bQ bT bU bV bW bY bZ cu cO cZ dh di dw dC dD : Value} (N : Act → World → Prop) (Qx : Exit → Act → World → Prop) (hw : ET w wz g l A c) (hd : LH wz q cs d) (hf : oh 1048576 d) (hn0 : n0 ≤ 200) (HA : Hid ((if mO d.sorts = true then if nC d.types = 0 then if (mG d.body ((200 - n0 : Nat) : Int)).1 = 0 then nS (l.drop (j + 1)) (mG d.body ((200 - n0 : Nat) : Int)).2 else (mG d.body ((200 - n0 : Nat) : Int)).1 else nC d.types else 1) = ANS)) (hN : BZ u0 jk jl iW iY u16 jc jd je jL mW mX jM jB jG jH l j A c w g ANS N)
  (hQ : ∀ a w',(bodyPost Tryz.prog Tryz.f13 (fun e w' => e = .returned (.int .i64 ANS) ∧ Below w.heap.size w w')) Exit.ret a w' → Qx Exit.ret a w') (hP : ∀ c (a : Act) i (v : Value) w,Qx (Exit.panic c) (a.put i v) w → Qx (Exit.panic c) a w) :
  Code.wp Tryz.prog JO (Exit.then N Qx) { tmps:=#[u0,.pointer (some ⟨g,0,none⟩),u2,.int .i64 n0,.int .i64 j,.pointer (some ⟨q,0,none⟩),u6,u7,u8,u9,jI,jJ,jk,jl,iW,iY,u16,jc,jd,je,jL,mW,mX,jM,jB,jG,jH,jQ,jR,jS,jT,jU,u32,jV,jW,jX,jY,jZ,ku,kw,kz,kC,kD,kE,kF,kG,kH,kJ,kK,kL,kM,kN,kP,kQ,kR,kS,kT,kU,kV,kW,kX,kY,kZ,lg,u64,lh,lm,lq,lu,lJ,lK,lL,lM,lN,lQ,lS,lT,lU,lV,lW,lX,lY,lZ,l9,mf,mg,mi,mr,mD,mF,lD,lw,mP,nP,nD,oH,oI,oJ,oK,oL,dE,dF,dG,dH,dI,dJ,dK,dL,dM,dN,dO,bP,bQ,bT,bU,bV,bW,bY,bZ,cu,cO,cZ,dh,di,dw,dC,dD],defers:=[] } wz:=by
 have h : JO = Code.seq _ _:=rfl
 rw [h]
 clear h
 have HN:=zH hN
 have HQ:=zH hQ
 have HP:=zH hP
 have HW:=zH hw
 have HD:=zH hd
 have HF:=zH hf
 clear hN hQ hP hw hd hf
 obtain ⟨v1,v2,v3,v4,ps,rfl,g1,g2,g3,g4,g5⟩:=id HD.out.dc
 obtain ⟨At,ct,rfl,hct,-⟩:=id g2
 have HG2:=zH g2
 have k2:=HD.out.bx.at_ (j:=2) rfl
 have hty : d.sorts.length ≤ 1048576:=HF.out.2.2.2.1
 obtain ⟨n,hn⟩ : ∃ n,d.sorts.length = n:=⟨_,rfl⟩
 have ru:=zH hn
 rw [hn] at hct hty k2
 have HG2 : Hid (rU All wz (.slice At n ct) d.sorts):=zH (by rw [← hn]; exact HG2.out)
 have K2:=zH k2
 clear g1 g2 g3 g4 g5 hn k2
 go_step
 rename_i K8 h8
 have H8:=zH h8
 clear h8
 go_wp2_with fail
 go_loopw [6] (fun i wr => ∃ k : Nat,k ≤ n ∧ i = .int .i64 k ∧ Hid (mO d.sorts = mO (d.sorts.drop k)) ∧ wr = wz) (fun i _ => n - (intOf i).toNat)
 case atStart => exact ⟨0,by omega,rfl,zH rfl,rfl⟩
 case round =>
  obtain ⟨k,hk,rfl,hs,hbq⟩:=hrel
  subst hbq
  have k2:=K2.out
  by_cases hlt : k < n
  ·obtain ⟨s,ht⟩ : ∃ y,d.sorts[k]? = some y:=⟨_,List.getElem?_eq_getElem (by have:=ru.out; omega)⟩
   have HC:=zH ht
   obtain ⟨A',c',e,-,hrow⟩:=HG2.out
   injection e with e1 e2 e3
   subst e1
   obtain ⟨b',off,rfl,-,hr⟩:=hrow (by have:=ru.out; omega)
   have hcell:=hr k s ht
   have hstep:=hs.out
   rw [zV HC.out] at hstep
   have HST:=zH hstep
   clear hstep hs ht hr hrow
   by_cases h1 : s < 1
   ·have hz : ANS = 1:=by
     have h2 : mO d.sorts = false:=by rw [HST.out,decide_eq_false (by omega)]; rfl
     have:=HA.out
     rw [h2] at this
     exact this.symm
    have HZ:=zH hz
    clear hz
    go_wp2_with fail
    refine HQ.out _ _ ?_
    go_ret
    exact ⟨by rw [HZ.out]; rfl,HW.out.bl⟩
   ·by_cases h3 : 3 < s
    ·have hz : ANS = 1:=by
      have h2 : mO d.sorts = false:=by rw [HST.out,decide_eq_false (p:=s ≤ 3) (by omega),Bool.and_false]; rfl
      have:=HA.out
      rw [h2] at this
      exact this.symm
     have HZ:=zH hz
     clear hz
     go_wp2_with fail
     refine HQ.out _ _ ?_
     go_ret
     exact ⟨by rw [HZ.out]; rfl,HW.out.bl⟩
    ·have hok : mO d.sorts = mO (d.sorts.drop (k + 1)):=by rw [HST.out,decide_eq_true (by omega),decide_eq_true (by omega)]; rfl
     have vU:=zH hok
     clear hok
     go_wp2_with fail
     go_roundw
     case rel => exact ⟨k + 1,by omega,by go_num,vU,trivial⟩
     case measure => simp [intOf]; omega
  ·have hkn : k = n:=by omega
   subst hkn
   have h0' : mO d.sorts = true:=by rw [hs.out,List.drop_eq_nil_of_le (by have:=ru.out; omega)]; rfl
   have ha2:=HA.out
   rw [if_pos h0'] at ha2
   have HA2:=zH ha2
   clear hs h0' ha2 HA
   go_wp2_with fail
   refine H8.out _ _ ?_
   clear H8
   exact rs_17 l j A c w wr g ANS q _ d n0 N Qx HW.out HD.out HF.out hn0 HA2 HN.out HQ.out HP.out
theorem rs_10 (l : List Df) (j : Nat) (A : Option Addr) (c : Nat) (w wz : World) (g : Nat) (ANS : Int) (q : Nat) (cs : List Value) (d : Df) (n0 : Nat) {u0 u2 u6 u7 u8 u9 jI jJ jk jl iW iY u16 jc jd je jL mW mX jM jB jG jH jQ jR jS jT jU u32 jV jW jX jY jZ ku kw kz kC kD kE kF kG kH kJ kK kL kM kN kP kQ kR kS kT kU kV kW kX kY kZ lg u64 lh lm lq lu lJ lK lL lM lN lQ lS lT lU lV lW lX lY lZ l9 mf mg mi mr mD mF lD lw mP nP nD oH oI oJ oK oL dE dF dG dH dI dJ dK dL dM dN dO bP bQ bT bU bV bW bY bZ cu cO cZ dh di dw dC dD : Value} (N : Act → World → Prop) (Qx : Exit → Act → World → Prop) (hw : ET w wz g l A c) (hd : LH wz q cs d) (hf : oh 1048576 d) (hn0 : n0 ≤ 200) (HA : Hid ((if EG d = true then if mO d.sorts = true then if nC d.types = 0 then if (mG d.body ((200 - n0 : Nat) : Int)).1 = 0 then nS (l.drop (j + 1)) (mG d.body ((200 - n0 : Nat) : Int)).2 else (mG d.body ((200 - n0 : Nat) : Int)).1 else nC d.types else 1 else 1) = ANS)) (hN : BZ u0 jk jl iW iY u16 jc jd je jL mW mX jM jB jG jH l j A c w g ANS N)
  (hQ : ∀ a w',(bodyPost Tryz.prog Tryz.f13 (fun e w' => e = .returned (.int .i64 ANS) ∧ Below w.heap.size w w')) Exit.ret a w' → Qx Exit.ret a w') (hP : ∀ c (a : Act) i (v : Value) w,Qx (Exit.panic c) (a.put i v) w → Qx (Exit.panic c) a w) :
  Code.wp Tryz.prog JM (Exit.then N Qx) { tmps:=#[u0,.pointer (some ⟨g,0,none⟩),u2,.int .i64 n0,.int .i64 j,.pointer (some ⟨q,0,none⟩),u6,u7,u8,u9,jI,jJ,jk,jl,iW,iY,u16,jc,jd,je,jL,mW,mX,jM,jB,jG,jH,jQ,jR,jS,jT,jU,u32,jV,jW,jX,jY,jZ,ku,kw,kz,kC,kD,kE,kF,kG,kH,kJ,kK,kL,kM,kN,kP,kQ,kR,kS,kT,kU,kV,kW,kX,kY,kZ,lg,u64,lh,lm,lq,lu,lJ,lK,lL,lM,lN,lQ,lS,lT,lU,lV,lW,lX,lY,lZ,l9,mf,mg,mi,mr,mD,mF,lD,lw,mP,nP,nD,oH,oI,oJ,oK,oL,dE,dF,dG,dH,dI,dJ,dK,dL,dM,dN,dO,bP,bQ,bT,bU,bV,bW,bY,bZ,cu,cO,cZ,dh,di,dw,dC,dD],defers:=[] } wz:=by
 have h : JM = Code.seq _ _:=rfl
 rw [h]
 clear h
 have HN:=zH hN
 have HQ:=zH hQ
 have HP:=zH hP
 have HW:=zH hw
 have HD:=zH hd
 have HF:=zH hf
 clear hN hQ hP hw hd hf
 obtain ⟨v1,v2,v3,v4,ps,rfl,g1,g2,g3,g4,g5⟩:=id HD.out.dc
 have LQ:=zH g1
 have LU:=zH g3
 obtain ⟨e1,p1,rfl,hp1,-⟩:=id g1
 obtain ⟨e2,p2,rfl,hp2,-⟩:=id g2
 obtain ⟨e3,p3,rfl,hp3,-⟩:=id g3
 obtain ⟨e4,p4,rfl,OL,-⟩:=id g4
 have k0:=HD.out.bx.at_ (j:=0) rfl
 have k1:=HD.out.bx.at_ (j:=1) rfl
 have k2:=HD.out.bx.at_ (j:=2) rfl
 have k3:=HD.out.bx.at_ (j:=3) rfl
 have k4:=HD.out.bx.at_ (j:=4) rfl
 obtain ⟨f0,f1,f2,f3,-,f5,f6,f7,-,-⟩:=id HF.out
 obtain ⟨m1,hm1⟩ : ∃ n,d.vals.length = n:=⟨_,rfl⟩
 obtain ⟨m2,hm2⟩ : ∃ n,d.sorts.length = n:=⟨_,rfl⟩
 obtain ⟨m3,Ib⟩ : ∃ n,d.chans.length = n:=⟨_,rfl⟩
 obtain ⟨m4,hm4⟩ : ∃ n,d.types.length = n:=⟨_,rfl⟩
 rw [hm1] at hp1 k1 f1
 rw [hm2] at hp2 k2 f3
 rw [Ib] at hp3 k3 f5
 rw [hm4] at OL k4 f7
 have Gu : Hid (aF wz (.slice e1 m1 p1) d.vals):=zH (by rw [← hm1]; exact LQ.out.is)
 have IY : Hid (aF wz (.slice e3 m3 p3) d.chans):=zH (by rw [← Ib]; exact LU.out.is)
 obtain ⟨B1,hB1⟩ : ∃ x,nz d.name = x:=⟨_,rfl⟩
 obtain ⟨B2,hB2⟩ : ∃ x,aZ d.vals = x:=⟨_,rfl⟩
 obtain ⟨B3,hB3⟩ : ∃ x,aZ d.chans = x:=⟨_,rfl⟩
 have hok : EG d = (B1 && (B2 && (B3 && (decide (m2 = m1) && decide (m4 = m3))))):=by unfold EG; rw [hB1,hB2,hB3,hm1,hm2,Ib,hm4]; congr 3; simp only [eq_comm]
 have Et:=HA.out
 rw [hok] at Et
 have Et:=zH Et
 have HB1:=zH hB1
 have HB2:=zH hB2
 have HB3:=zH hB3
 have hs1 : ∀ s ∈ d.vals,s.length ≤ 9223372036854775807:=fun s hs => by have:=f2 s hs; omega
 have hs3 : ∀ s ∈ d.chans,s.length ≤ 9223372036854775807:=fun s hs => by have:=f6 s hs; omega
 have BV:=zH (And.intro hs1 hs3)
 have HM:=zH (And.intro hm1 Ib)
 clear g1 g2 g3 g4 g5 hm1 hm2 Ib hm4 LQ LU hB1 hB2 hB3 hok HA f2 f6 hs1 hs3
 go_step
 rename_i K8 h8
 have H8:=zH h8
 clear h8
 cases B1 with
 | false =>
  have HZ : Hid (ANS = 1):=zH (by have:=Et.out; simpa using this.symm)
  go_wp2_with fail
  refine (qf d.name wz (by omega)).mono ?_
  rw [HB1.out]
  rintro e w2 ⟨rfl,hb2⟩
  have r1:=ae k1 hb2
  have r2:=ae k2 hb2
  have r3:=ae k3 hb2
  have r4:=ae k4 hb2
  go_wp2_with fail
  refine HQ.out _ _ ?_
  go_ret
  exact ⟨by rw [HZ.out]; rfl,(HW.out.next hb2).bl⟩
 | true =>
  cases B2 with
  | false =>
   have HZ : Hid (ANS = 1):=zH (by have:=Et.out; simpa using this.symm)
   go_wp2_with fail
   refine (qf d.name wz (by omega)).mono ?_
   rw [HB1.out]
   rintro e w2 ⟨rfl,hb2⟩
   have r1:=ae k1 hb2
   have r2:=ae k2 hb2
   have r3:=ae k3 hb2
   have r4:=ae k4 hb2
   clear k0 k1 k2 k3 k4
   go_wp2_with fail
   refine (o9 _ d.vals w2 (Gu.out.keep hb2) BV.out.1 (by have:=HM.out.1; omega)).mono ?_
   rw [HB2.out]
   rintro e w3 ⟨rfl,hb3⟩
   go_wp2_with fail
   refine HQ.out _ _ ?_
   go_ret
   exact ⟨by rw [HZ.out]; rfl,(HW.out.next (chain hb2 hb3)).bl⟩
  | true =>
   cases B3 with
   | false =>
    have HZ : Hid (ANS = 1):=zH (by have:=Et.out; simpa using this.symm)
    go_wp2_with fail
    refine (qf d.name wz (by omega)).mono ?_
    rw [HB1.out]
    rintro e w2 ⟨rfl,hb2⟩
    have r1:=ae k1 hb2
    have r2:=ae k2 hb2
    have r3:=ae k3 hb2
    have r4:=ae k4 hb2
    clear k0 k1 k2 k3 k4
    go_wp2_with fail
    refine (o9 _ d.vals w2 (Gu.out.keep hb2) BV.out.1 (by have:=HM.out.1; omega)).mono ?_
    rw [HB2.out]
    rintro e w3 ⟨rfl,hb3⟩
    have q1:=ae r1 hb3
    have q2:=ae r2 hb3
    have q3:=ae r3 hb3
    have q4:=ae r4 hb3
    clear r1 r2 r3 r4
    go_wp2_with fail
    refine (o9 _ d.chans w3 (IY.out.keep (chain hb2 hb3)) BV.out.2 (by have:=HM.out.2; omega)).mono ?_
    rw [HB3.out]
    rintro e w4 ⟨rfl,hb4⟩
    go_wp2_with fail
    refine HQ.out _ _ ?_
    go_ret
    exact ⟨by rw [HZ.out]; rfl,(HW.out.next (chain hb2 (chain hb3 hb4))).bl⟩
   | true =>
    go_wp2_with fail
    refine (qf d.name wz (by omega)).mono ?_
    rw [HB1.out]
    rintro e w2 ⟨rfl,hb2⟩
    have r1:=ae k1 hb2
    have r2:=ae k2 hb2
    have r3:=ae k3 hb2
    have r4:=ae k4 hb2
    clear k0 k1 k2 k3 k4
    go_wp2_with fail
    refine (o9 _ d.vals w2 (Gu.out.keep hb2) BV.out.1 (by have:=HM.out.1; omega)).mono ?_
    rw [HB2.out]
    rintro e w3 ⟨rfl,hb3⟩
    have q1:=ae r1 hb3
    have q2:=ae r2 hb3
    have q3:=ae r3 hb3
    have q4:=ae r4 hb3
    clear r1 r2 r3 r4
    go_wp2_with fail
    refine (o9 _ d.chans w3 (IY.out.keep (chain hb2 hb3)) BV.out.2 (by have:=HM.out.2; omega)).mono ?_
    rw [HB3.out]
    rintro e w4 ⟨rfl,hb4⟩
    have z1:=ae q1 hb4
    have z2:=ae q2 hb4
    have z3:=ae q3 hb4
    have z4:=ae q4 hb4
    clear q1 q2 q3 q4
    have hbz:=chain hb2 (chain hb3 hb4)
    have Gs:=zH hbz
    by_cases h12 : m2 = m1
    ·subst h12
     by_cases h34 : m4 = m3
     ·subst h34
      have ha2:=Et.out
      simp only [decide_true,Bool.and_self,if_true] at ha2
      have HA2:=zH ha2
      clear ha2
      go_wp2_with fail
      refine H8.out _ _ ?_
      clear H8
      exact rs_12 l j A c w w4 g ANS q _ d n0 N Qx (HW.out.next Gs.out) (HD.out.next Gs.out) HF.out hn0 HA2 HN.out HQ.out HP.out
     ·have HZ : Hid (ANS = 1):=zH (by have:=Et.out; rw [decide_eq_false h34] at this; simpa using this.symm)
      have hne : ((m4 : Int) != (m3 : Int)) = true:=by rw [bne_iff_ne]; omega
      clear h34
      go_wp2_with fail
      refine HQ.out _ _ ?_
      go_ret
      exact ⟨by rw [HZ.out]; rfl,(HW.out.next Gs.out).bl⟩
    ·have HZ : Hid (ANS = 1):=zH (by have:=Et.out; rw [decide_eq_false h12] at this; simpa using this.symm)
     have hne : ((m2 : Int) != (m1 : Int)) = true:=by rw [bne_iff_ne]; omega
     clear h12
     go_wp2_with fail
     refine HQ.out _ _ ?_
     go_ret
     exact ⟨by rw [HZ.out]; rfl,(HW.out.next Gs.out).bl⟩
theorem rs_9 (l : List Df) (j : Nat) (A : Option Addr) (c : Nat) (w wz : World) (g : Nat) (ANS : Int) (d : Df) (n0 : Nat) {u0 u2 u5 u6 u7 u8 u9 jI jJ jk jl iW iY u16 jc jd je jL mW mX jM jB jG jH jQ jR jS jT jU u32 jV jW jX jY jZ ku kw kz kC kD kE kF kG kH kJ kK kL kM kN kP kQ kR kS kT kU kV kW kX kY kZ lg u64 lh lm lq lu lJ lK lL lM lN lQ lS lT lU lV lW lX lY lZ l9 mf mg mi mr mD mF lD lw mP nP nD oH oI oJ oK oL dE dF dG dH dI dJ dK dL dM dN dO bP bQ bT bU bV bW bY bZ cu cO cZ dh di dw dC dD : Value} (N : Act → World → Prop) (Qx : Exit → Act → World → Prop) (hw : ET w wz g l A c) (hj : l[j]? = some d) (hc : l.length ≤ c) (hf : oh 1048576 d) (hn0 : n0 ≤ 200) (hlen : l.length ≤ 1048576) (HA : Hid (nS (l.drop j) ((200 - n0 : Nat) : Int) = ANS)) (hN : BZ u0 jk jl iW iY u16 jc jd je jL mW mX jM jB jG jH l j A c w g ANS N)
  (hQ : ∀ a w',(bodyPost Tryz.prog Tryz.f13 (fun e w' => e = .returned (.int .i64 ANS) ∧ Below w.heap.size w w')) Exit.ret a w' → Qx Exit.ret a w') (hP : ∀ c (a : Act) i (v : Value) w,Qx (Exit.panic c) (a.put i v) w → Qx (Exit.panic c) a w) :
  Code.wp Tryz.prog SV (Exit.then N Qx) { tmps:=#[u0,.pointer (some ⟨g,0,none⟩),u2,.int .i64 n0,.int .i64 j,u5,u6,u7,u8,u9,jI,jJ,jk,jl,iW,iY,u16,jc,jd,je,jL,mW,mX,jM,jB,jG,jH,jQ,jR,jS,jT,jU,u32,jV,jW,jX,jY,jZ,ku,kw,kz,kC,kD,kE,kF,kG,kH,kJ,kK,kL,kM,kN,kP,kQ,kR,kS,kT,kU,kV,kW,kX,kY,kZ,lg,u64,lh,lm,lq,lu,lJ,lK,lL,lM,lN,lQ,lS,lT,lU,lV,lW,lX,lY,lZ,l9,mf,mg,mi,mr,mD,mF,lD,lw,mP,nP,nD,oH,oI,oJ,oK,oL,dE,dF,dG,dH,dI,dJ,dK,dL,dM,dN,dO,bP,bQ,bT,bU,bV,bW,bY,bZ,cu,cO,cZ,dh,di,dw,dC,dD],defers:=[] } wz:=by
 have h : SV = Code.seq _ _:=rfl
 rw [h]
 clear h
 have HN:=zH hN
 have HQ:=zH hQ
 have HP:=zH hP
 have HW:=zH hw
 have HF:=zH hf
 have hans:=HA.out
 rw [Fq hj] at hans
 have uK:=zH hans
 have hjl : j < l.length:=(List.getElem?_eq_some_iff.1 hj).1
 have hgx:=hw.gx
 obtain ⟨A',c',e,-,hrow⟩:=hw.ds
 injection e with e1 e2 e3
 subst e1 e3
 obtain ⟨b,off,rfl,hbp,hr⟩:=hrow (by omega)
 obtain ⟨cs,hcl,hrg,hdc⟩:=hr j d hj
 have Iu:=hdc.one
 have DN:=zH hrg
 have NP:=zH hdc
 have NF:=zH Iu
 obtain ⟨n,hn⟩ : ∃ n,l.length = n:=⟨_,rfl⟩
 have uQ:=zH hn
 rw [hn] at hjl hc hlen hgx
 have hj2 : j ≤ 1048576:=by omega
 clear hN hQ hP hw hf hans hrow hr hrg hdc Iu HA hj e2 hbp hn
 go_step
 rename_i K8 h8
 have H8:=zH h8
 clear h8
 go_wp2_with (first | (refine uD DN.out hcl rfl (.tmp 30) rfl rfl ?_) | (refine vK (rZ _ _ _ _ rfl) rfl hcl NF.out rfl (.tmp 5) (.tmp 31) rfl rfl rfl ?_; intro W hbx hbel; have hbW:=hbel _ _ (Nat.le_refl _) ((Below.refl wz.heap.size wz).alloc (Nat.le_refl _) _); have zY:=zH hbx; have yB:=zH hbW; clear hbx hbel hbW))
 refine H8.out _ _ ?_
 clear H8
 exact rs_10 l j _ _ w W g ANS wz.heap.size cs d n0 N Qx (HW.out.next yB.out) ⟨zY.out,NP.out.keep (Same.below yB.out) (fun _ h _ => h)⟩ HF.out hn0 uK HN.out HQ.out HP.out
theorem refProg_any (l : List Df) (v : Value) (w : World) (hv : zX All w v l) (hf : ∀ d ∈ l,oh 1048576 d) (hlen : l.length ≤ 1048576) (hT : Tabs w) :
  Calls Tryz.prog 13 #[.agg #[v]] w fun e w' => e = .returned (.int .i64 (oP l)) ∧ Below w.heap.size w w':=by
 obtain ⟨ANS,hA⟩ : ∃ x,oP l = x:=⟨_,rfl⟩
 have HA:=zH hA
 rw [hA]
 clear hA
 have HV:=zH hv
 have HT:=zH hT
 have HF:=zH hf
 obtain ⟨A,c,rfl,hc,-⟩:=hv
 obtain ⟨n,hn⟩ : ∃ n,l.length = n:=⟨_,rfl⟩
 have uQ:=zH hn
 rw [hn] at hc hlen HV ⊢
 clear hf hT hn
 by_cases h0 : n = 0
 ·have HZ : Hid (ANS = 1):=zH (by have:=HA.out; unfold oP at this; rw [if_pos (by have:=uQ.out; omega)] at this; exact this.symm)
  go_enter Tryz.func13,Tryz.ntmps13
  go_wp2_with fail
  go_ret
  exact ⟨by rw [HZ.out]; rfl,by go_grown⟩
 ·by_cases h10 : 10 < n
  ·have HZ : Hid (ANS = 2):=zH (by have:=HA.out; unfold oP at this; rw [if_neg (by have:=uQ.out; omega),if_pos (by have:=uQ.out; omega)] at this; exact this.symm)
   have hE : ((n : Int) == 0) = false:=by rw [beq_eq_false_iff_ne]; omega
   go_enter Tryz.func13,Tryz.ntmps13
   go_wp2_with fail
   go_ret
   exact ⟨by rw [HZ.out]; rfl,by go_grown⟩
  ·have HZ : Hid (nS l 200 = ANS):=zH (by have:=HA.out; unfold oP at this; rwa [if_neg (by have:=uQ.out; omega),if_neg (by have:=uQ.out; omega)] at this)
   have hE : ((n : Int) == 0) = false:=by rw [beq_eq_false_iff_ne]; omega
   have h10' : n ≤ 10:=by omega
   clear h0 h10 HA
   go_enter Tryz.func13,Tryz.ntmps13
   go_wp2_with fail
   obtain ⟨W0,hW0⟩ : ∃ y,w.alloc (.cells #[.slice A n c] 45) = y:=⟨_,rfl⟩
   have hb0 : Below w.heap.size w W0:=by subst hW0; go_grown
   have hgx : W0.cell? ⟨w.heap.size,0,none⟩ = some (.slice A l.length c):=by subst hW0; rw [uQ.out]; simp [go_sem]
   have hds : zX All W0 (.slice A l.length c) l:=by
    have h1 : zX All w (.slice A l.length c) l:=by rw [uQ.out]; exact HV.out
    exact h1.below hb0
   have HW0 : Hid (ET w W0 w.heap.size l A c):=zH ⟨hb0,hds,HT.out.below hb0,hgx⟩
   try rw [hW0]
   clear hW0 hb0 hgx hds HT
   go_loopw [3,4] (fun iv i wr => ∃ (j n0 : Nat),j ≤ n ∧ i = .int .i64 j ∧ iv = .int .i64 n0 ∧ Hid (ET w wr w.heap.size l A c) ∧ n0 ≤ 200 ∧ Hid (nS (l.drop j) ((200 - n0 : Nat) : Int) = ANS)) (fun _ i _ => n - (intOf i).toNat)
   case atStart => exact ⟨0,0,by omega,rfl,rfl,HW0,by omega,HZ⟩
   case round =>
    clear HW0 HZ
    obtain ⟨j,n0,hj,rfl,rfl,HW,wu,hs⟩:=hrel
    have hgx : wr.cell? ⟨w.heap.size,0,none⟩ = some (.slice A n c):=by rw [← uQ.out]; exact HW.out.gx
    by_cases hlt : j < n
    ·obtain ⟨d,hd⟩ : ∃ y,l[j]? = some y:=⟨_,List.getElem?_eq_getElem (by have:=uQ.out; omega)⟩
     have HD:=zH hd
     have hdf:=HF.out d (az hd)
     have Gt:=zH hdf
     clear hd hdf
     change Code.wp _ (Code.seq _ (Code.seq (Code.block 1 SV) _)) _ _ _
     go_wp2_with fail
     rename_i K9 h9
     have CW : ∀ (P : Exit → Act → World → Prop),Exit.then (P .normal) P = P:=fun P => by funext e a w; cases e <;> rfl
     rw [← CW (Exit.inBlock 1 _)]
     have hnn:=uQ.out
     subst hnn
     refine rs_9 l j A c w wr w.heap.size ANS d n0 _ _ HW.out HD.out hc Gt.out wu hlen hs ?_ ?_ ?_
     ·intro wz n1 gw Oo gs v2 v5 v6 v7 v8 v9 Ns Nu JU JW JX JY Iz JZ J3 J4 J5 J6 Ih J7 J8 J9 Ko Kq Kr Kt Ku Hl Kv Kw Ky Kz IL KA IA KC KD KE KF KG KH KI KJ KL KN KO KP KQ KU KW KX IB KY IC KZ La IM IP Lc Ld Le Lh Lj Ll Lm Lp Lr Ls Lt Lu LC Ny Nz RJ RN UY UZ U0 U1 U2 U3 QW QX QY QZ Q8 MQ Q9 Rf Rh Ri Rj Rk Rl Rn Ro Rq Rt O3 Ru Rw Rx Ry Rz RD O4 RF RG
      refine h9 _ _ ?_
      have GW:=zH gw
      clear h9 gw
      go_wp2_with fail
      go_roundw
      case rel => exact ⟨j + 1,n1,by omega,by go_num,rfl,GW,Oo,gs⟩
      case measure => simp [intOf]; omega
     ·intro a w' h
      exact h
     ·intro c a i v w h
      cases i <;> exact h
    ·have hjn : j = n:=by omega
     subst hjn
     have hend : ANS = 0:=by rw [← hs.out,List.drop_eq_nil_of_le (by have:=uQ.out; omega)]; rfl
     have HE:=zH hend
     clear hend hs
     go_wp2_with fail
     go_ret
     exact ⟨by rw [HE.out]; rfl,HW.out.bl⟩
def DR (D : aj) (w : World) (v : Value) (l : List Nat) : Prop:=∃ A cap,v = .slice A l.length cap ∧ l.length ≤ cap ∧ (A = none → cap = 0) ∧ (0 < l.length → ∃ b off,A = some ⟨b,off,none⟩ ∧ D b ∧ ∀ i x,l[i]? = some x → w.cell? ⟨b,off + i,none⟩ = some (.int .u32 (x : Nat)))
theorem DR.keep {D D' : aj} {w w' : World} {v : Value} {l : List Nat} (h : DR D w v l) (hs : Same D w w') (hD : ∀ b,D b → b < w.heap.size → D' b) : DR D' w' v l:=by
 obtain ⟨A,cap,h1,h2,hz,h3⟩:=h
 refine ⟨A,cap,h1,h2,hz,fun h0 => ?_⟩
 obtain ⟨b,off,e,hd,hr⟩:=h3 h0
 have hl : b < w.heap.size:=by
  obtain ⟨s,hs⟩ : ∃ s,l[0]? = some s:=⟨_,List.getElem?_eq_getElem h0⟩
  exact cell_lt (hr 0 s hs)
 exact ⟨b,off,e,hD b hd hl,fun i s hi => hs.cell hd (hr i s hi)⟩
theorem DR.below {D : aj} {w w' : World} {v : Value} {t : List Nat} (h : DR D w v t) (hb : Below w.heap.size w w') : DR D w' v t:=h.keep (Same.below hb) fun _ h _ => h
theorem DR.none (D : aj) (w : World) : DR D w (.slice Option.none 0 0) []:=⟨Option.none,0,rfl,Nat.le_refl _,fun _ => rfl,fun h => by simp at h⟩
theorem Dy {l : List Nat} {k : Nat} {x : Nat} (h : l[k]? = some x) : pY (l.take (k + 1)) = if x = 0 then pY (l.take k) else l.take (k + 1):=by
 obtain ⟨h1,h2⟩:=List.getElem?_eq_some_iff.1 h
 rw [List.take_add_one,h]
 exact trimW_snoc _ _
theorem DX (D : aj) (v : Value) (l : List Nat) (w : World) (hv : DR D w v l) (hl : l.length ≤ 1000000) :
  Calls Tryz.prog 178 #[v] w fun e w' => (∃ v',e = .returned v' ∧ DR D w v' (pY l)) ∧ w' = w:=by
 have HV:=zH hv
 obtain ⟨A,cap,rfl,hc,hz,h3⟩:=hv
 have H3:=zH h3
 have HZ:=zH hz
 obtain ⟨L,hL⟩ : ∃ L,l.length = L:=⟨_,rfl⟩
 have HL:=zH hL
 rw [hL] at hc hl ⊢
 clear h3 hz hL
 obtain ⟨RES,hR⟩ : ∃ x,pY l = x:=⟨_,rfl⟩
 have HR:=zH hR
 rw [hR]
 clear hR
 go_enter Tryz.func178,Tryz.ntmps178
 go_wp2_with fail
 go_loop [3] (fun n => ∃ k : Nat,k ≤ L ∧ n = .int .i64 k ∧ Hid (pY l = pY (l.take k))) (fun n => (intOf n).toNat)
 case atStart => exact ⟨L,Nat.le_refl _,rfl,by show _ = _; rw [List.take_of_length_le (by have:=HL.out; omega)]⟩
 case round =>
  obtain ⟨k,hk,rfl,hs⟩:=hrel
  cases k with
  | zero =>
   have hres : RES = []:=by have:=hs.out; rw [HR.out] at this; rw [this]; rfl
   have LG:=zH hres
   clear hres hs
   go_wp2_with fail
   go_ret
   refine ⟨⟨_,rfl,A,cap,?_,?_,HZ.out,?_⟩,rfl⟩
   ·rw [LG.out]; rfl
   ·rw [LG.out]; exact Nat.zero_le _
   ·rw [LG.out]; intro h; simp at h
  | succ j =>
   obtain ⟨x,hx⟩ : ∃ y,l[j]? = some y:=⟨_,List.getElem?_eq_getElem (by have:=HL.out; omega)⟩
   obtain ⟨b,off,rfl,hd,hr⟩:=H3.out (by have:=HL.out; omega)
   have hcell:=hr j x hx
   have HX:=zH hx
   have HDR:=zH (⟨hd,hr⟩ : D b ∧ ∀ i x,l[i]? = some x → w.cell? ⟨b,off + i,none⟩ = some (.int .u32 (x : Nat)))
   clear hx hr hd
   by_cases h0 : x = 0
   ·subst h0
    have hs2 : pY l = pY (l.take j):=by rw [hs.out,Dy HX.out,if_pos rfl]
    have HS2:=zH hs2
    clear hs hs2
    go_wp2_with fail
    go_round
    case rel => exact ⟨j,by omega,by go_num,HS2⟩
    case measure => first | (simp [intOf]; done) | (simp [intOf]; omega)
   ·have hs2 : RES = l.take (j + 1):=by rw [← HR.out,hs.out,Dy HX.out,if_neg h0]
    have HS2:=zH hs2
    have hx0 : ((x : Int) == 0) = false:=by rw [beq_eq_false_iff_ne]; omega
    clear hs hs2 h0
    go_wp2_with fail
    go_ret
    have hlen : RES.length = j + 1:=by rw [HS2.out,List.length_take]; have:=HL.out; omega
    refine ⟨⟨_,rfl,some ⟨b,off,none⟩,cap,?_,by omega,(fun e => by cases e),fun _ => ⟨b,off,rfl,HDR.out.1,fun i y hi => ?_⟩⟩,rfl⟩
    ·rw [hlen]; rfl
    ·rw [HS2.out] at hi
     exact HDR.out.2 i y (by rw [List.getElem?_take] at hi; split at hi <;> first | exact hi | cases hi)
theorem two_words (n : Nat) (h : n < 18446744073709551616) : pY [n % 4294967296,n / 4294967296] = wordsOf n:=by
 rw [DC (fun d hd => by simp at hd; rcases hd with rfl | rfl <;> omega)]
 simp only [nJ]
 congr 1
 omega
theorem FX : oD Tryz.prog 183 217 1 4:=.mk' (z:=.int .u32 0) Tryz.underlying183 (by kernel_rfl) rfl (by decide)
theorem own_wds {D : aj} {w : World} {base : Nat} {E : TypeId} {v : Value} {l : List Nat} (h : w.ownsRow base E 1 v l.length (l.map fun x : Nat => .int .u32 x)) (hD : ∀ b,base ≤ b → D b) : DR D w v l:=by
 have hcells:=fun g => h.cells (g:=g)
 rcases h.2 with ⟨rfl,h0⟩ | ⟨g,cap,cur,rfl,hg,_,hn,_⟩
 ·exact ⟨Option.none,0,by rw [h0],by omega,fun _ => rfl,fun h1 => by omega⟩
 ·refine ⟨_,cap,rfl,hn,(fun e => by cases e),fun _ => ⟨g,0,rfl,hD g hg,fun i x hi => ?_⟩⟩
  have:=hcells g rfl i (.int .u32 (x : Nat)) (by rw [List.getElem?_map,hi]; rfl)
  rw [Go.WideShapes.add_plain] at this
  exact this
theorem DR.src {D : aj} {w : World} {A : Option Addr} {n c : Nat} {l : List Nat} (h : DR D w (.slice A n c) l) : ∀ ad,A = some ad → ∀ j u,(l.map fun x : Nat => Value.int .u32 x)[j]? = some u → w.cell? (ad.add j) = some u:=by
 obtain ⟨A',c',e,_,_,h3⟩:=h
 injection e with e1 e2 e3
 subst e1
 intro ad e j u hj
 have hjl : j < l.length:=by
  have:=(List.getElem?_eq_some_iff.1 hj).1
  simpa using this
 obtain ⟨b,off,e',_,hr⟩:=h3 (by omega)
 rw [e] at e'
 obtain rfl:=Option.some.inj e'
 rw [List.getElem?_map,List.getElem?_eq_getElem hjl] at hj
 simp only [Option.map_some,Option.some.injEq] at hj
 subst hj
 rw [Go.WideShapes.add_plain]
 exact hr j _ (List.getElem?_eq_getElem hjl)
theorem Ej (n : Nat) (w : World) (hn : n < 18446744073709551616) :
  Calls Tryz.prog 155 #[.int .u64 n] w fun e w' => (∃ v',e = .returned v' ∧ DR (fun k => w.heap.size ≤ k) w' v' (wordsOf n)) ∧ Below w.heap.size w w':=by
 have HN:=zH (two_words n hn)
 go_enter Tryz.func155,Tryz.ntmps155
 go_wp2_with fail
 refine (DX (fun k => w.heap.size ≤ k) _ [n % 4294967296,n / 4294967296] _ ⟨_,2,rfl,Nat.le_refl _,(fun e => by cases e),fun _ => ⟨w.heap.size,0,rfl,Nat.le_refl _,fun i x hi => ?_⟩⟩ (by simp)).mono ?_
 ·match i,hi with
  | 0,hi | 1,hi => simp at hi; subst hi; simp [go_sem]
  | i + 2,hi => simp at hi
 ·rintro e w1 ⟨⟨v,rfl,hv⟩,rfl⟩
  rw [HN.out] at hv
  go_wp2_with fail
  go_ret
  exact ⟨⟨v,rfl,hv⟩,by go_grown⟩
theorem btwin_any (D : aj) (v : Value) (l : List Nat) (w : World) (hv : DR D w v l) (hl : l.length ≤ 1000000) :
  Calls Tryz.prog 179 #[v] w fun e w' => (∃ v',e = .returned v' ∧ DR (fun k => w.heap.size ≤ k) w' v' l) ∧ Below w.heap.size w w':=by
 have HV:=zH hv
 obtain ⟨A,cap,rfl,hc,hz,h3⟩:=hv
 have hA : A = none → l.length = 0 ∧ cap = 0:=fun e => ⟨by have:=hz e; omega,hz e⟩
 have HA:=zH hA
 clear hz h3 hA
 go_enter Tryz.func179,Tryz.ntmps179
 go_wp2_with (at_builtin; go_must (refine oC FX rfl (.const (.slice none 0 0)) (.tmp 3) rfl w.heap.size _ 0 [] rfl (World.ownsRow_nil _ _ _ _) A l.length cap rfl (l.map fun x : Nat => .int .u32 x) (by simp) HA.out HV.out.src (by intro u hu; obtain ⟨s,_,rfl⟩:=List.mem_map.1 hu; rfl) (by unfold maxLen; omega) (by omega) (Nat.le_refl _) ?_; intro v1 w2 o1 o2; simp only [Nat.zero_add,List.nil_append] at o1; obtain ⟨A5,c5,rfl⟩:=bg o1))
 go_ret
 exact ⟨⟨_,rfl,own_wds o1 fun _ h => h⟩,o2⟩
def qd (d : Nat) : List Nat → List Nat
 | [] => []
 | x :: r => ((nJ r % d) * 4294967296 + x) / d :: qd d r
theorem AL (d : Nat) : ∀ l,(qd d l).length = l.length
 | [] => rfl
 | x :: r => by simp [qd,AL d r]
theorem JJ (d : Nat) (hd : 0 < d) : ∀ l,nJ (qd d l) = nJ l / d
 | [] => by simp [qd,nJ]
 | x :: r => by
  simp only [qd,nJ,JJ d hd r]
  have h:=Nat.div_add_mod (nJ r) d
  have : x + 4294967296 * nJ r = ((nJ r % d) * 4294967296 + x) + d * (4294967296 * (nJ r / d)):=by
   have h2 : 4294967296 * nJ r = 4294967296 * (d * (nJ r / d) + nJ r % d):=by rw [h]
   rw [h2,Nat.mul_add,← Nat.mul_assoc,Nat.mul_comm 4294967296 d,Nat.mul_assoc,Nat.mul_comm 4294967296 (nJ r % d)]
   omega
  rw [this,Nat.add_mul_div_left _ _ hd]
theorem Nl (d : Nat) (hd : 0 < d) (hd2 : d < 4294967296) : ∀ l,Ws l → Ws (qd d l)
 | [],_ => by intro x hx; simp [qd] at hx
 | x :: r,h => by
  intro y hy
  simp only [qd,List.mem_cons] at hy
  rcases hy with rfl | hy
  ·have h1:=h x (by simp)
   have h2:=Nat.mod_lt (nJ r) hd
   have h3:=Nat.mul_le_mul_right 4294967296 (show nJ r % d + 1 ≤ d from h2)
   generalize nJ r % d = m at h2 h3 ⊢
   rw [Nat.div_lt_iff_lt_mul hd]
   rw [Nat.add_mul] at h3
   omega
  ·exact Nl d hd hd2 r (fun z hz => h z (by simp [hz])) y hy
theorem Nk (d : Nat) : ∀ (l : List Nat) (i : Nat) (x : Nat),l[i]? = some x → (qd d l)[i]? = some (((nJ (l.drop (i + 1)) % d) * 4294967296 + x) / d)
 | [],i,x,h => by simp at h
 | y :: r,0,x,h => by simp at h; subst h; simp [qd]
 | y :: r,i + 1,x,h => by
  simp only [List.getElem?_cons_succ] at h
  simp only [qd,List.getElem?_cons_succ,List.drop_succ_cons]
  exact Nk d r i x h
theorem rem_step (d : Nat) (l : List Nat) (i x : Nat) (h : l[i]? = some x) : nJ (l.drop i) % d = ((nJ (l.drop (i + 1)) % d) * 4294967296 + x) % d:=by
 obtain ⟨h1,h2⟩:=List.getElem?_eq_some_iff.1 h
 rw [List.drop_eq_getElem_cons h1,h2]
 simp only [nJ]
 generalize nJ (l.drop (i + 1)) = W
 rw [Nat.add_comm x,Nat.mul_comm 4294967296]
 conv => lhs; rw [Nat.add_mod,Nat.mul_mod]
 conv => rhs; rw [Nat.add_mod,Nat.mul_mod,Nat.mod_mod]
theorem block_set {w : World} {b : Nat} {C : Array Value} {T : TypeId} (h : w.heap[b]? = some (.cells C T (0,0))) (i : Nat) (v : Value) : (w.setCell ⟨b,i,none⟩ v).heap[b]? = some (.cells (C.setIfInBounds i v) T (0,0)):=by
 unfold World.setCell
 simp only [Array.getElem?_modify,if_true,h,Option.map_some]
 rfl
theorem bits_or (a b : Nat) (ha : a < 18446744073709551616) (hb : b < 18446744073709551616) : bits .or .u64 (a : Int) (b : Int) = ((a ||| b : Nat) : Int):=by
 have e : ∀ n : Nat,n < 18446744073709551616 → (BitVec.ofInt 64 (n : Int)).toNat = n:=fun n hn => by
  rw [BitVec.ofInt_natCast,BitVec.toNat_ofNat]
  exact Nat.mod_eq_of_lt hn
 have hor : a ||| b < 18446744073709551616:=Nat.or_lt_two_pow (n:=64) ha hb
 show IntKind.u64.wrap (((BitVec.ofInt 64 (a : Int)) ||| (BitVec.ofInt 64 (b : Int))).toNat : Int) = _
 rw [BitVec.toNat_or,e a ha,e b hb,Go.IntWalk.u64_in _ (by omega)]
theorem or_add (r x : Nat) (hx : x < 4294967296) : r * 4294967296 ||| x = r * 4294967296 + x:=by
 have:=Nat.shiftLeft_add_eq_or_of_lt (i:=32) hx r
 rw [Nat.shiftLeft_eq] at this
 exact this.symm
theorem bsmall_any (D : aj) (v : Value) (l : List Nat) (d : Nat) (w : World) (hv : DR D w v l) (hl : l.length ≤ 1000000) (h0 : 0 < l.length) (hd0 : 0 < d) (hd : d < 4294967296) (hW : Ws l) :
  Calls Tryz.prog 180 #[v,.int .u32 d] w fun e w' => (∃ v',e = .returned (.tuple #[v',.int .u32 (nJ l % d : Nat)]) ∧ DR (fun k => w.heap.size ≤ k) w' v' (wordsOf (nJ l / d))) ∧ Below w.heap.size w w':=by
 have HV:=zH hv
 obtain ⟨A,cap,rfl,hc,hz,h3⟩:=hv
 obtain ⟨b,off,rfl,hD,hr⟩:=h3 h0
 have HR:=zH hr
 obtain ⟨L,hL⟩ : ∃ L,l.length = L:=⟨_,rfl⟩
 have HL:=zH hL
 rw [hL] at hc hl h0 ⊢
 have HW:=zH hW
 clear h3 hz hL hr hW
 obtain ⟨i0,z0,hi,hz0,hz1,hz2,-⟩:=FX.ex
 obtain ⟨M,hM⟩ : ∃ M,M = madeCells z0.cells ((L : Int).toNat * i0.size):=⟨_,rfl⟩
 have hMs : M.size = L:=by rw [hM,size_madeCells,hz1]; simp
 have hmk : ∀ W : World,(Instr.makeSlice 183 (.int .i64 (L : Int)) (.int .i64 (L : Int))).run Tryz.prog W = .ok (.slice (some ⟨W.heap.size,0,none⟩) L L) (W.alloc (.cells M 217)):=fun W => by
  have h:=run_make (P:=Tryz.prog) W 183 217 i0 _ Tryz.underlying183 hi hz0 .i64 .i64 (L : Int) (L : Int) (by omega) (by omega) (by rw [hz2]; omega) (by omega)
  rw [← hM] at h
  simpa using h
 have HMS:=zH hMs
 clear hM hi hz0 hz1 hz2 hMs
 go_enter Tryz.func180,Tryz.ntmps180
 go_wp2_with fail
 obtain ⟨W,hW⟩ : ∃ W,w.alloc (.cells M 217) = W:=⟨_,rfl⟩
 have hbW : Below w.heap.size w W:=by subst hW; go_grown
 have hblk : W.heap[w.heap.size]? = some (.cells M 217 (0,0)):=by subst hW; show (w.heap.push _)[w.heap.size]? = _; simp
 try rw [hW]
 clear hW
 go_loopw [7,8] (fun r i wr => ∃ (j : Nat) (C : Array Value),j ≤ L ∧ i = .int .i64 ((j : Int) - 1) ∧ r = .int .u64 ((nJ (l.drop j) % d : Nat) : Int) ∧ wr.heap[w.heap.size]? = some (.cells C 217 (0,0)) ∧ C.size = L ∧ Hid (∀ i x,j ≤ i → (qd d l)[i]? = some x → C[i]? = some (.int .u32 (x : Nat))) ∧ Below w.heap.size w wr) (fun _ i _ => ((intOf i) + 1).toNat)
 case atStart =>
  refine ⟨L,M,Nat.le_refl _,rfl,?_,hblk,HMS.out,fun i x h1 h2 => ?_,hbW⟩
  ·rw [List.drop_of_length_le (by have:=HL.out; omega)]; rfl
  ·have:=(List.getElem?_eq_some_iff.1 h2).1
   rw [AL,HL.out] at this
   omega
 case round =>
  clear hbW hblk
  obtain ⟨j,C,hj,rfl,rfl,hblk,hC,hq,hbw⟩:=hrel
  cases j with
  | zero =>
   rw [show (((0 : Nat) : Int) - 1) = -1 by omega]
   obtain ⟨R,hR⟩ : ∃ R,nJ (l.drop 0) % d = R:=⟨_,rfl⟩
   have hRl : R < 4294967296:=by rw [← hR]; exact Nat.lt_trans (Nat.mod_lt _ hd0) hd
   rw [hR]
   have HRR:=zH hR
   have hCl : C.toList = (qd d l).map fun x : Nat => Value.int .u32 x:=by
    apply List.ext_getElem?
    intro i
    rw [List.getElem?_map]
    cases hx : (qd d l)[i]? with
    | none =>
     have h1:=List.getElem?_eq_none_iff.1 hx
     rw [AL,HL.out] at h1
     simp only [Option.map_none]
     exact List.getElem?_eq_none (by simp; omega)
    | some x => simpa using hq.out i x (Nat.zero_le _) hx
   have HWd : DR (fun k => w.heap.size ≤ k) wr (.slice (some ⟨w.heap.size,0,none⟩) L L) (qd d l):=by
    refine ⟨_,L,by rw [AL,HL.out],by rw [AL,HL.out]; exact Nat.le_refl _,(fun e => by cases e),fun _ => ⟨w.heap.size,0,rfl,Nat.le_refl _,fun i x hi => ?_⟩⟩
    rw [Lib.cell_of_heap hblk,Nat.zero_add]
    exact hq.out i x (Nat.zero_le _) hi
   clear hR hq hCl
   go_wp2_with fail
   refine (DX _ _ (qd d l) wr HWd (by rw [AL,HL.out]; exact hl)).mono ?_
   rintro e w1 ⟨⟨v,rfl,hv⟩,rfl⟩
   go_wp2_with fail
   refine bodyPost_ret (v:=.tuple #[v,.int .u32 R]) (by simp [results,Tryz.results180,go_sem]) rfl ⟨⟨v,?_,?_⟩,hbw⟩
   ·have:=HRR.out
    rw [List.drop_zero] at this
    rw [this]
   ·rw [DC (Nl d hd0 hd l HW.out),JJ d hd0] at hv
    exact hv
  | succ j =>
   rw [show (((j + 1 : Nat) : Int) - 1) = (j : Int) by omega]
   obtain ⟨x,hx⟩ : ∃ y,l[j]? = some y:=⟨_,List.getElem?_eq_getElem (by have:=HL.out; omega)⟩
   have hxl : x < 4294967296:=HW.out x (az hx)
   have hcell : wr.cell? ⟨b,off + j,none⟩ = some (.int .u32 (x : Nat)):=ae (HR.out j x hx) hbw
   obtain ⟨R,hR⟩ : ∃ R,nJ (l.drop (j + 1)) % d = R:=⟨_,rfl⟩
   have hRl : R < 4294967296:=by rw [← hR]; exact Nat.lt_trans (Nat.mod_lt _ hd0) hd
   have hstep:=rem_step d l j x hx
   have MK:=Nk d l j x hx
   rw [hR] at hstep MK ⊢
   have hRd : R < d:=by rw [← hR]; exact Nat.mod_lt _ hd0
   have hor:=bits_or (R * 4294967296) x (by omega) (by omega)
   rw [or_add R x hxl,Int.natCast_mul] at hor
   obtain ⟨N,hN⟩ : ∃ N,R * 4294967296 + x = N:=⟨_,rfl⟩
   have hNq : N / d < 4294967296:=by
    rw [Nat.div_lt_iff_lt_mul hd0,← hN]
    have h3:=Nat.mul_le_mul_right 4294967296 (show R + 1 ≤ d from hRd)
    rw [Nat.add_mul] at h3
    omega
   have hN64 : N < 18446744073709551616:=by omega
   rw [hN] at hstep MK hor
   have hor' : bits BinOp.or IntKind.u64 ((R : Int) * 4294967296) (x : Int) = (N : Int):=hor
   have hN0 : (0 : Int) ≤ (N : Int):=Int.natCast_nonneg _
   have hN1 : (N : Int) ≤ 18446744073709551615:=by omega
   have hd1 : (0 : Int) < (d : Int):=by omega
   have HST:=zH hstep
   have HQA:=zH MK
   obtain ⟨cv,hc1⟩ : ∃ cv,wr.cell? ⟨w.heap.size,j,none⟩ = some cv:=⟨_,by rw [Lib.cell_of_heap hblk]; exact Array.getElem?_eq_getElem (by omega)⟩
   have hc2 : wr.frozen? ⟨w.heap.size,j,none⟩ = false:=Lib.frozen_of_heap hblk j
   have hq1 : (N : Int) / (d : Int) ≤ 4294967295:=by
    have h : ((N / d : Nat) : Int) ≤ 4294967295:=by omega
    rw [Int.natCast_ediv] at h
    exact h
   have hq0 : 0 ≤ (N : Int) / (d : Int):=by
    have h : 0 ≤ ((N / d : Nat) : Int):=Int.natCast_nonneg _
    rw [Int.natCast_ediv] at h
    exact h
   have HB:=zH hblk
   have HC:=zH hC
   clear hstep MK hR hN hx hC hblk hor
   go_wp2_with fail
   go_roundw
   case rel =>
    refine ⟨j,C.setIfInBounds j (.int .u32 ((N : Int) / (d : Int))),by omega,rfl,?_,block_set HB.out j _,by rw [Array.size_setIfInBounds]; exact HC.out,fun i y h1 h2 => ?_,hbw.setCell (p:=⟨w.heap.size,j,none⟩) (Nat.le_refl _) _⟩
    ·rw [HST.out,Int.natCast_emod]
    ·rcases Nat.eq_or_lt_of_le h1 with e | h3
     ·subst e
      rw [HQA.out] at h2
      obtain rfl:=Option.some.inj h2
      rw [Array.getElem?_setIfInBounds_self_of_lt (by have:=HC.out; omega),Int.natCast_ediv]
     ·rw [Array.getElem?_setIfInBounds_ne (by omega)]
      exact hq.out i y (by omega) h2
   case measure => simp [intOf] <;> omega
end Go.Proofs.YtpidjanngbaiiaaGreatDoor
