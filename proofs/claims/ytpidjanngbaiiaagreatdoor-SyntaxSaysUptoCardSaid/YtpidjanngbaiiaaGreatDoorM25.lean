/-
  PrP5 PrP PrZ Bulk BulkI ExOp OpR PrOp
-/
import Derived.Test.YtpidjanngbaiiaaGreatDoorM24
import Derived.Test.YtpidjanngbaiiaaGreatDoorM17
import Derived.Test.YtpidjanngbaiiaaGreatDoorM21
import Derived.Test.YtpidjanngbaiiaaGreatDoorM3
import Derived.Test.YtpidjanngbaiiaaGreatDoorRows
import Derived.ChangeSlices
import Derived.Test.YtpidjanngbaiiaaGreatDoorM2
import Derived.Test.YtpidjanngbaiiaaGreatDoorM6
namespace Go.Proofs.YtpidjanngbaiiaaGreatDoor
open Go.RowKit Go.Proofs
set_option maxRecDepth 100000
set_option maxHeartbeats 32000000

theorem pt_5 (l : List Df) (j : Nat) (A : Option Addr) (c : Nat) (w wz : World) (g : Nat) (S S' : Str) (d : Df) {u0 u2 u5 u6 u7 u8 u9 jI jJ jk jl iW iY u16 jc jd je jL mW mX jM jB jG jH jQ jR jS jT jU u32 jV jW jX jY jZ ku kw kz kC kD kE kF kG kH kJ kK kL kM kN kP kQ kR kS kT kU kV kW kX kY kZ lg u64 lh lm lq lu lJ lK lL lM lN lQ lS lT lU lV lW lX lY lZ l9 mf mg mi mr mD mF lD lw mP : Value} (N : Act → World → Prop) (Qx : Exit → Act → World → Prop) (hw : ET w wz g l A c) (hf : oh 1048576 d) (hg : o7 d) (hsl : S.length ≤ 5000000000000) (hj : l[j]? = some d) (hc : l.length ≤ c) (hlen : l.length ≤ 1048576) (hS : Hid (S ++ yG d = S')) (hN : Ey u0 u2 jI jJ jk jl iW iY u16 mP l j A c w g S' N) (hP : ∀ c (a : Act) i (v : Value) w,Qx (Exit.panic c) (a.put i v) w → Qx (Exit.panic c) a w) :
  Code.wp Tryz.prog SQ (Exit.then N Qx) { tmps:=#[u0,.pointer (some ⟨g,0,none⟩),u2,.string ⟨S.toArray⟩,.int .i64 j,u5,u6,u7,u8,u9,jI,jJ,jk,jl,iW,iY,u16,jc,jd,je,jL,mW,mX,jM,jB,jG,jH,jQ,jR,jS,jT,jU,u32,jV,jW,jX,jY,jZ,ku,kw,kz,kC,kD,kE,kF,kG,kH,kJ,kK,kL,kM,kN,kP,kQ,kR,kS,kT,kU,kV,kW,kX,kY,kZ,lg,u64,lh,lm,lq,lu,lJ,lK,lL,lM,lN,lQ,lS,lT,lU,lV,lW,lX,lY,lZ,l9,mf,mg,mi,mr,mD,mF,lD,lw,mP],defers:=[] } wz:=by
 have h : SQ = Code.seq _ (Code.seq _ MP):=rfl
 rw [h]
 clear h
 have HN:=zH hN
 have HP:=zH hP
 have HW:=zH hw
 have HF:=zH hf
 have HG:=zH hg
 clear hN hP hw hf hg
 have hjl : j < l.length:=(List.getElem?_eq_some_iff.1 hj).1
 have hgx:=HW.out.gx
 obtain ⟨A',c',e,-,hrow⟩:=HW.out.ds
 injection e with e1 e2 e3
 subst e1 e3
 obtain ⟨b,off,rfl,hbp,hr⟩:=hrow (by omega)
 obtain ⟨cs,hcl,hrg,hdc⟩:=hr j d hj
 have Iu:=hdc.one
 have DN:=zH hrg
 have NP:=zH hdc
 have NF:=zH Iu
 obtain ⟨n,hn⟩ : ∃ n,l.length = n:=⟨_,rfl⟩
 have uQ:=zH hn
 rw [hn] at hjl hc hlen hgx
 have hj2 : j ≤ 1048576:=by omega
 clear hrow hr hrg hdc Iu hj e2 hbp hn
 go_wp2_with (first | (refine uD DN.out hcl rfl (.tmp 20) rfl rfl ?_) | (refine vK (rZ _ _ _ _ rfl) rfl hcl NF.out rfl (.tmp 5) (.tmp 21) rfl rfl rfl ?_; intro W hbx hbel; have hbW:=hbel _ _ (Nat.le_refl _) ((Below.refl wz.heap.size wz).alloc (Nat.le_refl _) _); have zY:=zH hbx; have yB:=zH hbW; clear hbx hbel hbW))
 exact pt_7 l j _ _ w W g S S' wz.heap.size cs d N Qx (HW.out.next yB.out) ⟨zY.out,NP.out.keep (Same.below yB.out) (fun _ h _ => h)⟩ HF.out HG.out hsl hS HN.out HP.out
theorem progText_any (l : List Df) (v : Value) (w : World) (hv : zX All w v l) (hf : ∀ d ∈ l,oh 1048576 d) (hg : ∀ d ∈ l,o7 d) (hlen : l.length ≤ 10) (hT : Tabs w) :
  Calls Tryz.prog 15 #[.agg #[v]] w fun e w' => e = .returned (.string ⟨(nZ l).toArray⟩) ∧ Below w.heap.size w w':=by
 obtain ⟨ANS,hA⟩ : ∃ x,nZ l = x:=⟨_,rfl⟩
 have HA:=zH hA
 rw [hA]
 clear hA
 have HV:=zH hv
 have HT:=zH hT
 have HF:=zH hf
 have HG:=zH hg
 have DU:=zH (Bd (l:=l) (fun d hd => ⟨hg d hd,(hf d hd).2.2.2.2.2.2.2.2.2⟩) hlen)
 obtain ⟨A,c,rfl,hc,-⟩:=hv
 obtain ⟨n,hn⟩ : ∃ n,l.length = n:=⟨_,rfl⟩
 have uQ:=zH hn
 rw [hn] at hc hlen HV ⊢
 clear hf hg hT hn
 go_enter Tryz.func15,Tryz.ntmps15
 go_wp2_with fail
 obtain ⟨W0,hW0⟩ : ∃ y,w.alloc (.cells #[.slice A n c] 45) = y:=⟨_,rfl⟩
 have hb0 : Below w.heap.size w W0:=by subst hW0; go_grown
 have hgx : W0.cell? ⟨w.heap.size,0,none⟩ = some (.slice A l.length c):=by subst hW0; rw [uQ.out]; simp [go_sem]
 have hds : zX All W0 (.slice A l.length c) l:=by
  have h1 : zX All w (.slice A l.length c) l:=by rw [uQ.out]; exact HV.out
  exact h1.below hb0
 have HW0 : Hid (ET w W0 w.heap.size l A c):=zH ⟨hb0,hds,HT.out.below hb0,hgx⟩
 try rw [hW0]
 clear hW0 hb0 hgx hds HT
 go_loopw [3,4] (fun sv i wr => ∃ (j : Nat) (S : Str),j ≤ n ∧ i = .int .i64 j ∧ sv = .string ⟨S.toArray⟩ ∧ Hid (ET w wr w.heap.size l A c) ∧ Hid (nZ (l.take j) = S)) (fun _ i _ => n - (intOf i).toNat)
 case atStart => exact ⟨0,[],by omega,rfl,rfl,HW0,zH rfl⟩
 case round =>
  clear HW0
  obtain ⟨j,S,hj,rfl,rfl,HW,hs⟩:=hrel
  have hgx : wr.cell? ⟨w.heap.size,0,none⟩ = some (.slice A n c):=by rw [← uQ.out]; exact HW.out.gx
  by_cases hlt : j < n
  ·obtain ⟨d,hd⟩ : ∃ y,l[j]? = some y:=⟨_,List.getElem?_eq_getElem (by have:=uQ.out; omega)⟩
   have HD:=zH hd
   have Gt:=zH (And.intro (HF.out d (az hd)) (HG.out d (az hd)))
   obtain ⟨S',hS'⟩ : ∃ x,S ++ yG d = x:=⟨_,rfl⟩
   have hst : nZ (l.take (j + 1)) = S':=by rw [wR hd,hs.out]; exact hS'
   have HST:=zH hst
   have HSS:=zH hS'
   have hsl : S.length ≤ 5000000000000:=by have:=DU.out j; rw [hs.out] at this; omega
   clear hd hst hS'
   change Code.wp _ (Code.seq _ (Code.seq (Code.block 1 SQ) _)) _ _ _
   go_wp2_with fail
   rename_i K9 h9
   have CW : ∀ (P : Exit → Act → World → Prop),Exit.then (P .normal) P = P:=fun P => by funext e a w; cases e <;> rfl
   rw [← CW (Exit.inBlock 1 _)]
   have hnn:=uQ.out
   subst hnn
   refine pt_5 l j A c w wr w.heap.size S S' d _ _ HW.out Gt.out.1 Gt.out.2 hsl HD.out hc (by omega) HSS ?_ ?_
   ·intro wz gw v5 v6 v7 v8 v9 UT UU UV SY S9 UW UX Px Nv Nw JU JW JX JY Iz JZ J3 J4 J5 J6 Ih J7 J8 J9 Ko Kq Kr Kt Ku Hl Kv Kw Ky Kz IL KA IA KC KD KE KF KG KH KI KJ KL KN KO KP KQ KU KW KX IB KY IC KZ La IM IP Lc Ld Le Lh Lj Ll Lm Lp Lr Ls Lt Lu LC Ny Nz
    refine h9 _ _ ?_
    have GW:=zH gw
    clear h9 gw
    go_wp2_with fail
    go_roundw
    case rel => exact ⟨j + 1,S',by omega,by go_num,rfl,GW,HST⟩
    case measure => simp [intOf]; omega
   ·intro c a i v w h
    cases i <;> exact h
  ·have hjn : j = n:=by omega
   subst hjn
   have hend : ANS = S:=by rw [← hs.out,List.take_of_length_le (by have:=uQ.out; omega)]; exact HA.out.symm
   have HE:=zH hend
   clear hend hs
   go_wp2_with fail
   go_ret
   exact ⟨by rw [HE.out]; rfl,HW.out.bl⟩
theorem Ba (a b : Str) (e f : Int) (w : World) (h : (f ≠ 0 → e = f ∧ a = []) ∧ (f = 0 → e = 0 ∧ a = b)) :
  Calls Tryz.prog 11 #[.string ⟨a.toArray⟩,.int .i64 e,.string ⟨b.toArray⟩,.int .i64 f] w fun r w' => r = .returned (.bool true) ∧ w' = w:=by
 by_cases hf : f = 0
 ·obtain ⟨rfl,rfl⟩:=h.2 hf
  subst hf
  go_enter Tryz.func11,Tryz.ntmps11
  go_wp2_with fail
  go_ret
  exact ⟨by simp,rfl⟩
 ·obtain ⟨rfl,rfl⟩:=h.1 hf
  have hb : (e != 0) = true:=by rw [bne_iff_ne]; exact hf
  clear h hf
  go_enter Tryz.func11,Tryz.ntmps11
  go_wp2_with fail
  go_ret
  exact ⟨by simp,rfl⟩
theorem syntaxSays_any (l : List Df) (v : Value) (w : World) (hv : zX All w v l) (hf : ∀ d ∈ l,oh 1048576 d) (hlen : l.length ≤ 1048576) (hT : Tabs w) (hW : rW w) (hPw : ql w) (hSo : oN w) (DV : xh w) :
  Calls Tryz.prog 4 #[.agg #[v]] w fun e w' => e = .returned (.bool true) ∧ Below w.heap.size w w':=by
 obtain ⟨E,hE⟩ : ∃ x,oP l = x:=⟨_,rfl⟩
 have HV:=zH hv
 have HF:=zH hf
 have HX:=zH (And.intro hT (And.intro hW (And.intro hPw (And.intro hSo DV))))
 obtain ⟨A,c,rfl,-,-⟩:=hv
 have HE:=zH hE
 clear hE hf hT hW hPw hSo DV
 go_enter Tryz.func4,Tryz.ntmps4
 go_wp2_with fail
 obtain ⟨W,hWw⟩ : ∃ W,w.alloc (.cells #[.slice A l.length c] 45) = W:=⟨_,rfl⟩
 have hb0 : Below w.heap.size w W:=by subst hWw; go_grown
 have g0 : W.cell? ⟨w.heap.size,0,none⟩ = some (.slice A l.length c):=by subst hWw; simp [go_sem]
 try rw [hWw]
 clear hWw
 have H0:=zH hb0
 have hcall:=refProg_any l _ W (HV.out.below hb0) HF.out hlen (HX.out.1.below hb0)
 rw [HE.out] at hcall
 refine Calls.mono hcall ?_
 clear hcall
 rintro e w1 ⟨rfl,hb1⟩
 have hb1':=chain hb0 hb1
 have H1:=zH hb1'
 have g1:=ae g0 hb1
 clear g0 hb0 hb1 hb1'
 go_wp2_with fail
 by_cases h0 : E = 0
 ·have hw:=progWrite_ok l _ w1 (HV.out.below H1.out) HF.out hlen (HX.out.1.below H1.out) (HX.out.2.1.keep H1.out) (HX.out.2.2.1.below H1.out) (HX.out.2.2.2.1.keep H1.out) (HX.out.2.2.2.2.keep H1.out) (HE.out.trans h0)
  refine Calls.mono hw ?_
  clear hw
  rintro e w2 ⟨rfl,hb2⟩
  have g2:=ae g1 hb2
  have H2:=zH (chain H1.out hb2)
  have hE : (E == 0) = true:=by rw [beq_iff_eq]; exact h0
  have RS:=zH h0
  clear hb2 g1 h0
  go_wp2_with fail
  have hgood:=Ed (HE.out.trans RS.out)
  refine Calls.mono (progText_any l _ w2 (HV.out.below H2.out) HF.out hgood.1 hgood.2 (HX.out.1.below H2.out)) ?_
  clear hgood
  rintro e w3 ⟨rfl,hb3⟩
  have g3:=ae g2 hb3
  have H3:=zH (chain H2.out hb3)
  clear hb3 g2
  go_wp2_with fail
  have hs:=uB l _ w3 (HV.out.below H3.out) HF.out hlen (HX.out.1.below H3.out) (HX.out.2.1.keep H3.out)
  rw [HE.out] at hs
  refine Calls.mono hs ?_
  clear hs
  rintro e w4 ⟨rfl,hb4⟩
  have H4:=zH (chain H3.out hb4)
  clear hb4 g3
  go_wp2_with fail
  refine Calls.mono (Ba (nZ l) (nZ l) 0 E w4 ⟨fun h => absurd RS.out h,fun _ => ⟨rfl,rfl⟩⟩) ?_
  rintro e w5 ⟨rfl,rfl⟩
  go_wp2_with fail
  go_ret
  exact ⟨rfl,H4.out⟩
 ·have hw:=progWrite_bad l _ w1 (HV.out.below H1.out) HF.out hlen (HX.out.1.below H1.out) (HX.out.2.1.keep H1.out) E HE.out h0
  refine Calls.mono hw ?_
  clear hw
  rintro e w2 ⟨rfl,hb2⟩
  have g2:=ae g1 hb2
  have H2:=zH (chain H1.out hb2)
  have hE : (E == 0) = false:=by rw [beq_eq_false_iff_ne]; exact h0
  have RS:=zH h0
  clear hb2 g1 h0
  go_wp2_with fail
  have hs:=uB l _ w2 (HV.out.below H2.out) HF.out hlen (HX.out.1.below H2.out) (HX.out.2.1.keep H2.out)
  rw [HE.out] at hs
  refine Calls.mono hs ?_
  clear hs
  rintro e w4 ⟨rfl,hb4⟩
  have H4:=zH (chain H2.out hb4)
  clear hb4 g2
  go_wp2_with fail
  refine Calls.mono (Ba [] [] E E w4 ⟨fun _ => ⟨rfl,rfl⟩,fun h => absurd h RS.out⟩) ?_
  rintro e w5 ⟨rfl,rfl⟩
  go_wp2_with fail
  go_ret
  exact ⟨rfl,H4.out⟩
end Go.Proofs.YtpidjanngbaiiaaGreatDoor
namespace Go.Proofs.YtpidjanngbaiiaaGreatDoor
open Go.ChangeShapes Go.WideShapes Go.ChangeAt Go.RowKit Go.Joins Go.Lib Go.Deep
set_option maxRecDepth 100000
set_option maxHeartbeats 32000000

section
variable {H : Type}
theorem wK {ds : List (DataW H)} {d : DataW H} (h : d ∈ ds) : Rows.uptoBulk d ≤ Rows.uptoBulkAll ds:=by
 induction ds with
 | nil => simp at h
 | cons a r ih =>
  simp only [Rows.uptoBulkAll]
  rcases List.mem_cons.1 h with rfl | h
  ·omega
  ·have:=ih h; omega
theorem bulk_pos (d : DataW H) : 1 ≤ Rows.uptoBulk d:=by
 cases d with
 | lit l => cases l <;> simp [Rows.uptoBulk]
 | _ => simp [Rows.uptoBulk]
theorem ry (ds : List (DataW H)) : ds.length ≤ Rows.uptoBulkAll ds:=by
 induction ds with
 | nil => simp
 | cons a r ih => simp only [Rows.uptoBulkAll,List.length_cons]; have:=bulk_pos a; omega
end
section
variable {H : Type} {enc : TypeId × Value → H} {P : Program} {w : World} {base : Nat} {spare : Nat → Bool} {held : Bool}
theorem vW {t : TypeId} {fs : Array Field} {fuel : Nat} {cs : List Value} {x : DataW H × List MemPlace} (ht : P.underlying t = some (.struct fs)) (hone : oneCellFields P fs = true) (hC : P.cellsOf t = fs.size) (h : DataW.trod enc P w base spare held fuel t cs = some x) :
  ∃ n,fuel = n + 1 ∧ cs.length = fs.size ∧ ∀ (i : Nat) (f : Field),fs[i]? = some f → ∃ c y,cs[i]? = some c ∧ DataW.trod enc P w base spare held n f.type [c] = some y ∧ Rows.uptoBulk y.1 ≤ Rows.uptoBulk x.1:=by
 obtain ⟨xs,n,rfl,rfl,hl,hlen,hf⟩:=DataW.trod_struct ht h
 refine ⟨n,rfl,by rw [hl,hC],fun i f hi => ?_⟩
 obtain ⟨k1,k2⟩:=hone_of hone i f hi
 have hi' : i < fs.size:=(Array.getElem?_eq_some_iff.1 hi).1
 have:=hf i f hi
 rw [k1,k2,take1_drop cs i (.bool false) (by omega),List.getElem?_eq_getElem (by omega)] at this
 refine ⟨_,_,by rw [List.getElem?_eq_getElem (by omega)],by rw [← this,List.getD,List.getElem?_eq_getElem (by omega)]; rfl,?_⟩
 simp only [Rows.uptoBulk]
 exact Nat.le_succ_of_le (wK (List.mem_map_of_mem (List.getElem_mem _)))
end
section
variable {H : Type} {enc : TypeId × Value → H} {W : World}
theorem rH {fuel : Nat} {cs : List Value} {x : DataW H × List MemPlace} (h : DataW.trod enc Tryz.prog W 0 (fun _ => true) true fuel 27 cs = some x) :
  ∃ (v : Value) (l : List Str),cs = [v] ∧ aF W v l ∧ l.length ≤ Rows.uptoBulk x.1 ∧ ∀ s ∈ l,s.length ≤ Rows.uptoBulk x.1:=by
 rcases open_strs Tryz.underlying27 Tryz.underlying9 qH h with ⟨rfl,-⟩ | ⟨a,len,cap,m,Sx,rfl,-,hl,hm,hmm,rfl,hx⟩
 ·exact ⟨_,[],rfl,⟨none,0,rfl,Nat.le_refl _,fun h => by simp at h⟩,by simp,by simp⟩
 ·have hmc : m = cap:=by simpa using hmm
  have hk : ∀ d ∈ ((List.range len).map fun i => (DataW.lit (.string (Sx i).data.toList) : DataW H)),Rows.uptoBulk d ≤ Rows.uptoBulkAll ((List.range len).map fun i => (DataW.lit (.string (Sx i).data.toList) : DataW H)):=fun d hd => wK hd
  have hn:=ry ((List.range len).map fun i => (DataW.lit (.string (Sx i).data.toList) : DataW H))
  simp only [List.length_map,List.length_range] at hn
  refine ⟨_,(List.range len).map fun i => (Sx i).data.toList,rfl,⟨some a,cap,by simp,by simpa using hl,fun h0 => ?_⟩,by simp only [List.length_map,List.length_range,Rows.uptoBulk]; omega,?_⟩
  ·simp only [List.length_map,List.length_range] at h0
   obtain ⟨b,off,spot⟩:=a
   have hspot : spot = none:=by simpa [Addr.add] using World.cell?_spot (hx 0 (by omega)).1
   subst hspot
   refine ⟨b,off,rfl,fun i s hi => ?_⟩
   simp only [List.getElem?_map,Option.map_eq_some_iff] at hi
   obtain ⟨j,hj,rfl⟩:=hi
   obtain ⟨hj1,hj2⟩:=List.getElem?_eq_some_iff.1 hj
   simp only [List.length_range,List.getElem_range] at hj1 hj2
   subst hj2
   have:=(hx i (by omega)).1
   rw [Go.WideShapes.add_plain] at this
   rw [this,mk_data]
  ·intro s hs
   obtain ⟨i,hi,rfl⟩:=List.mem_map.1 hs
   have:=hk _ (List.mem_map_of_mem hi)
   simp only [Rows.uptoBulk] at this ⊢
   omega
end
end Go.Proofs.YtpidjanngbaiiaaGreatDoor
namespace Go.Proofs.YtpidjanngbaiiaaGreatDoor
open Go.ChangeShapes Go.WideShapes Go.ChangeAt Go.RowKit Go.Joins Go.Lib Go.Deep
set_option maxRecDepth 100000
set_option maxHeartbeats 32000000

section
variable {H : Type} {enc : TypeId × Value → H} {W : World}
theorem open_ints_b {fuel : Nat} {cs : List Value} {x : DataW H × List MemPlace} (h : DataW.trod enc Tryz.prog W 0 (fun _ => true) true fuel 82 cs = some x) :
  ∃ (v : Value) (l : List Int),cs = [v] ∧ rU All W v l ∧ l.length ≤ Rows.uptoBulk x.1 ∧ ∀ n ∈ l,(Lit.int .i64 n).wf = true:=by
 rcases Go.ChangeShapes.open_ints Tryz.underlying82 Tryz.underlying3 Ci h with ⟨rfl,-⟩ | ⟨a,len,cap,zs,rfl,-,hl,hm,hz,rfl,hx,hw⟩
 ·exact ⟨_,[],rfl,no_ints _ _,by simp,by simp⟩
 ·have hzc : zs.length = cap:=by simpa using hz
  have hlen : (zs.take len).length = len:=by rw [List.length_take]; omega
  have hn:=ry (Go.ChangeShapes.lits (H:=H) .i64 (zs.take len))
  refine ⟨_,zs.take len,rfl,⟨some a,cap,by rw [hlen],by rw [hlen]; exact hl,fun h0 => ?_⟩,?_,fun n hn => hw n (List.mem_of_mem_take hn)⟩
  ·rw [hlen] at h0
   obtain ⟨b,off,spot⟩:=a
   have hspot : spot = none:=by simpa [Addr.add] using World.cell?_spot (hx 0 (by omega))
   subst hspot
   refine ⟨b,off,rfl,trivial,fun i s hi => ?_⟩
   obtain ⟨hi1,hi2⟩:=List.getElem?_eq_some_iff.1 hi
   rw [hlen] at hi1
   have:=hx i (by omega)
   rw [Go.WideShapes.add_plain] at this
   rw [this,← hi2,List.getElem_take]
   simp [List.getD,List.getElem?_eq_getElem (show i < zs.length by omega)]
  ·rw [hlen]
   have e : (Go.ChangeShapes.lits (H:=H) .i64 (zs.take len)).length = len:=by unfold Go.ChangeShapes.lits; rw [List.length_map,hlen]
   rw [e] at hn
   simp only [Rows.uptoBulk]
   omega
end
end Go.Proofs.YtpidjanngbaiiaaGreatDoor
namespace Go.Proofs.YtpidjanngbaiiaaGreatDoor
open Go.ChangeShapes Go.WideShapes Go.ChangeAt Go.RowKit Go.Joins Go.Lib Go.Deep
set_option maxRecDepth 100000
set_option maxHeartbeats 32000000
theorem BD : Tryz.prog.cellsOf 52 = 6:=by kernel_rfl
theorem H7 : Tryz.prog.cellsOf 26 = 3:=by kernel_rfl
theorem Fh : Tryz.prog.cellsOf 50 = 1:=by kernel_rfl
section
variable {H : Type} {enc : TypeId × Value → H} {W : World}
theorem open_val_cells {fuel : Nat} {cs : List Value} {x : DataW H × List MemPlace} (h : DataW.trod enc Tryz.prog W 0 (fun _ => true) true fuel 26 cs = some x) :
  ∃ (s n : Int) (t : Str),cs = [.int .i64 s,.int .i64 n,.string ⟨t.toArray⟩] ∧ (Lit.int .i64 s).wf = true ∧ (Lit.int .i64 n).wf = true ∧ t.length ≤ Rows.uptoBulk x.1:=by
 obtain ⟨n,rfl,hl,hf⟩:=vW Tryz.underlying26 (by kernel_rfl) H7 h
 obtain ⟨c0,c1,c2,rfl⟩ : ∃ c0 c1 c2,cs = [c0,c1,c2]:=by
  match cs,hl with
  | [c0,c1,c2],_ => exact ⟨c0,c1,c2,rfl⟩
 obtain ⟨_,x0,e,h0,b0⟩:=hf 0 _ rfl
 obtain rfl:=Option.some.inj e
 obtain ⟨_,x1,e,h1,b1⟩:=hf 1 _ rfl
 obtain rfl:=Option.some.inj e
 obtain ⟨_,x2,e,h2,b2⟩:=hf 2 _ rfl
 obtain rfl:=Option.some.inj e
 obtain ⟨k,e0,-,hk⟩:=DataW.trod_int Tryz.underlying3 h0
 obtain ⟨m,e1,-,hm⟩:=DataW.trod_int Tryz.underlying2 h1
 obtain ⟨s,e2,hx2,hs⟩:=DataW.trod_string Tryz.underlying9 h2
 simp only [List.cons.injEq,and_true] at e0 e1 e2
 subst e0 e1 e2
 refine ⟨k,m,s.data.toList,by rw [mk_data],hk,hm,Nat.le_trans ?_ b2⟩
 rw [hx2]
 simp only [Rows.uptoBulk]
 omega
theorem yH : ∀ (fuel : Nat) (cs : List Value) (x : DataW H × List MemPlace),DataW.trod enc Tryz.prog W 0 (fun _ => true) true fuel 52 cs = some x →
  ∃ (t : Ex) (kv : Value),cs = [.int .i64 t.kind,.string ⟨t.name.toArray⟩,.int .i64 t.vs,.int .i64 t.vn,.string ⟨t.vt.toArray⟩,kv] ∧ uz All W kv t.kids ∧ bI (Rows.uptoBulk x.1) t:=by
 intro fuel
 induction fuel using Nat.strongRecOn with
 | _ fuel ih =>
 intro cs x h
 obtain ⟨xs,n,rfl,rfl,hl,hlen,hf⟩:=DataW.trod_struct Tryz.underlying52 h
 rw [BD] at hl
 obtain ⟨c0,c1,c2,c3,c4,c5,rfl⟩ : ∃ c0 c1 c2 c3 c4 c5,cs = [c0,c1,c2,c3,c4,c5]:=by
  match cs,hl with
  | [c0,c1,c2,c3,c4,c5],_ => exact ⟨c0,c1,c2,c3,c4,c5,rfl⟩
 obtain ⟨y0,y1,y2,y3,rfl⟩ : ∃ y0 y1 y2 y3,xs = [y0,y1,y2,y3]:=by
  match xs,hlen with
  | [y0,y1,y2,y3],_ => exact ⟨y0,y1,y2,y3,rfl⟩
 have h0 : DataW.trod enc Tryz.prog W 0 (fun _ => true) true n 3 (([c0,c1,c2,c3,c4,c5].drop 0).take (Tryz.prog.cellsOf 3)) = some y0:=hf 0 _ rfl
 have h1 : DataW.trod enc Tryz.prog W 0 (fun _ => true) true n 9 (([c0,c1,c2,c3,c4,c5].drop 1).take (Tryz.prog.cellsOf 9)) = some y1:=hf 1 _ rfl
 have h2 : DataW.trod enc Tryz.prog W 0 (fun _ => true) true n 26 (([c0,c1,c2,c3,c4,c5].drop 2).take (Tryz.prog.cellsOf 26)) = some y2:=hf 2 _ rfl
 have h3 : DataW.trod enc Tryz.prog W 0 (fun _ => true) true n 50 (([c0,c1,c2,c3,c4,c5].drop 5).take (Tryz.prog.cellsOf 50)) = some y3:=hf 3 _ rfl
 rw [Ci] at h0
 rw [qH] at h1
 rw [H7] at h2
 rw [Fh] at h3
 simp only [List.drop,List.take] at h0 h1 h2 h3
 obtain ⟨k,e0,-,hk⟩:=DataW.trod_int Tryz.underlying3 h0
 obtain ⟨nm,e1,hx1,hnm⟩:=DataW.trod_string Tryz.underlying9 h1
 obtain ⟨vs,vn,vt,e2,hvs,hvn,hvt⟩:=open_val_cells h2
 simp only [List.cons.injEq,and_true] at e0 e1 e2
 obtain ⟨e2,e3,e4⟩:=e2
 subst e0 e1 e2 e3 e4
 have Na : Rows.uptoBulk (DataW.agg ([y0,y1,y2,y3].map (·.1))) = Rows.uptoBulk y0.1 + (Rows.uptoBulk y1.1 + (Rows.uptoBulk y2.1 + (Rows.uptoBulk y3.1 + 0))) + 1:=by simp only [List.map,Rows.uptoBulk,Rows.uptoBulkAll]
 have hks : ∃ ks : List Ex,uz All W c5 ks ∧ ks.length ≤ Rows.uptoBulk y3.1 ∧ ∀ t ∈ ks,bI (Rows.uptoBulk y3.1) t:=by
  rcases DataW.trod_slice Tryz.underlying50 h3 with ⟨e,-⟩ | ⟨a,len,cap,elems,rest,m,rfl,e,hx6,-,hl,hm,hlen,hel,-,-⟩
  ·simp only [List.cons.injEq,and_true] at e
   subst e
   exact ⟨[],no_exs _ _,by simp,by simp⟩
  ·simp only [List.cons.injEq,and_true] at e
   subst e
   rw [BD] at hel
   have hbk : Rows.uptoBulkAll (elems.map (·.1)) ≤ Rows.uptoBulk y3.1:=by rw [hx6]; simp only [Rows.uptoBulk]; omega
   have hbl:=ry (elems.map (·.1))
   simp only [List.length_map] at hbl
   have each : ∀ i,i < len → ∃ (t : Ex),(∃ kv,(∀ j,j < 6 → W.cell? ((a.add (i * 6)).add j) = ([.int .i64 t.kind,.string ⟨t.name.toArray⟩,.int .i64 t.vs,.int .i64 t.vn,.string ⟨t.vt.toArray⟩,kv] : List Value)[j]?) ∧ uz All W kv t.kids) ∧ bI (Rows.uptoBulk y3.1) t:=by
    intro i hi
    have he:=hel i hi
    rw [List.getElem?_eq_getElem (by omega)] at he
    obtain ⟨cs',hc1,hc2⟩:=Option.bind_eq_some_iff.1 he
    obtain ⟨t,kv,rfl,h6,h7⟩:=ih m (by omega) cs' _ hc2
    exact ⟨t,⟨kv,(World.cells?_some hc1).2.2,h6⟩,h7.mono (Nat.le_trans (wK (List.mem_map_of_mem (List.getElem_mem _))) hbk)⟩
   haveI : Inhabited Ex:=⟨LD⟩
   obtain ⟨T,hT⟩:=choose_lt each
   refine ⟨(List.range len).map T,⟨some a,cap,by simp,by rw [List.length_map,List.length_range]; omega,(fun e => by cases e),fun h0 => ?_⟩,by simp; omega,?_⟩
   ·simp only [List.length_map,List.length_range] at h0
    obtain ⟨b,off,spot⟩:=a
    have hspot : spot = none:=by
     obtain ⟨⟨_,hc,_⟩,_⟩:=hT 0 h0
     have:=hc 0 (by omega)
     simp only [Nat.zero_mul] at this
     simpa [Addr.add] using World.cell?_spot this
    subst hspot
    refine ⟨b,off,rfl,trivial,BM fun i t hi => ?_⟩
    simp only [List.getElem?_map,Option.map_eq_some_iff] at hi
    obtain ⟨j,hj,rfl⟩:=hi
    obtain ⟨hj1,hj2⟩:=List.getElem?_eq_some_iff.1 hj
    simp only [List.length_range,List.getElem_range] at hj1 hj2
    subst hj2
    obtain ⟨⟨kv,hc,h6⟩,_⟩:=hT i hj1
    refine (uG _ _ _ _ _).2 ⟨kv,?_,?_,?_,?_,?_,?_,h6⟩
    all_goals first
     | (have:=hc 0 (by omega); rw [Go.WideShapes.add_plain,Go.WideShapes.add_plain] at this; exact this)
     | (have:=hc 1 (by omega); rw [Go.WideShapes.add_plain,Go.WideShapes.add_plain] at this; exact this)
     | (have:=hc 2 (by omega); rw [Go.WideShapes.add_plain,Go.WideShapes.add_plain] at this; exact this)
     | (have:=hc 3 (by omega); rw [Go.WideShapes.add_plain,Go.WideShapes.add_plain] at this; exact this)
     | (have:=hc 4 (by omega); rw [Go.WideShapes.add_plain,Go.WideShapes.add_plain] at this; exact this)
     | (have:=hc 5 (by omega); rw [Go.WideShapes.add_plain,Go.WideShapes.add_plain] at this; exact this)
   ·intro t ht
    obtain ⟨i,hi,rfl⟩:=List.mem_map.1 ht
    exact (hT i (List.mem_range.1 hi)).2
 obtain ⟨ks,OC,QE,OD⟩:=hks
 refine ⟨.mk k nm.data.toList vs vn vt ks,c5,?_,OC,?_⟩
 ·simp only [Ex.kind,Ex.name,Ex.vs,Ex.vn,Ex.vt,mk_data]
 ·refine .mk _ _ _ _ _ _ hk ?_ hvs hvn ?_ ?_ fun t ht => (OD t ht).mono ?_
  ·rw [Na,hx1]
   simp only [Rows.uptoBulk]
   omega
  ·rw [Na]; omega
  ·rw [Na]; omega
  ·rw [Na]; omega
end
end Go.Proofs.YtpidjanngbaiiaaGreatDoor
namespace Go.Proofs.YtpidjanngbaiiaaGreatDoor
open Go.ChangeShapes Go.WideShapes Go.ChangeAt Go.RowKit Go.Joins Go.Lib Go.Deep
set_option maxRecDepth 100000
set_option maxHeartbeats 32000000

section
variable {H : Type} {enc : TypeId × Value → H} {W : World}
theorem open_row {α : Type} [Inhabited α] {st et : TypeId} (hu : Tryz.prog.underlying st = some (.slice et)) (n : Nat) (hn : Tryz.prog.cellsOf et = n) (h0n : 0 < n) (C : List Value → α → Prop) (F : Nat → α → Prop)
  (hF : ∀ N M a,N ≤ M → F N a → F M a) (fuel : Nat)
  (each : ∀ m,m < fuel → ∀ cs (x : DataW H × List MemPlace),DataW.trod enc Tryz.prog W 0 (fun _ => true) true m et cs = some x → ∃ t,cs.length = n ∧ C cs t ∧ F (Rows.uptoBulk x.1) t)
  {c : Value} {x : DataW H × List MemPlace} (h : DataW.trod enc Tryz.prog W 0 (fun _ => true) true fuel st [c] = some x) :
  ∃ (l : List α) (A : Option Addr) (cap : Nat),c = .slice A l.length cap ∧ l.length ≤ cap ∧ (A = none → cap = 0) ∧ (0 < l.length → ∃ b off,A = some ⟨b,off,none⟩ ∧ Fe n C W b off l) ∧ l.length ≤ Rows.uptoBulk x.1 ∧ ∀ t ∈ l,F (Rows.uptoBulk x.1) t:=by
 rcases DataW.trod_slice hu h with ⟨e,-⟩ | ⟨a,len,cap,elems,rest,m,rfl,e,hx6,-,hl,hm,hlen,hel,-,-⟩
 ·simp only [List.cons.injEq,and_true] at e
  subst e
  exact ⟨[],none,0,rfl,Nat.le_refl _,fun _ => rfl,fun h => by simp at h,by simp,by simp⟩
 ·simp only [List.cons.injEq,and_true] at e
  subst e
  rw [hn] at hel
  have hbk : Rows.uptoBulkAll (elems.map (·.1)) ≤ Rows.uptoBulk x.1:=by rw [hx6]; simp only [Rows.uptoBulk]; omega
  have hbl:=ry (elems.map (·.1))
  simp only [List.length_map] at hbl
  have each' : ∀ i,i < len → ∃ (t : α),(∃ cs,cs.length = n ∧ (∀ j,j < n → W.cell? ((a.add (i * n)).add j) = cs[j]?) ∧ C cs t) ∧ F (Rows.uptoBulk x.1) t:=by
   intro i hi
   have he:=hel i hi
   rw [List.getElem?_eq_getElem (by omega)] at he
   obtain ⟨cs',hc1,hc2⟩:=Option.bind_eq_some_iff.1 he
   obtain ⟨t,hl',h6,h7⟩:=each m (by omega) cs' _ hc2
   exact ⟨t,⟨cs',hl',(World.cells?_some hc1).2.2,h6⟩,hF _ _ _ (Nat.le_trans (wK (List.mem_map_of_mem (List.getElem_mem _))) hbk) h7⟩
  obtain ⟨T,hT⟩:=choose_lt each'
  refine ⟨(List.range len).map T,some a,cap,by simp,by rw [List.length_map,List.length_range]; omega,(fun e => by cases e),fun h0 => ?_,by simp; omega,?_⟩
  ·simp only [List.length_map,List.length_range] at h0
   obtain ⟨b,off,spot⟩:=a
   have hspot : spot = none:=by
    obtain ⟨⟨cs,hl',hc,_⟩,_⟩:=hT 0 h0
    have:=hc 0 h0n
    rw [List.getElem?_eq_getElem (by omega)] at this
    simp only [Nat.zero_mul] at this
    simpa [Addr.add] using World.cell?_spot this
   subst hspot
   refine ⟨b,off,rfl,fun i t hi => ?_⟩
   simp only [List.getElem?_map,Option.map_eq_some_iff] at hi
   obtain ⟨j,hj,rfl⟩:=hi
   obtain ⟨hj1,hj2⟩:=List.getElem?_eq_some_iff.1 hj
   simp only [List.length_range,List.getElem_range] at hj1 hj2
   subst hj2
   obtain ⟨⟨cs,hl',hc,h6⟩,_⟩:=hT i hj1
   refine ⟨cs,hl',fun j v hv => ?_,h6⟩
   have hj : j < n:=by have:=(List.getElem?_eq_some_iff.1 hv).1; omega
   have:=hc j hj
   rw [Go.WideShapes.add_plain,Go.WideShapes.add_plain,hv] at this
   exact this
  ·intro t ht
   obtain ⟨i,hi,rfl⟩:=List.mem_map.1 ht
   exact (hT i (List.mem_range.1 hi)).2
end
end Go.Proofs.YtpidjanngbaiiaaGreatDoor
namespace Go.Proofs.YtpidjanngbaiiaaGreatDoor
open Go.ChangeShapes Go.WideShapes Go.ChangeAt Go.RowKit Go.Joins Go.Lib Go.Deep
set_option maxRecDepth 100000
set_option maxHeartbeats 32000000

theorem EF : Tryz.prog.cellsOf 85 = 19:=by kernel_rfl
theorem cellsPrs : Tryz.prog.cellsOf 83 = 1:=by kernel_rfl
theorem H6 : Tryz.prog.cellsOf 87 = 24:=by kernel_rfl
theorem cellsInts : Tryz.prog.cellsOf 82 = 1:=by kernel_rfl
theorem cellsPg : Tryz.prog.cellsOf 45 = 1:=by kernel_rfl
section
variable {H : Type} {enc : TypeId × Value → H} {W : World}
theorem open_exs {fuel : Nat} {c : Value} {x : DataW H × List MemPlace} (h : DataW.trod enc Tryz.prog W 0 (fun _ => true) true fuel 50 [c] = some x) :
  ∃ l : List Ex,uz All W c l ∧ l.length ≤ Rows.uptoBulk x.1 ∧ ∀ t ∈ l,bI (Rows.uptoBulk x.1) t:=by
 haveI : Inhabited Ex:=⟨LD⟩
 obtain ⟨l,A,cap,rfl,h1,hz,h2,h3,h4⟩:=open_row (enc:=enc) (W:=W) Tryz.underlying50 6 BD (by decide) (fun cs (t : Ex) => ∃ kv,cs = [.int .i64 t.kind,.string ⟨t.name.toArray⟩,.int .i64 t.vs,.int .i64 t.vn,.string ⟨t.vt.toArray⟩,kv] ∧ uz All W kv t.kids) (fun N t => bI N t) (fun N M a h1 h2 => h2.mono h1) fuel (fun m _ cs x hx => by
  obtain ⟨t,kv,rfl,h1,h2⟩:=yH m cs x hx
  exact ⟨t,rfl,⟨kv,rfl,h1⟩,h2⟩) h
 refine ⟨l,⟨A,cap,rfl,h1,hz,fun h0 => ?_⟩,h3,h4⟩
 obtain ⟨b,off,rfl,hr⟩:=h2 h0
 refine ⟨b,off,rfl,trivial,BM fun i t hi => ?_⟩
 obtain ⟨cs,-,hc,kv,rfl,hk⟩:=hr i t hi
 exact (uG _ _ _ _ _).2 ⟨kv,hc 0 _ rfl,hc 1 _ rfl,hc 2 _ rfl,hc 3 _ rfl,hc 4 _ rfl,hc 5 _ rfl,hk⟩
theorem isStrs_same {w : World} {v : Value} {l m : List Str} (h1 : aF w v l) (h2 : aF w v m) : l = m:=by
 obtain ⟨A,c,e1,-,h1⟩:=h1
 obtain ⟨A',c',e2,-,h2⟩:=h2
 rw [e1] at e2
 injection e2 with e2 e3 e4
 subst e2
 refine List.ext_getElem? fun i => ?_
 by_cases hi : i < l.length
 ·obtain ⟨b,off,e5,h1⟩:=h1 (by omega)
  obtain ⟨b',off',e6,h2⟩:=h2 (by omega)
  rw [e5] at e6
  have:=Option.some.inj e6
  injection this with e7 e8
  subst e7 e8
  have g1:=h1 i _ (List.getElem?_eq_getElem hi)
  have g2:=h2 i _ (List.getElem?_eq_getElem (by omega))
  rw [g1] at g2
  have:=Option.some.inj g2
  injection this with this
  injection this with this
  have:=congrArg Array.toList this
  simp only [List.toList_toArray] at this
  rw [List.getElem?_eq_getElem hi,List.getElem?_eq_getElem (by omega),this]
 ·rw [List.getElem?_eq_none (by omega),List.getElem?_eq_none (by omega)]
theorem wH {w : World} {v : Value} {l : List Str} (h : aF w v l) : bD All w v l:=h.toD.keep (Same.refl _ _) fun _ _ _ => trivial
theorem wf_ty {t : Ty} (h : Fit t) : (Lit.int .i64 t.kind).wf = true ∧ (Lit.int .i64 t.sort).wf = true ∧ ∀ k ∈ t.kids,Fit k:=by
 cases h with
 | mk k s n ls ks hk hs hn hl hls hc hks => exact ⟨hk,hs,hks⟩
theorem tysD_any {w : World} {lv kv : Value} {t : Ty} (h1 : aF w lv t.labels) (h2 : qg w kv t.kids) : qZ All w kv t.kids:=by
 have h : ny w (.agg #[.int .i64 t.kind,.int .i64 t.sort,.string ⟨t.name.toArray⟩,lv,kv]) t:=⟨lv,kv,rfl,h1,h2⟩
 obtain ⟨TY,kv',e,d1,d2⟩:=h.toD
 have e' : (#[.int .i64 t.kind,.int .i64 t.sort,.string ⟨t.name.toArray⟩,lv,kv] : Array Value) = #[.int .i64 t.kind,.int .i64 t.sort,.string ⟨t.name.toArray⟩,TY,kv']:=Value.agg.inj e
 have e2 : kv = kv':=by simpa using congrArg (fun a : Array Value => a.toList.getLast?) e'
 rw [e2]
 exact d2.keep (Same.refl _ _) fun _ _ _ => trivial
theorem Ei {w : World} {v : Value} {l : List Ty} (h : qg w v l) : qZ All w v l :=
 tysD_any (t:=.mk 0 0 [] [] l) (lv:=.slice none 0 0) ⟨none,0,rfl,Nat.le_refl _,fun h => absurd h (Nat.lt_irrefl 0)⟩ h
theorem FU {fuel : Nat} {c : Value} {x : DataW H × List MemPlace} (h : DataW.trod enc Tryz.prog W 0 (fun _ => true) true fuel 28 [c] = some x) :
  ∃ l : List Ty,qg W c l ∧ l.length ≤ Rows.uptoBulk x.1 ∧ ∀ t ∈ l,Fit t:=by
 haveI : Inhabited Ty:=⟨.mk 0 0 [] [] []⟩
 obtain ⟨l,A,cap,rfl,h1,-,h2,h3,h4⟩:=open_row (enc:=enc) (W:=W) Tryz.underlying28 5 zq (by decide) (fun cs (t : Ty) => ∃ lv kv,cs = [.int .i64 t.kind,.int .i64 t.sort,.string ⟨t.name.toArray⟩,lv,kv] ∧ aF W lv t.labels ∧ qg W kv t.kids) (fun _ t => Fit t) (fun N M a _ h2 => h2) fuel (fun m _ cs x hx => by
  obtain ⟨t,lv,kv,rfl,h1,h2,h3⟩:=wX m cs x hx
  exact ⟨t,rfl,⟨lv,kv,rfl,h1,h2⟩,h3⟩) h
 refine ⟨l,⟨A,cap,rfl,h1,fun h0 => ?_⟩,h3,h4⟩
 obtain ⟨b,off,rfl,hr⟩:=h2 h0
 refine ⟨b,off,rfl,Ff fun i t hi => ?_⟩
 obtain ⟨cs,-,hc,lv,kv,rfl,hk1,hk2⟩:=hr i t hi
 exact (xq _ _ _ _).2 ⟨lv,kv,hc 0 _ rfl,hc 1 _ rfl,hc 2 _ rfl,hc 3 _ rfl,hc 4 _ rfl,hk1,hk2⟩
theorem open_type_cells_b {fuel : Nat} {cs : List Value} {x : DataW H × List MemPlace} (h : DataW.trod enc Tryz.prog W 0 (fun _ => true) true fuel 30 cs = some x) :
  ∃ (t : Ty) (lv kv : Value),cs = [.int .i64 t.kind,.int .i64 t.sort,.string ⟨t.name.toArray⟩,lv,kv] ∧ aF W lv t.labels ∧ qg W kv t.kids ∧ Fit t ∧ t.name.length ≤ Rows.uptoBulk x.1 ∧ t.labels.length ≤ Rows.uptoBulk x.1 ∧ (∀ l ∈ t.labels,l.length ≤ Rows.uptoBulk x.1) ∧ t.kids.length ≤ Rows.uptoBulk x.1:=by
 obtain ⟨n,rfl,hl,hf⟩:=vW Tryz.underlying30 (by kernel_rfl) zq h
 obtain ⟨c0,c1,c2,c3,c4,rfl⟩ : ∃ c0 c1 c2 c3 c4,cs = [c0,c1,c2,c3,c4]:=by
  match cs,hl with
  | [c0,c1,c2,c3,c4],_ => exact ⟨c0,c1,c2,c3,c4,rfl⟩
 obtain ⟨_,x0,e,h0,b0⟩:=hf 0 _ rfl
 obtain rfl:=Option.some.inj e
 obtain ⟨_,x1,e,h1,b1⟩:=hf 1 _ rfl
 obtain rfl:=Option.some.inj e
 obtain ⟨_,x2,e,h2,b2⟩:=hf 2 _ rfl
 obtain rfl:=Option.some.inj e
 obtain ⟨_,x3,e,h3,b3⟩:=hf 3 _ rfl
 obtain rfl:=Option.some.inj e
 obtain ⟨_,x4,e,h4,b4⟩:=hf 4 _ rfl
 obtain rfl:=Option.some.inj e
 obtain ⟨k,e0,-,hk⟩:=DataW.trod_int Tryz.underlying3 h0
 obtain ⟨s,e1,-,hs⟩:=DataW.trod_int Tryz.underlying3 h1
 obtain ⟨nm,e2,hx2,hn⟩:=DataW.trod_string Tryz.underlying9 h2
 obtain ⟨lv,ls,e3,hl1,hl2,hl3⟩:=rH h3
 obtain ⟨ks,hk1,hk2,hk3⟩:=FU h4
 obtain ⟨t,TY,kv',e,g1,g2,g3⟩:=wX _ _ _ h
 refine ⟨t,TY,kv',e,g1,g2,g3,?_⟩
 simp only [List.cons.injEq,and_true] at e0 e1 e2 e3 e
 obtain ⟨-,-,e6,e7,e8⟩:=e
 rw [e2] at e6
 rw [e3] at e7
 subst e7 e8
 have en : nm.data.toList = t.name:=by injection e6 with e6; rw [e6]
 have el:=isStrs_same hl1 g1
 have ek : ks.length = t.kids.length:=by
  obtain ⟨_,_,q1,-⟩:=hk1
  obtain ⟨_,_,q2,-⟩:=g2
  rw [q1] at q2
  injection q2
 subst el
 refine ⟨?_,Nat.le_trans hl2 b3,fun l hl => Nat.le_trans (hl3 l hl) b3,by rw [← ek]; exact Nat.le_trans hk2 b4⟩
 rw [← en]
 refine Nat.le_trans ?_ b2
 rw [hx2]
 simp only [Rows.uptoBulk]
 omega
theorem open_pr_cells : ∀ (fuel : Nat) (cs : List Value) (x : DataW H × List MemPlace),DataW.trod enc Tryz.prog W 0 (fun _ => true) true fuel 85 cs = some x →
  ∃ (t : Pr),Gp All W cs t ∧ bF (Rows.uptoBulk x.1) t:=by
 intro fuel
 induction fuel using Nat.strongRecOn with
 | _ fuel ih =>
 intro cs x h
 obtain ⟨xs,n,rfl,rfl,hl,hlen,hf⟩:=DataW.trod_struct Tryz.underlying85 h
 rw [EF] at hl
 obtain ⟨c0,c1,c2,c3,c4,c5,c6,c7,c8,c9,c10,c11,c12,c13,c14,c15,c16,c17,c18,rfl⟩ : ∃ c0 c1 c2 c3 c4 c5 c6 c7 c8 c9 c10 c11 c12 c13 c14 c15 c16 c17 c18,cs = [c0,c1,c2,c3,c4,c5,c6,c7,c8,c9,c10,c11,c12,c13,c14,c15,c16,c17,c18]:=by
  match cs,hl with
  | [c0,c1,c2,c3,c4,c5,c6,c7,c8,c9,c10,c11,c12,c13,c14,c15,c16,c17,c18],_ => exact ⟨c0,c1,c2,c3,c4,c5,c6,c7,c8,c9,c10,c11,c12,c13,c14,c15,c16,c17,c18,rfl⟩
 obtain ⟨y0,y1,y2,y3,y4,y5,y6,y7,y8,y9,rfl⟩ : ∃ y0 y1 y2 y3 y4 y5 y6 y7 y8 y9,xs = [y0,y1,y2,y3,y4,y5,y6,y7,y8,y9]:=by
  match xs,hlen with
  | [y0,y1,y2,y3,y4,y5,y6,y7,y8,y9],_ => exact ⟨y0,y1,y2,y3,y4,y5,y6,y7,y8,y9,rfl⟩
 have h0 : DataW.trod enc Tryz.prog W 0 (fun _ => true) true n 3 (([c0,c1,c2,c3,c4,c5,c6,c7,c8,c9,c10,c11,c12,c13,c14,c15,c16,c17,c18].drop 0).take (Tryz.prog.cellsOf 3)) = some y0:=hf 0 _ rfl
 rw [Ci] at h0
 simp only [List.drop,List.take] at h0
 have h1 : DataW.trod enc Tryz.prog W 0 (fun _ => true) true n 9 (([c0,c1,c2,c3,c4,c5,c6,c7,c8,c9,c10,c11,c12,c13,c14,c15,c16,c17,c18].drop 1).take (Tryz.prog.cellsOf 9)) = some y1:=hf 1 _ rfl
 rw [qH] at h1
 simp only [List.drop,List.take] at h1
 have h2 : DataW.trod enc Tryz.prog W 0 (fun _ => true) true n 9 (([c0,c1,c2,c3,c4,c5,c6,c7,c8,c9,c10,c11,c12,c13,c14,c15,c16,c17,c18].drop 2).take (Tryz.prog.cellsOf 9)) = some y2:=hf 2 _ rfl
 rw [qH] at h2
 simp only [List.drop,List.take] at h2
 have h3 : DataW.trod enc Tryz.prog W 0 (fun _ => true) true n 9 (([c0,c1,c2,c3,c4,c5,c6,c7,c8,c9,c10,c11,c12,c13,c14,c15,c16,c17,c18].drop 3).take (Tryz.prog.cellsOf 9)) = some y3:=hf 3 _ rfl
 rw [qH] at h3
 simp only [List.drop,List.take] at h3
 have h4 : DataW.trod enc Tryz.prog W 0 (fun _ => true) true n 52 (([c0,c1,c2,c3,c4,c5,c6,c7,c8,c9,c10,c11,c12,c13,c14,c15,c16,c17,c18].drop 4).take (Tryz.prog.cellsOf 52)) = some y4:=hf 4 _ rfl
 rw [BD] at h4
 simp only [List.drop,List.take] at h4
 have h5 : DataW.trod enc Tryz.prog W 0 (fun _ => true) true n 50 (([c0,c1,c2,c3,c4,c5,c6,c7,c8,c9,c10,c11,c12,c13,c14,c15,c16,c17,c18].drop 10).take (Tryz.prog.cellsOf 50)) = some y5:=hf 5 _ rfl
 rw [Fh] at h5
 simp only [List.drop,List.take] at h5
 have h6 : DataW.trod enc Tryz.prog W 0 (fun _ => true) true n 27 (([c0,c1,c2,c3,c4,c5,c6,c7,c8,c9,c10,c11,c12,c13,c14,c15,c16,c17,c18].drop 11).take (Tryz.prog.cellsOf 27)) = some y6:=hf 6 _ rfl
 rw [yg] at h6
 simp only [List.drop,List.take] at h6
 have h7 : DataW.trod enc Tryz.prog W 0 (fun _ => true) true n 30 (([c0,c1,c2,c3,c4,c5,c6,c7,c8,c9,c10,c11,c12,c13,c14,c15,c16,c17,c18].drop 12).take (Tryz.prog.cellsOf 30)) = some y7:=hf 7 _ rfl
 rw [zq] at h7
 simp only [List.drop,List.take] at h7
 have h8 : DataW.trod enc Tryz.prog W 0 (fun _ => true) true n 27 (([c0,c1,c2,c3,c4,c5,c6,c7,c8,c9,c10,c11,c12,c13,c14,c15,c16,c17,c18].drop 17).take (Tryz.prog.cellsOf 27)) = some y8:=hf 8 _ rfl
 rw [yg] at h8
 simp only [List.drop,List.take] at h8
 have h9 : DataW.trod enc Tryz.prog W 0 (fun _ => true) true n 83 (([c0,c1,c2,c3,c4,c5,c6,c7,c8,c9,c10,c11,c12,c13,c14,c15,c16,c17,c18].drop 18).take (Tryz.prog.cellsOf 83)) = some y9:=hf 9 _ rfl
 rw [cellsPrs] at h9
 simp only [List.drop,List.take] at h9
 obtain ⟨kind,e0,-,hk⟩:=DataW.trod_int Tryz.underlying3 h0
 obtain ⟨chan,e1,hx1,hn1⟩:=DataW.trod_string Tryz.underlying9 h1
 obtain ⟨name,e2,hx2,hn2⟩:=DataW.trod_string Tryz.underlying9 h2
 obtain ⟨label,e3,hx3,hn3⟩:=DataW.trod_string Tryz.underlying9 h3
 obtain ⟨ex,v1,e4,q1,hex⟩:=yH n _ _ h4
 obtain ⟨exs,q2,g2,g2'⟩:=open_exs h5
 obtain ⟨v3,names,e6,q3,g3,g3'⟩:=rH h6
 obtain ⟨ty,v4,v5,e7,q4,q5,hty,ht1,ht2,ht3,ht4⟩:=open_type_cells_b h7
 obtain ⟨v6,labels,e8,q6,g6,g6'⟩:=rH h8
 simp only [List.cons.injEq,and_true] at e0 e1 e2 e3 e4 e6 e7 e8
 obtain ⟨e40,e41,e42,e43,e44,e45⟩:=e4
 obtain ⟨e70,P7,P8,P9,e74⟩:=e7
 subst e0 e1 e2 e3 e40 e41 e42 e43 e44 e45 e6 e70 P7 P8 P9 e74 e8
 have Na : Rows.uptoBulk (DataW.agg ([y0,y1,y2,y3,y4,y5,y6,y7,y8,y9].map (·.1))) = Rows.uptoBulk y0.1 + (Rows.uptoBulk y1.1 + (Rows.uptoBulk y2.1 + (Rows.uptoBulk y3.1 + (Rows.uptoBulk y4.1 + (Rows.uptoBulk y5.1 + (Rows.uptoBulk y6.1 + (Rows.uptoBulk y7.1 + (Rows.uptoBulk y8.1 + (Rows.uptoBulk y9.1 + 0))))))))) + 1:=by simp only [List.map,Rows.uptoBulk,Rows.uptoBulkAll]
 haveI : Inhabited Pr:=⟨xY⟩
 obtain ⟨kids,A,cap,rfl,hle,hz,hrow,g7,g7'⟩:=open_row (enc:=enc) (W:=W) Tryz.underlying83 19 EF (by decide) (Gp All W) (fun N t => bF N t) (fun N M a h1 h2 => h2.mono h1) n (fun m hm cs x hx => by
  obtain ⟨t,h1,h2⟩:=ih m (by omega) cs x hx
  exact ⟨t,h1.len,h1,h2⟩) h9
 have q7 : yC All W (.slice A kids.length cap) kids:=by
  refine ⟨A,cap,rfl,hle,hz,fun h0 => ?_⟩
  obtain ⟨b,off,rfl,hr⟩:=hrow h0
  refine ⟨b,off,rfl,trivial,Fa fun i t hi => ?_⟩
  obtain ⟨cs,-,hc,hp⟩:=hr i t hi
  exact yQ.of_range hc hp
 obtain ⟨hx1',hx2',hx3',hx4',hx5',hx6',hx7'⟩:=hex.parts
 have htf:=wf_ty hty
 have p1 : chan.data.toList.length ≤ Rows.uptoBulk y1.1:=by rw [hx1]; simp only [Rows.uptoBulk]; omega
 have p2 : name.data.toList.length ≤ Rows.uptoBulk y2.1:=by rw [hx2]; simp only [Rows.uptoBulk]; omega
 have p3 : label.data.toList.length ≤ Rows.uptoBulk y3.1:=by rw [hx3]; simp only [Rows.uptoBulk]; omega
 refine ⟨.mk kind chan.data.toList name.data.toList label.data.toList ex.kind ex.name ex.vs ex.vn ex.vt ex.kids exs names ty.kind ty.sort ty.name ty.labels ty.kids labels kids,?_,?_⟩
 ·refine ⟨_,c10,c11,c15,c16,c17,_,?_,q1,q2,wH q3,wH q4,Ei q5,wH q6,q7⟩
  simp only [Pr.aN,Pr.aT,Pr.aI,Pr.aW,Pr.jm,Pr.jo,Pr.jq,Pr.jv,Pr.jr,Pr.aY,Pr.aV,Pr.aU,Pr.jg,Pr.ji,Pr.jh,Pr.jA,Pr.aX,Pr.aH,Pr.aK,mk_data]
 ·rw [Na]
  refine .mk _ _ _ _ _ _ _ _ _ _ _ _ _ _ _ _ _ _ _ hk ?_ ?_ ?_ hx1' ?_ hx3' hx4' ?_ ?_ (fun t ht => (hx7' t ht).mono ?_) ?_ (fun t ht => (g2' t ht).mono ?_) ?_ (fun s hs => Nat.le_trans (g3' s hs) ?_) htf.1 htf.2.1 ?_ ?_ (fun s hs => Nat.le_trans (ht3 s hs) ?_) ?_ htf.2.2 ?_ (fun s hs => Nat.le_trans (g6' s hs) ?_) ?_ (fun t ht => (g7' t ht).mono ?_)
  all_goals omega
theorem open_df_cells {fuel : Nat} {cs : List Value} {x : DataW H × List MemPlace} (h : DataW.trod enc Tryz.prog W 0 (fun _ => true) true fuel 87 cs = some x) : ∃ d : Df,Gh All W cs d ∧ oh (Rows.uptoBulk x.1) d:=by
 obtain ⟨xs,n,rfl,rfl,hl,hlen,hf⟩:=DataW.trod_struct Tryz.underlying87 h
 rw [H6] at hl
 obtain ⟨c0,c1,c2,c3,c4,c5,c6,c7,c8,c9,c10,c11,c12,c13,c14,c15,c16,c17,c18,c19,c20,c21,LJ,c23,rfl⟩ : ∃ c0 c1 c2 c3 c4 c5 c6 c7 c8 c9 c10 c11 c12 c13 c14 c15 c16 c17 c18 c19 c20 c21 LJ c23,cs = [c0,c1,c2,c3,c4,c5,c6,c7,c8,c9,c10,c11,c12,c13,c14,c15,c16,c17,c18,c19,c20,c21,LJ,c23]:=by
  match cs,hl with
  | [c0,c1,c2,c3,c4,c5,c6,c7,c8,c9,c10,c11,c12,c13,c14,c15,c16,c17,c18,c19,c20,c21,LJ,c23],_ => exact ⟨c0,c1,c2,c3,c4,c5,c6,c7,c8,c9,c10,c11,c12,c13,c14,c15,c16,c17,c18,c19,c20,c21,LJ,c23,rfl⟩
 obtain ⟨y0,y1,y2,y3,y4,y5,rfl⟩ : ∃ y0 y1 y2 y3 y4 y5,xs = [y0,y1,y2,y3,y4,y5]:=by
  match xs,hlen with
  | [y0,y1,y2,y3,y4,y5],_ => exact ⟨y0,y1,y2,y3,y4,y5,rfl⟩
 have h0 : DataW.trod enc Tryz.prog W 0 (fun _ => true) true n 9 (([c0,c1,c2,c3,c4,c5,c6,c7,c8,c9,c10,c11,c12,c13,c14,c15,c16,c17,c18,c19,c20,c21,LJ,c23].drop 0).take (Tryz.prog.cellsOf 9)) = some y0:=hf 0 _ rfl
 rw [qH] at h0
 simp only [List.drop,List.take] at h0
 have h1 : DataW.trod enc Tryz.prog W 0 (fun _ => true) true n 27 (([c0,c1,c2,c3,c4,c5,c6,c7,c8,c9,c10,c11,c12,c13,c14,c15,c16,c17,c18,c19,c20,c21,LJ,c23].drop 1).take (Tryz.prog.cellsOf 27)) = some y1:=hf 1 _ rfl
 rw [yg] at h1
 simp only [List.drop,List.take] at h1
 have h2 : DataW.trod enc Tryz.prog W 0 (fun _ => true) true n 82 (([c0,c1,c2,c3,c4,c5,c6,c7,c8,c9,c10,c11,c12,c13,c14,c15,c16,c17,c18,c19,c20,c21,LJ,c23].drop 2).take (Tryz.prog.cellsOf 82)) = some y2:=hf 2 _ rfl
 rw [cellsInts] at h2
 simp only [List.drop,List.take] at h2
 have h3 : DataW.trod enc Tryz.prog W 0 (fun _ => true) true n 27 (([c0,c1,c2,c3,c4,c5,c6,c7,c8,c9,c10,c11,c12,c13,c14,c15,c16,c17,c18,c19,c20,c21,LJ,c23].drop 3).take (Tryz.prog.cellsOf 27)) = some y3:=hf 3 _ rfl
 rw [yg] at h3
 simp only [List.drop,List.take] at h3
 have h4 : DataW.trod enc Tryz.prog W 0 (fun _ => true) true n 28 (([c0,c1,c2,c3,c4,c5,c6,c7,c8,c9,c10,c11,c12,c13,c14,c15,c16,c17,c18,c19,c20,c21,LJ,c23].drop 4).take (Tryz.prog.cellsOf 28)) = some y4:=hf 4 _ rfl
 rw [cellsTys] at h4
 simp only [List.drop,List.take] at h4
 have h5 : DataW.trod enc Tryz.prog W 0 (fun _ => true) true n 85 (([c0,c1,c2,c3,c4,c5,c6,c7,c8,c9,c10,c11,c12,c13,c14,c15,c16,c17,c18,c19,c20,c21,LJ,c23].drop 5).take (Tryz.prog.cellsOf 85)) = some y5:=hf 5 _ rfl
 rw [EF] at h5
 simp only [List.drop,List.take] at h5
 obtain ⟨name,e0,hx0,hn0⟩:=DataW.trod_string Tryz.underlying9 h0
 obtain ⟨v1,vals,e1,q1,g1,g1'⟩:=rH h1
 obtain ⟨v2,sorts,e2,q2,g2,g2'⟩:=open_ints_b h2
 obtain ⟨v3,chans,e3,q3,g3,g3'⟩:=rH h3
 obtain ⟨types,q4,g4,g4'⟩:=FU h4
 obtain ⟨body,q5,g5⟩:=open_pr_cells n _ _ h5
 simp only [List.cons.injEq,and_true] at e0 e1 e2 e3
 subst e0 e1 e2 e3
 have Na : Rows.uptoBulk (DataW.agg ([y0,y1,y2,y3,y4,y5].map (·.1))) = Rows.uptoBulk y0.1 + (Rows.uptoBulk y1.1 + (Rows.uptoBulk y2.1 + (Rows.uptoBulk y3.1 + (Rows.uptoBulk y4.1 + (Rows.uptoBulk y5.1 + 0))))) + 1:=by simp only [List.map,Rows.uptoBulk,Rows.uptoBulkAll]
 have p1 : name.data.toList.length ≤ Rows.uptoBulk y0.1:=by rw [hx0]; simp only [Rows.uptoBulk]; omega
 refine ⟨⟨name.data.toList,vals,sorts,chans,types,body⟩,⟨c1,c2,c3,c4,_,?_,wH q1,q2,wH q3,Ei q4,q5⟩,?_⟩
 ·simp only [mk_data]
 ·rw [Na]
  refine ⟨?_,?_,fun s hs => Nat.le_trans (g1' s hs) ?_,?_,g2',?_,fun s hs => Nat.le_trans (g3' s hs) ?_,?_,g4',g5.mono ?_⟩
  all_goals (try dsimp only)
  all_goals omega
theorem open_prog {r : Reach} {b0 : Nat} {v : Value} {d : DataW H} {p : List MemPlace} (hv : Value.okWide Tryz.prog W r b0 45 v) (h : DataW.Trod enc Tryz.prog W 0 (fun _ => true) true 45 v d p) :
  ∃ (l : List Df) (u : Value),v = .agg #[u] ∧ zX All W u l ∧ l.length ≤ Rows.uptoBulk d ∧ ∀ x ∈ l,oh (Rows.uptoBulk d) x:=by
 obtain ⟨cs,rfl,hc⟩:=okWide_struct Tryz.underlying45 hv
 obtain ⟨fuel,h⟩:=h
 have h' : DataW.trod enc Tryz.prog W 0 (fun _ => true) true fuel 45 cs.toList = some _:=h
 obtain ⟨n,rfl,hl,hf⟩:=vW Tryz.underlying45 (by kernel_rfl) cellsPg h'
 obtain ⟨c0,e0⟩ : ∃ c0,cs.toList = [c0]:=by
  match cs.toList,hl with
  | [c0],_ => exact ⟨c0,rfl⟩
 have e0' : cs = #[c0]:=by rw [← Array.toArray_toList (xs:=cs),e0]
 subst e0'
 obtain ⟨_,x0,e,h0,b0⟩:=hf 0 _ rfl
 obtain rfl:=Option.some.inj e
 haveI : Inhabited Df:=⟨⟨[],[],[],[],[],xY⟩⟩
 obtain ⟨l,A,cap,rfl,h1,-,h2,h3,h4⟩:=open_row (enc:=enc) (W:=W) Tryz.underlying43 24 H6 (by decide) (Gh All W) (fun N t => oh N t) (fun N M a h1 h2 => h2.mono h1) _ (fun m _ cs x hx => by
  obtain ⟨t,h1,h2⟩:=open_df_cells hx
  exact ⟨t,h1.len,h1,h2⟩) h0
 refine ⟨l,_,rfl,⟨A,cap,rfl,h1,fun h0 => ?_⟩,Nat.le_trans h3 b0,fun x hx => (h4 x hx).mono b0⟩
 obtain ⟨b,off,rfl,hr⟩:=h2 h0
 exact ⟨b,off,rfl,trivial,hr⟩
end
end Go.Proofs.YtpidjanngbaiiaaGreatDoor
