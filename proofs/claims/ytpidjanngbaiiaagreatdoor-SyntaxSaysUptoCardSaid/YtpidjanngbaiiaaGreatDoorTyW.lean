/-
  The reference's Type answers 'tyErr'.
-/
import Derived.Test.YtpidjanngbaiiaaGreatDoorM7
import Derived.Test.YtpidjanngbaiiaaGreatDoorM8
namespace Go.Proofs.YtpidjanngbaiiaaGreatDoor
open Go.RowKit Go.Proofs
set_option maxRecDepth 100000
set_option maxHeartbeats 32000000

theorem wU (w : World) (a b c d e f : Value) (E : TypeId) : ∀ j u,[a,b,c,d,e,f][j]? = some u → (w.alloc (.cells #[a,b,c,d,e,f] E)).cell? ((⟨w.heap.size,0,none⟩ : Addr).add j) = some u:=by
 intro j u hj
 rw [Go.WideShapes.add_plain]
 match j,hj with
 | 0,hj | 1,hj | 2,hj | 3,hj | 4,hj | 5,hj => simp at hj; subst hj; simp [go_sem]
 | j + 6,hj => simp at hj
theorem vg {ks : List Ty} {ns : List Str} {j : Nat} {c : Ty} (h : ks[j]? = some c) : ((ks.take (j + 1)).map fun c => (c,ns)) = ((ks.take j).map fun c => (c,ns)) ++ [(c,ns)]:=by
 rw [List.take_add_one,h]; simp
theorem slice_one (b off n cap : Nat) (h0 : n + 1 ≤ cap) (hn : n ≤ 100000) (w : World) : (Instr.sliceAt 124 (.slice (some ⟨b,off,none⟩) (n + 1) cap) (some (.int .i64 1)) none none).run Tryz.prog w = .ok (.slice (some ⟨b,if cap = 1 then off else off + 6,none⟩) n (cap - 1)) w:=by
 have h1 : (1 : Int) ≤ (n : Int) + 1:=by omega
 by_cases h : cap = 1
 ·subst h
  obtain rfl : n = 0:=by omega
  go_simp
 ·have hc : 1 ≤ cap:=by omega
  rw [if_neg h]
  go_simp
theorem xR (t : Ty) (v : Value) (w : World) (hv : ny w v t) (hf : Fit t) :
  Calls Tryz.prog 25 #[v] w fun e w' => e = .returned (.int .i64 (pg t)) ∧ Below w.heap.size w w':=by
 have HZ:=zH hv
 have hans:=tyErr_list t
 obtain ⟨ANS,hA⟩ : ∃ x,pg t = x:=⟨_,rfl⟩
 rw [hA] at hans ⊢; clear hA
 have HA:=zH hans; clear hans
 obtain ⟨lv,kv,rfl,h1,h2⟩:=hv
 have HZ1:=zH h1; have HZ2:=zH h2
 obtain ⟨A0,p0,rfl,-,-⟩:=h1
 obtain ⟨A,cap,rfl,-,-⟩:=h2
 go_enter Tryz.func25,Tryz.ntmps25
 go_wp2_with fail
 go_loopw [3,4] (fun lst n wr => ∃ (k : Nat) (st : List Bq),k ≤ 60 ∧ n = .int .i64 k ∧ qM wr lst st ∧ (∀ x ∈ st,Fit x.1 ∧ x.2.length ≤ k ∧ ∀ s ∈ x.2,s.length ≤ maxLen) ∧ st.length ≤ 1 + 6 * k ∧ Hid (nM (60 - k) st = ANS) ∧ Below w.heap.size w wr) (fun _ n _ => 61 - (intOf n).toNat)
 case atStart =>
  refine ⟨0,[(t,[])],by omega,rfl,?_,?_,by simp,HA,by go_grown⟩
  ·refine ⟨some ⟨w.heap.size + 1,0,none⟩,1,[.int .i64 t.kind,.int .i64 t.sort,.string ⟨t.name.toArray⟩,.slice A0 t.labels.length p0,.slice A t.kids.length cap,.slice none 0 0],rfl,Nat.le_refl _,.cons t [] _ _ _ [] [] (HZ1.out.keep (by go_grown)) (HZ2.out.keep (by go_grown)) (Names.none _) .nil,(fun e => by cases e),fun ad e => ?_⟩
   cases e
   have h:=wU (w.alloc (.cells #[.int .i64 t.kind,.int .i64 t.sort,.string ⟨t.name.toArray⟩,.slice A0 t.labels.length p0,.slice A t.kids.length cap] 30)) (.int .i64 t.kind) (.int .i64 t.sort) (.string ⟨t.name.toArray⟩) (.slice A0 t.labels.length p0) (.slice A t.kids.length cap) (.slice none 0 0) 123
   rw [World.size_alloc] at h
   exact ⟨rfl,h⟩
  ·intro x hx
   rw [List.mem_singleton.1 hx]
   exact ⟨hf,by simp,by simp⟩
 case round =>
  obtain ⟨k,st,hk,rfl,hst,hfit,hlen,hans,hb⟩:=hrel
  cases st with
  | nil =>
   obtain ⟨A,cap,xs,rfl,_⟩:=hst
   have HE:=hans
   clear hans
   go_wp2_with fail
   go_ret
   refine ⟨?_,hb⟩
   rw [← HE.out]
   cases 60 - k <;> rfl
  | cons x st =>
   obtain ⟨u,ns⟩:=x
   obtain ⟨hfu,hnl,hns⟩:=hfit (u,ns) (by simp)
   have hst0:=hst
   obtain ⟨A,cap,xs,rfl,-⟩:=hst0
   obtain ⟨-,hcap,b,off,lv,kv,nv,rfl,c0,c1,c2,c3,c4,c5,hl1,hl2,hl3,hrest⟩:=hst.head
   have HR:=zH hrest; have H1:=zH hl1; have H2:=zH hl2; have H3:=zH hl3
   obtain ⟨A1,p1,rfl,-,-⟩:=hl1
   obtain ⟨A2,p2,rfl,-,-⟩:=hl2
   obtain ⟨A3,p3,rfl,-,-⟩:=hl3.s
   have O8:=zH hfit; have Ph:=zH hns; have Eu:=zH hfu
   have Ju : cap = 1 → qM wr (.slice (some ⟨b,off,none⟩) st.length 0) st:=fun h => by
    have h0 : st = []:=List.eq_nil_of_length_eq_zero (by simp only [List.length_cons] at hcap; omega)
    subst h0
    exact ⟨some ⟨b,off,none⟩,0,[],rfl,Nat.le_refl _,.nil,(fun e => by cases e),fun ad e => by cases e; exact ⟨rfl,fun j u h => by simp at h⟩⟩
   have HEM:=zH Ju
   clear hrest hst hfit hns hfu Ju
   simp only [List.length_cons] at hcap hlen ⊢
   obtain ⟨X,hX⟩ : ∃ x,wr.heap.size = x:=⟨_,rfl⟩
   by_cases h60 : k = 60
   ·subst h60
    have h2 : (2 : Int) = ANS:=hans.out
    have HA2:=zH h2; clear h2
    go_wp2_with fail
    all_goals
     go_ret
     exact ⟨by first | (rw [← HA2.out]; done) | (rw [← HA2.out]; rfl),chain hb (by go_grown)⟩
   ·obtain ⟨Q,hQ⟩ : ∃ q,60 - k = q + 1:=⟨59 - k,by omega⟩
    have hstep:=hans.out
    rw [hQ] at hstep
    have HST:=zH hstep; clear hstep hans
    obtain ⟨wa,mQ⟩ : ∃ y,wr.alloc (.cells #[.int .i64 u.kind,.int .i64 u.sort,.string ⟨u.name.toArray⟩,.slice A1 u.labels.length p1,.slice A2 u.kids.length p2,.slice A3 ns.length p3] 123) = y:=⟨_,rfl⟩
    have hba : Below wr.heap.size wr wa:=by subst mQ; exact (Below.refl _ _).alloc (Nat.le_refl _) _
    have x0 : wa.cell? ⟨X,0,none⟩ = some (.int .i64 u.kind):=by subst mQ hX; simp [go_sem]
    have x1 : wa.cell? ⟨X,1,none⟩ = some (.int .i64 u.sort):=by subst mQ hX; simp [go_sem]
    have x2 : wa.cell? ⟨X,2,none⟩ = some (.string ⟨u.name.toArray⟩):=by subst mQ hX; simp [go_sem]
    have x3 : wa.cell? ⟨X,3,none⟩ = some (.slice A1 u.labels.length p1):=by subst mQ hX; simp [go_sem]
    have x4 : wa.cell? ⟨X,4,none⟩ = some (.slice A2 u.kids.length p2):=by subst mQ hX; simp [go_sem]
    have x5 : wa.cell? ⟨X,5,none⟩ = some (.slice A3 ns.length p3):=by subst mQ hX; simp [go_sem]
    obtain ⟨SH,UK⟩ : ∃ x,ay u.kind u.sort u.name u.labels u.kids.length = x:=⟨_,rfl⟩
    have Iq:=zH UK; clear UK
    have hpart:=part_any u (.agg #[.int .i64 u.kind,.int .i64 u.sort,.string ⟨u.name.toArray⟩,.slice A1 u.labels.length p1,.slice A2 u.kids.length p2]) wa (mJ (H1.out.keep hba) (H2.out.keep hba)) Eu.out
    rw [Iq.out] at hpart
    have Us:=zH hpart; clear hpart
    obtain ⟨so,c2,HSO,hsl⟩ : ∃ so c2,Hid (qM wr (.slice (some ⟨b,so,none⟩) st.length c2) st) ∧ ∀ w' : World,(Instr.sliceAt 124 (.slice (some ⟨b,off,none⟩) (st.length + 1) cap) (some (.int .i64 1)) none none).run Tryz.prog w' = .ok (.slice (some ⟨b,so,none⟩) st.length c2) w':=by
     refine ⟨if cap = 1 then off else off + 6,cap - 1,?_,fun w' => slice_one b off st.length cap (by omega) (by omega) w'⟩
     by_cases h : cap = 1
     ·subst h; exact zH (HEM.out rfl)
     ·rw [if_neg h]; exact zH (HR.out (cap - 1) (by omega))
    go_wp2_with fail
    ·have LG:=HSO
     try rw [mQ]
     try rw [hX]
     clear mQ
     refine Us.out.mono ?_
     rintro e w1 ⟨rfl,hb1⟩
     have hb1' : Below wr.heap.size wr w1:=chain hba hb1
     have hx:=ae (b:=X) (o:=0) x0 hb1
     have y0:=ae x0 hb1
     have y1:=ae x1 hb1
     have y2:=ae x2 hb1
     have y3:=ae x3 hb1
     have y4:=ae x4 hb1
     have y5:=ae x5 hb1
     clear x0 x1 x2 x3 x4 x5 hba hb1 hx Us
     clear wa
     cases SH with
     | false =>
      have h1 : (1 : Int) = ANS:=by
       rw [← HST.out]; simp only [nM]; rw [if_pos Iq.out]
      have HA2:=zH h1; clear h1
      go_wp2_with fail
      go_ret
      exact ⟨by first | (rw [← HA2.out]; done) | (rw [← HA2.out]; rfl),chain hb hb1'⟩
     | true =>
      by_cases h9 : u.kind = 9
      ·by_cases hin : u.name ∈ ns
       ·have hk9 : (u.kind == 9) = true:=by simp [h9]
        have hk8 : (u.kind == 8) = false:=by simp [h9]
        have hb2 : decide (u.name ∈ ns) = true:=by simp [hin]
        have hst2 : Hid (nM Q ((u.kids.map fun c => (c,ns)) ++ st) = ANS):=by
         have:=HST.out
         simp only [nM] at this
         rw [if_neg (by rw [Iq.out]; simp),if_neg (fun h => h.2 hin),if_neg (by omega)] at this
         exact this
        clear h9 hin
        go_wp2_with fail
        refine (nY (H3.out.keep hb1').s (by omega) u.name).mono ?_
        rw [hb2]
        rintro e w1 ⟨rfl,rfl⟩
        have hkl : u.kids.length ≤ 6:=(qy Iq.out).small.2.2.2.1
        obtain ⟨L,hL⟩ : ∃ x,u.kids.length = x:=⟨_,rfl⟩
        have BU:=zH hL
        have hK2:=H2.out.keep hb1'
        have HN:=zH (H3.out.keep hb1')
        have AU : Hid (∀ c ∈ u.kids,Fit c):=Eu.out.parts.2.2.2.2
        rw [hL] at y4 hkl hK2
        try rw [hL]
        clear hL
        obtain ⟨N,hN⟩ : ∃ x,w1.heap.size = x:=⟨_,rfl⟩
        have Jq : X < N:=by have:=cell_lt y4; omega
        have Ew:=zH hK2; clear hK2
        go_wp2_with fail
        clear y0 y1 y2 y3 y5
        go_loopw [8,9] (fun kv i wq => ∃ (j : Nat) (xs : List Value),j ≤ L ∧ i = .int .i64 j ∧ wq.ownsRow N 123 6 kv j xs ∧ og w1 xs ((u.kids.take j).map fun c => (c,ns)) ∧ Below N w1 wq) (fun _ i _ => L - (intOf i).toNat)
        case atStart => exact ⟨0,[],by omega,rfl,World.ownsRow_nil _ _ _ _,.nil,Below.refl _ _⟩
        case round =>
         obtain ⟨j,xs',hj,rfl,hown,hcells,hbq⟩:=hrel
         have z4:=(hbq.cell (p:=⟨X,4,none⟩) Jq).trans y4
         have hNq : N ≤ wr.heap.size:=by rw [← hN]; exact hbq.size
         by_cases hlt : j < L
         ·obtain ⟨c,hc⟩ : ∃ x,u.kids[j]? = some x:=⟨_,List.getElem?_eq_getElem (by rw [BU.out]; exact hlt)⟩
          have HC:=zH hc
          obtain ⟨-,-,b',off',D1,m1,q1,D2,m2,q2,rfl,d0,d1,d2,d3,d4,hl',hk'⟩:=nT Ew.out hc
          have hbN : b' < N:=by rw [← hN]; exact cell_lt d0
          have vT:=zH hl'; have rP:=zH hk'; clear hl' hk' hc
          have e0:=(hbq.cell (p:=⟨b',_,none⟩) hbN).trans d0
          have e1:=(hbq.cell (p:=⟨b',_,none⟩) hbN).trans d1
          have e2:=(hbq.cell (p:=⟨b',_,none⟩) hbN).trans d2
          have e3:=(hbq.cell (p:=⟨b',_,none⟩) hbN).trans d3
          have e4:=(hbq.cell (p:=⟨b',_,none⟩) hbN).trans d4
          obtain ⟨Av,wL,rfl⟩:=bg hown
          have IW:=zH hcells; clear hcells
          go_wp2_with (at_builtin; go_must (refine pR pW rfl (.tmp 80) (.tmp 89) rfl N _ j xs' rfl (hown.alloc _) ⟨wr.heap.size,0,none⟩ 1 1 [.int .i64 c.kind,.int .i64 c.sort,.string ⟨c.name.toArray⟩,.slice D1 m1 q1,.slice D2 m2 q2,.slice A3 ns.length p3] rfl rfl (wU _ _ _ _ _ _ _ _) (by simp [Value.oneCell']) (by unfold maxLen; omega) (by omega) (by rw [World.size_alloc]; omega) ?_; intro v' w3 k1 k2 k3 k4))
          go_roundw
          case rel =>
           refine ⟨j + 1,_,by omega,by go_num,k1,?_,(hbq.alloc hNq _).trans k4⟩
           rw [vg HC.out]
           exact IW.out.append (.cons c ns _ _ _ [] [] vT.out rP.out HN.out .nil)
          case measure => simp [intOf]; omega
         ·have Jw : j = L:=by omega
          subst Jw
          clear hlt
          have htk : u.kids.take j = u.kids:=List.take_of_length_le (by rw [BU.out]; exact Nat.le_refl _)
          rw [htk] at hcells
          obtain ⟨-,ys,hys,FT⟩:=(LG.out.keep hb1').form
          have hyl:=hys.length
          have xM : ∀ q u,ys[q]? = some u → wr.cell? ((⟨b,so,none⟩ : Addr).add q) = some u:=fun q u hq => by
           have h:=FT q u hq
           rw [Go.WideShapes.add_plain] at h ⊢
           exact (hbq.cell (p:=⟨b,_,none⟩) (by rw [← hN]; exact cell_lt h)).trans h
          have hone:=hys.one
          have Jd:=zH xM; have Je:=zH hone
          have hall:=hcells.append hys
          have Aa:=zH hall
          obtain ⟨Av,wL,rfl⟩:=bg hown
          clear hcells hys FT xM hone hall
          go_wp2_with (at_builtin; go_must (refine oC pW rfl (.tmp 91) (.tmp 92) rfl N _ j xs' rfl hown (some ⟨b,so,none⟩) st.length c2 rfl ys hyl (fun e => by cases e) (fun ad e => by cases e; exact Jd.out) Je.out (by unfold maxLen; omega) (by omega) hNq ?_; intro v' w3 k1 k4))
          have hb3 : Below N w1 w3:=hbq.trans k4
          have xG : Below w1.heap.size w1 w3:=by rw [hN]; exact hb3
          have hlen2 : ((u.kids.map fun c => (c,ns)) ++ st).length = j + st.length:=by rw [List.length_append,List.length_map,BU.out]
          go_roundw
          case rel =>
           refine ⟨k + 1,(u.kids.map fun c => (c,ns)) ++ st,by omega,by go_num,uY (by rw [hlen2]; exact k1) (Aa.out.keep xG),?_,by rw [hlen2]; omega,?_,chain hb (chain hb1' xG)⟩
           ·intro x hx
            rcases List.mem_append.1 hx with h | h
            ·obtain ⟨c,hc,rfl⟩:=List.mem_map.1 h
             exact ⟨AU.out c hc,Nat.le_succ_of_le hnl,Ph.out⟩
            ·obtain ⟨g1,g2,g3⟩:=O8.out x (List.mem_cons_of_mem _ h)
             exact ⟨g1,by omega,g3⟩
           ·have e : 60 - (k + 1) = Q:=by omega
            rw [e]
            exact hst2
          case measure => simp [intOf]; omega
       ·have hk9 : (u.kind == 9) = true:=by simp [h9]
        have hb2 : decide (u.name ∈ ns) = false:=by simp [hin]
        have h1 : (4 : Int) = ANS:=by
         have:=HST.out
         simp only [nM] at this
         rw [if_neg (by rw [Iq.out]; simp),if_pos ⟨h9,hin⟩] at this
         exact this
        have HA2:=zH h1; clear h1 h9 hin
        go_wp2_with fail
        refine (nY (H3.out.keep hb1').s (by omega) u.name).mono ?_
        rw [hb2]
        rintro e w1 ⟨rfl,rfl⟩
        go_wp2_with fail
        go_ret
        exact ⟨by first | (rw [← HA2.out]; done) | (rw [← HA2.out]; rfl),chain hb hb1'⟩
      ·by_cases h8 : u.kind = 8
       ·obtain ⟨u',hu'⟩:=Ig Iq.out h8
        have hk9 : (u.kind == 9) = false:=by simp [h9]
        have hk8 : (u.kind == 8) = true:=by simp [h8]
        have hL1 : u.kids.length = 1:=by rw [hu']; rfl
        have Pi:=zH hu'
        obtain ⟨NB,Md⟩ : ∃ x,(bottom u).kind = x:=⟨_,rfl⟩
        have hst3:=HST.out
        simp only [nM] at hst3
        rw [if_neg (by rw [Iq.out]; simp),if_neg (fun h => h9 h.1),if_pos h8,Md] at hst3
        have PV:=zH hst3
        clear hst3 h9 hu' h8 hL1
        have Tq:=zH Md; clear Md
        obtain ⟨wb,hwb⟩ : ∃ y,w1.alloc (.cells #[.int .i64 u.kind,.int .i64 u.sort,.string ⟨u.name.toArray⟩,.slice A1 u.labels.length p1,.slice A2 u.kids.length p2] 30) = y:=⟨_,rfl⟩
        obtain ⟨bb,hbb⟩ : ∃ x,w1.heap.size = x:=⟨_,rfl⟩
        have Qy : Below w1.heap.size w1 wb:=by subst hwb; exact (Below.refl _ _).alloc (Nat.le_refl _) _
        have hkb : pz wb bb u (.slice A1 u.labels.length p1) (.slice A2 u.kids.length p2):=by subst hwb hbb; exact ⟨by simp [go_sem],by simp [go_sem],by simp [go_sem],by simp [go_sem],by simp [go_sem],fun j => by simp [go_sem],by simp⟩
        have Pn : X < bb:=by have:=cell_lt y0; omega
        have hwrb : wr.heap.size ≤ bb:=by omega
        have hcf : Fit u:=Eu.out
        have hs1:=H1.out.keep hb1'
        have hs2:=H2.out.keep hb1'
        have QM : Below bb w1 wb:=by rw [← hbb]; exact Qy
        go_wp2_with fail
        try rw [hwb]
        try rw [hbb]
        clear hwb Qy
        go_loopg [49] (parts u) (fun gk _ wr => ∃ (z : Ty) (B1 : Option Addr) (m1 q1 : Nat) (B2 : Option Addr) (m2 q2 : Nat),parts z ≤ gk ∧ (bottom z).kind = NB ∧ pz wr bb z (.slice B1 m1 q1) (.slice B2 m2 q2) ∧ aF w1 (.slice B1 m1 q1) z.labels ∧ qg w1 (.slice B2 m2 q2) z.kids ∧ Fit z ∧ Below bb w1 wr)
        case atStart => exact ⟨u,A1,_,p1,A2,_,p2,Nat.le_refl _,Tq.out,hkb,hs1,hs2,hcf,QM⟩
        case round =>
         clear hkb hs1 hs2 hcf QM
         clear wb
         obtain ⟨z,B1,m1,q1,B2,m2,q2,hgk,hub,Iy,hz1,hz2,TV,hbw⟩:=hrel
         have hm2 : m2 = z.kids.length:=by obtain ⟨_,_,e,_⟩:=hz2; injection e
         have Ib : m2 ≤ 9223372036854775807:=by rw [hm2]; exact TV.parts.2.2.2.1
         have hg0:=(hbw.cell (p:=⟨X,0,none⟩) Pn).trans y0
         have hg1:=(hbw.cell (p:=⟨X,1,none⟩) Pn).trans y1
         have hg2:=(hbw.cell (p:=⟨X,2,none⟩) Pn).trans y2
         have hg3:=(hbw.cell (p:=⟨X,3,none⟩) Pn).trans y3
         have hg4:=(hbw.cell (p:=⟨X,4,none⟩) Pn).trans y4
         have hg5:=(hbw.cell (p:=⟨X,5,none⟩) Pn).trans y5
         obtain ⟨u0,u1,v2,u3,u4,v5,v6⟩:=id Iy
         by_cases h8u : z.kind = 8 ∧ m2 = 1
         ·obtain ⟨k8,hm1⟩:=h8u
          subst hm1
          obtain ⟨z',hz'⟩ : ∃ x,z.kids = [x]:=by
           match hkk : z.kids,hm2 with
           | [x],_ => exact ⟨x,rfl⟩
          rw [hz'] at hz2
          obtain ⟨-,-,b',off',D1,r1,s1,D2,r2,s2,rfl,d0,d1,d2,d3,d4,hl',hk'⟩:=nT (i:=0) (t:=z') hz2 rfl
          simp only [Nat.zero_mul,Nat.add_zero] at d0 d1 d2 d3 d4
          have hbN : b' < bb:=by rw [← hbb]; exact cell_lt d0
          have e0:=(hbw.cell (p:=⟨b',_,none⟩) hbN).trans d0
          have e1:=(hbw.cell (p:=⟨b',_,none⟩) hbN).trans d1
          have e2:=(hbw.cell (p:=⟨b',_,none⟩) hbN).trans d2
          have e3:=(hbw.cell (p:=⟨b',_,none⟩) hbN).trans d3
          have e4:=(hbw.cell (p:=⟨b',_,none⟩) hbN).trans d4
          have HL2:=zH hl'; have Ew:=zH hk'
          have OA : (z.kind == 8) = true:=by simp [k8]
          have HM:=zH hm2; have Uz:=zH hz'; have PL:=zH k8
          clear hl' hk' hz1 hz2 hm2 hz' k8 d0 d1 d2 d3 d4
          go_wp2_with fail
          have FI:=Iy.fill z' (.slice D1 r1 s1) (.slice D2 r2 s2)
          have Qz:=below_fill hbw (b:=bb) (Nat.le_refl _) (.int .i64 z'.kind) (.int .i64 z'.sort) (.string ⟨z'.name.toArray⟩) (.slice D1 r1 s1) (.slice D2 r2 s2)
          generalize (((((wr.setCell ⟨bb,0,none⟩ (.int .i64 z'.kind)).setCell ⟨bb,1,none⟩ (.int .i64 z'.sort)).setCell ⟨bb,2,none⟩ (.string ⟨z'.name.toArray⟩)).setCell ⟨bb,3,none⟩ (.slice D1 r1 s1)).setCell ⟨bb,4,none⟩ (.slice D2 r2 s2)) = w4 at FI Qz ⊢
          have hin : z' ∈ z.kids:=by rw [Uz.out]; simp
          have hpu : parts z' < gk:=by
           have h1:=pV hin
           have h2 : parts z = 1 + pO z.kids:=by cases z; rfl
           omega
          go_roundg (parts z')
          case measure => exact hpu
          case rel => exact ⟨z',D1,r1,s1,D2,r2,s2,Nat.le_refl _,(wJ PL.out Uz.out).symm.trans hub,FI,HL2.out,Ew.out,TV.parts.2.2.2.2 z' hin,Qz⟩
         ·have hun : z.kind = NB:=by rw [← hub,xx (by rw [← hm2]; exact h8u)]
          clear hub hgk TV hz1 hz2 hm2 Iy
          by_cases hN9 : NB = 9
          ·have hk9z : (z.kind == 9) = true:=by rw [hun]; simp [hN9]
           have OA : (z.kind == 8) = false:=by rw [hun]; simp [hN9]
           have h1 : (7 : Int) = ANS:=by
            have:=PV.out
            rw [if_pos hN9] at this
            exact this
           have HA2:=zH h1; clear h1 h8u hun hN9
           go_wp2_with fail
           go_ret
           exact ⟨by first | (rw [← HA2.out]; done) | (rw [← HA2.out]; rfl),chain hb (chain hb1' (by rw [hbb]; exact hbw))⟩
          ·have hst2 : Hid (nM Q ((u.kids.map fun c => (c,ns ++ [u.name])) ++ st) = ANS):=by
            have:=PV.out
            rw [if_neg hN9] at this
            exact this
           have hk9z : (z.kind == 9) = false:=by rw [hun]; simp [hN9]
           by_cases k8 : z.kind = 8
           ·have hm1 : ((m2 : Int) == 1) = false:=by simp; omega
            have OA : (z.kind == 8) = true:=by simp [k8]
            clear h8u hun hN9 k8
            have MI:=chain hb1' (by rw [hbb]; exact hbw : Below w1.heap.size w1 wr)
            have hS : ∀ w' : World,Below wr.heap.size wr w' → (fun w' : World => w'.cell? ⟨X,2,none⟩ = some (.string ⟨u.name.toArray⟩)) w':=fun w' h => ae hg2 h
            have bC:=zH (hS wr.drew (Below.refl _ _).drew)
            have jE:=zH hS; clear hS
            go_wp2_with fail
            refine aC 7 (fun w' : World => w'.cell? ⟨X,2,none⟩ = some (.string ⟨u.name.toArray⟩)) (by kernel_rfl) ?_
            refine zT 0 ?_ rfl (Or.inl ⟨by rfl,?_⟩) bC.out ?_
            rotate_left
            ·(intro wq hSw; have q0 : wq.cell? ⟨X,2,none⟩ = some (.string ⟨u.name.toArray⟩):=hSw; go_simp; all_goals (with_reducible rfl))
            try simp only [zA,zB,zC,Act.put,zD,zE,zF]
            refine zT 2 ?_ rfl (Or.inl ⟨by rfl,?_⟩) bC.out ?_
            rotate_left
            ·(intro wq hSw; have q0 : wq.cell? ⟨X,2,none⟩ = some (.string ⟨u.name.toArray⟩):=hSw; go_simp; all_goals (with_reducible rfl))
            try simp only [zA,zB,zC,Act.put,zD,zE,zF]
            refine zT 3 ?_ rfl (Or.inl ⟨by rfl,?_⟩) bC.out ?_
            rotate_left
            ·(intro wq hSw; have q0 : wq.cell? ⟨X,2,none⟩ = some (.string ⟨u.name.toArray⟩):=hSw; go_simp; all_goals (with_reducible rfl))
            try simp only [zA,zB,zC,Act.put,zD,zE,zF]
            refine zT 4 ?_ rfl (Or.inl ⟨by rfl,?_⟩) bC.out ?_
            rotate_left
            ·(intro wq hSw; have q0 : wq.cell? ⟨X,2,none⟩ = some (.string ⟨u.name.toArray⟩):=hSw; go_simp; all_goals (with_reducible rfl))
            try simp only [zA,zB,zC,Act.put,zD,zE,zF]
            refine BJ (i:=1) (j:=5) rfl rfl (by kernel_rfl) (fun K hK => ?_) (fun K hK => ?_)
            ·have wO:=(H3.out.keep MI).keep (w':=wr.drew) (Below.refl _ _).drew
             refine o6 nO rfl (.const (.slice none 0 0)) (.tmp 65) rfl wr.heap.size _ 0 [] rfl (World.ownsRow_nil _ _ _ _) A3 ns.length p3 rfl (ns.map fun s => .string ⟨s.toArray⟩) (by simp) (fun e => by subst e; exact ⟨by rcases Nat.eq_zero_or_pos ns.length with h | h; exact h; (obtain ⟨_,_,e1,_,h3⟩:=wO.s; injection e1 with e1; subst e1; obtain ⟨_,_,e2,_⟩:=h3 h; cases e2),wO.z _ _ rfl⟩) (yu wO.s) (yw _) (by unfold maxLen; omega) (by omega) (Nat.le_refl _) (fun v1 w2 n1 n2 => ?_)
             have hb2 : Below wr.heap.size wr w2:=(Below.refl _ _ : Below wr.heap.size wr wr).drew.trans n2
             have hs2:=hb2.size
             simp only [Nat.zero_add,List.nil_append] at n1
             obtain ⟨A5,c5,rfl⟩:=bg n1
             refine hK.out _ _ (fun _ => jE.out w2 hb2) ?_
             clear hK K
             try simp only [zA,zB,zC,Act.put,zD,zE,zF]
             refine zO 5 fun K hK => ?_
             go_simp
             have Bz:=hb2.alloc hs2 (.cells #[.string ⟨u.name.toArray⟩] 9)
             refine hK.out _ _ (fun _ => jE.out _ Bz) ?_
             clear hK K
             try simp only [zA,zB,zC,Act.put,zD,zE,zF]
             refine zO 6 fun K hK => ?_
             refine o5 nO rfl (.tmp 66) (.tmp 70) rfl wr.heap.size (.slice A5 ns.length c5) ns.length (ns.map fun s => .string ⟨s.toArray⟩) rfl (n1.alloc _) ⟨w2.heap.size,0,none⟩ 1 1 [.string ⟨u.name.toArray⟩] rfl rfl (cell_one_new _ _ _) (by simp [Value.oneCell']) (by unfold maxLen; omega) (by omega) (by rw [World.size_alloc]; omega) (fun v' w4 k1 k2 k3 k4 => ?_)
             have hb3:=Bz.trans k4
             clear n1 n2 k2 k3
             obtain ⟨A4,Jk,rfl⟩:=bg k1
             refine hK.out _ _ (fun _ => jE.out _ hb3) ?_
             clear hK K
             try simp only [zA,zB,zC,Act.put,zD,zE,zF]
             refine zO 7 fun K hK => ?_
             go_simp
             refine hK.out _ _ (fun h => absurd h (by decide)) ?_
             clear hK K
             try simp only [zA,zB,zC,Act.put,zD,zE,zF]
             refine bf (by kernel_rfl) ?_
             have hnn : Names w4 (.slice A4 (ns.length + 1) Jk) (ns ++ [u.name]):=yx k1
             have yV:=chain MI hb3
             have Gn : Hid (∀ s ∈ ns ++ [u.name],s.length ≤ maxLen):=by
              intro s hs
              rcases List.mem_append.1 hs with h | h
              ·exact Ph.out s h
              ·rw [List.mem_singleton.1 h]; exact Eu.out.parts.1
             have y0:=ae hg0 hb3
             have y1:=ae hg1 hb3
             have y2:=ae hg2 hb3
             have y3:=ae hg3 hb3
             have y4:=ae hg4 hb3
             have y5:=ae hg5 hb3
             clear hg0 hg1 hg2 hg3 hg4 hg5 hb3 k1 jE bC u0 u1 v2 u3 u4 v5 v6 wO
             have hkl : u.kids.length ≤ 6:=(qy Iq.out).small.2.2.2.1
             obtain ⟨L,hL⟩ : ∃ x,u.kids.length = x:=⟨_,rfl⟩
             have BU:=zH hL
             have hK2:=H2.out.keep yV
             have HN:=zH hnn
             have AU : Hid (∀ c ∈ u.kids,Fit c):=Eu.out.parts.2.2.2.2
             rw [hL] at y4 hkl hK2
             try rw [hL]
             clear hL
             obtain ⟨N,hN⟩ : ∃ x,w4.heap.size = x:=⟨_,rfl⟩
             have Jq : X < N:=by have:=cell_lt y4; omega
             have Ew:=zH hK2; clear hK2
             go_wp2_with fail
             clear y0 y1 y2 y3 y5
             go_loopw [8,9] (fun kv i wq => ∃ (j : Nat) (xs : List Value),j ≤ L ∧ i = .int .i64 j ∧ wq.ownsRow N 123 6 kv j xs ∧ og w4 xs ((u.kids.take j).map fun c => (c,(ns ++ [u.name]))) ∧ Below N w4 wq) (fun _ i _ => L - (intOf i).toNat)
             case atStart => exact ⟨0,[],by omega,rfl,World.ownsRow_nil _ _ _ _,.nil,Below.refl _ _⟩
             case round =>
              obtain ⟨j,xs',hj,rfl,hown,hcells,hbq⟩:=hrel
              have z4:=(hbq.cell (p:=⟨X,4,none⟩) Jq).trans y4
              have hNq : N ≤ wr.heap.size:=by rw [← hN]; exact hbq.size
              by_cases hlt : j < L
              ·obtain ⟨c,hc⟩ : ∃ x,u.kids[j]? = some x:=⟨_,List.getElem?_eq_getElem (by rw [BU.out]; exact hlt)⟩
               have HC:=zH hc
               obtain ⟨-,-,b',off',D1,m1,q1,D2,m2,q2,rfl,d0,d1,d2,d3,d4,hl',hk'⟩:=nT Ew.out hc
               have hbN : b' < N:=by rw [← hN]; exact cell_lt d0
               have vT:=zH hl'; have rP:=zH hk'; clear hl' hk' hc
               have e0:=(hbq.cell (p:=⟨b',_,none⟩) hbN).trans d0
               have e1:=(hbq.cell (p:=⟨b',_,none⟩) hbN).trans d1
               have e2:=(hbq.cell (p:=⟨b',_,none⟩) hbN).trans d2
               have e3:=(hbq.cell (p:=⟨b',_,none⟩) hbN).trans d3
               have e4:=(hbq.cell (p:=⟨b',_,none⟩) hbN).trans d4
               obtain ⟨Av,wL,rfl⟩:=bg hown
               have IW:=zH hcells; clear hcells
               go_wp2_with (at_builtin; go_must (refine pR pW rfl (.tmp 80) (.tmp 89) rfl N _ j xs' rfl (hown.alloc _) ⟨wr.heap.size,0,none⟩ 1 1 [.int .i64 c.kind,.int .i64 c.sort,.string ⟨c.name.toArray⟩,.slice D1 m1 q1,.slice D2 m2 q2,.slice A4 (ns.length + 1) Jk] rfl rfl (wU _ _ _ _ _ _ _ _) (by simp [Value.oneCell']) (by unfold maxLen; omega) (by omega) (by rw [World.size_alloc]; omega) ?_; intro v' w3 k1 k2 k3 k4))
               go_roundw
               case rel =>
                refine ⟨j + 1,_,by omega,by go_num,k1,?_,(hbq.alloc hNq _).trans k4⟩
                rw [vg HC.out]
                exact IW.out.append (.cons c (ns ++ [u.name]) _ _ _ [] [] vT.out rP.out HN.out .nil)
               case measure => simp [intOf]; omega
              ·have Jw : j = L:=by omega
               subst Jw
               clear hlt
               have htk : u.kids.take j = u.kids:=List.take_of_length_le (by rw [BU.out]; exact Nat.le_refl _)
               rw [htk] at hcells
               obtain ⟨-,ys,hys,FT⟩:=(LG.out.keep yV).form
               have hyl:=hys.length
               have xM : ∀ q u,ys[q]? = some u → wr.cell? ((⟨b,so,none⟩ : Addr).add q) = some u:=fun q u hq => by
                have h:=FT q u hq
                rw [Go.WideShapes.add_plain] at h ⊢
                exact (hbq.cell (p:=⟨b,_,none⟩) (by rw [← hN]; exact cell_lt h)).trans h
               have hone:=hys.one
               have Jd:=zH xM; have Je:=zH hone
               have hall:=hcells.append hys
               have Aa:=zH hall
               obtain ⟨Av,wL,rfl⟩:=bg hown
               clear hcells hys FT xM hone hall
               go_wp2_with (at_builtin; go_must (refine oC pW rfl (.tmp 91) (.tmp 92) rfl N _ j xs' rfl hown (some ⟨b,so,none⟩) st.length c2 rfl ys hyl (fun e => by cases e) (fun ad e => by cases e; exact Jd.out) Je.out (by unfold maxLen; omega) (by omega) hNq ?_; intro v' w3 k1 k4))
               have hb3 : Below N w4 w3:=hbq.trans k4
               have xG : Below w4.heap.size w4 w3:=by rw [hN]; exact hb3
               have hlen2 : ((u.kids.map fun c => (c,(ns ++ [u.name]))) ++ st).length = j + st.length:=by rw [List.length_append,List.length_map,BU.out]
               go_roundw
               case rel =>
                refine ⟨k + 1,(u.kids.map fun c => (c,(ns ++ [u.name]))) ++ st,by omega,by go_num,uY (by rw [hlen2]; exact k1) (Aa.out.keep xG),?_,by rw [hlen2]; omega,?_,chain hb (chain yV xG)⟩
                ·intro x hx
                 rcases List.mem_append.1 hx with h | h
                 ·obtain ⟨c,hc,rfl⟩:=List.mem_map.1 h
                  exact ⟨AU.out c hc,(by simp; omega),Gn.out⟩
                 ·obtain ⟨g1,g2,g3⟩:=O8.out x (List.mem_cons_of_mem _ h)
                  exact ⟨g1,by omega,g3⟩
                ·have e : 60 - (k + 1) = Q:=by omega
                 rw [e]
                 exact hst2
               case measure => simp [intOf]; omega
            ·go_simp
             have hbz : Below wr.heap.size wr (wr.alloc (.cells #[.string ⟨u.name.toArray⟩] 9)):=(Below.refl _ _).alloc (Nat.le_refl _) _
             refine hK.out _ _ (fun _ => jE.out _ hbz.drew) ?_
             clear hK K
             try simp only [zA,zB,zC,Act.put,zD,zE,zF]
             have wO:=(H3.out.keep MI).keep (w':=(wr.alloc (.cells #[.string ⟨u.name.toArray⟩] 9)).drew) hbz.drew
             refine zO 1 fun K hK => ?_
             refine o6 nO rfl (.const (.slice none 0 0)) (.tmp 65) rfl (wr.heap.size + 1) _ 0 [] rfl (World.ownsRow_nil _ _ _ _) A3 ns.length p3 rfl (ns.map fun s => .string ⟨s.toArray⟩) (by simp) (fun e => by subst e; exact ⟨by rcases Nat.eq_zero_or_pos ns.length with h | h; exact h; (obtain ⟨_,_,e1,_,h3⟩:=wO.s; injection e1 with e1; subst e1; obtain ⟨_,_,e2,_⟩:=h3 h; cases e2),wO.z _ _ rfl⟩) (yu wO.s) (yw _) (by unfold maxLen; omega) (by omega) (by show _ ≤ (wr.alloc _).heap.size; simp) (fun v1 w2 n1 n2 => ?_)
             have hn2 : Below (wr.heap.size + 1) (wr.alloc (.cells #[.string ⟨u.name.toArray⟩] 9)) w2:=(Below.refl _ _ : Below (wr.heap.size + 1) _ (wr.alloc (.cells #[.string ⟨u.name.toArray⟩] 9))).drew.trans n2
             have hb2 : Below wr.heap.size wr w2:=hbz.trans (hn2.mono (by omega))
             have hs2 : wr.heap.size + 1 ≤ w2.heap.size:=by have:=hn2.size; rw [World.size_alloc] at this; exact this
             have hnew : ∀ j u',([.string ⟨u.name.toArray⟩] : List Value)[j]? = some u' → w2.cell? ((⟨wr.heap.size,0,none⟩ : Addr).add j) = some u':=fun j u' hj => by
              have h:=cell_one_new wr (.string ⟨u.name.toArray⟩) 9 j u' hj
              rw [Go.WideShapes.add_plain] at h ⊢
              exact (hn2.cell (p:=⟨wr.heap.size,_,none⟩) (by show _ < _; simp only []; omega)).trans h
             simp only [Nat.zero_add,List.nil_append] at n1
             obtain ⟨A5,c5,rfl⟩:=bg n1
             refine hK.out _ _ (fun _ => jE.out w2 hb2) ?_
             clear hK K
             try simp only [zA,zB,zC,Act.put,zD,zE,zF]
             refine zO 6 fun K hK => ?_
             refine o5 nO rfl (.tmp 66) (.tmp 70) rfl (wr.heap.size + 1) (.slice A5 ns.length c5) ns.length (ns.map fun s => .string ⟨s.toArray⟩) rfl n1 ⟨wr.heap.size,0,none⟩ 1 1 [.string ⟨u.name.toArray⟩] rfl rfl hnew (by simp [Value.oneCell']) (by unfold maxLen; omega) (by omega) hs2 (fun v' w4 k1 k2 k3 k4 => ?_)
             have hb3:=hb2.trans (k4.mono (by omega))
             clear n1 n2 k2 k3 hn2 hnew hbz
             obtain ⟨A4,Jk,rfl⟩:=bg k1
             refine hK.out _ _ (fun _ => jE.out _ hb3) ?_
             clear hK K
             try simp only [zA,zB,zC,Act.put,zD,zE,zF]
             refine zO 7 fun K hK => ?_
             go_simp
             refine hK.out _ _ (fun h => absurd h (by decide)) ?_
             clear hK K
             try simp only [zA,zB,zC,Act.put,zD,zE,zF]
             refine bf (by kernel_rfl) ?_
             have hnn : Names w4 (.slice A4 (ns.length + 1) Jk) (ns ++ [u.name]):=yx k1
             have yV:=chain MI hb3
             have Gn : Hid (∀ s ∈ ns ++ [u.name],s.length ≤ maxLen):=by
              intro s hs
              rcases List.mem_append.1 hs with h | h
              ·exact Ph.out s h
              ·rw [List.mem_singleton.1 h]; exact Eu.out.parts.1
             have y0:=ae hg0 hb3
             have y1:=ae hg1 hb3
             have y2:=ae hg2 hb3
             have y3:=ae hg3 hb3
             have y4:=ae hg4 hb3
             have y5:=ae hg5 hb3
             clear hg0 hg1 hg2 hg3 hg4 hg5 hb3 k1 jE bC u0 u1 v2 u3 u4 v5 v6 wO
             have hkl : u.kids.length ≤ 6:=(qy Iq.out).small.2.2.2.1
             obtain ⟨L,hL⟩ : ∃ x,u.kids.length = x:=⟨_,rfl⟩
             have BU:=zH hL
             have hK2:=H2.out.keep yV
             have HN:=zH hnn
             have AU : Hid (∀ c ∈ u.kids,Fit c):=Eu.out.parts.2.2.2.2
             rw [hL] at y4 hkl hK2
             try rw [hL]
             clear hL
             obtain ⟨N,hN⟩ : ∃ x,w4.heap.size = x:=⟨_,rfl⟩
             have Jq : X < N:=by have:=cell_lt y4; omega
             have Ew:=zH hK2; clear hK2
             go_wp2_with fail
             clear y0 y1 y2 y3 y5
             go_loopw [8,9] (fun kv i wq => ∃ (j : Nat) (xs : List Value),j ≤ L ∧ i = .int .i64 j ∧ wq.ownsRow N 123 6 kv j xs ∧ og w4 xs ((u.kids.take j).map fun c => (c,(ns ++ [u.name]))) ∧ Below N w4 wq) (fun _ i _ => L - (intOf i).toNat)
             case atStart => exact ⟨0,[],by omega,rfl,World.ownsRow_nil _ _ _ _,.nil,Below.refl _ _⟩
             case round =>
              obtain ⟨j,xs',hj,rfl,hown,hcells,hbq⟩:=hrel
              have z4:=(hbq.cell (p:=⟨X,4,none⟩) Jq).trans y4
              have hNq : N ≤ wr.heap.size:=by rw [← hN]; exact hbq.size
              by_cases hlt : j < L
              ·obtain ⟨c,hc⟩ : ∃ x,u.kids[j]? = some x:=⟨_,List.getElem?_eq_getElem (by rw [BU.out]; exact hlt)⟩
               have HC:=zH hc
               obtain ⟨-,-,b',off',D1,m1,q1,D2,m2,q2,rfl,d0,d1,d2,d3,d4,hl',hk'⟩:=nT Ew.out hc
               have hbN : b' < N:=by rw [← hN]; exact cell_lt d0
               have vT:=zH hl'; have rP:=zH hk'; clear hl' hk' hc
               have e0:=(hbq.cell (p:=⟨b',_,none⟩) hbN).trans d0
               have e1:=(hbq.cell (p:=⟨b',_,none⟩) hbN).trans d1
               have e2:=(hbq.cell (p:=⟨b',_,none⟩) hbN).trans d2
               have e3:=(hbq.cell (p:=⟨b',_,none⟩) hbN).trans d3
               have e4:=(hbq.cell (p:=⟨b',_,none⟩) hbN).trans d4
               obtain ⟨Av,wL,rfl⟩:=bg hown
               have IW:=zH hcells; clear hcells
               go_wp2_with (at_builtin; go_must (refine pR pW rfl (.tmp 80) (.tmp 89) rfl N _ j xs' rfl (hown.alloc _) ⟨wr.heap.size,0,none⟩ 1 1 [.int .i64 c.kind,.int .i64 c.sort,.string ⟨c.name.toArray⟩,.slice D1 m1 q1,.slice D2 m2 q2,.slice A4 (ns.length + 1) Jk] rfl rfl (wU _ _ _ _ _ _ _ _) (by simp [Value.oneCell']) (by unfold maxLen; omega) (by omega) (by rw [World.size_alloc]; omega) ?_; intro v' w3 k1 k2 k3 k4))
               go_roundw
               case rel =>
                refine ⟨j + 1,_,by omega,by go_num,k1,?_,(hbq.alloc hNq _).trans k4⟩
                rw [vg HC.out]
                exact IW.out.append (.cons c (ns ++ [u.name]) _ _ _ [] [] vT.out rP.out HN.out .nil)
               case measure => simp [intOf]; omega
              ·have Jw : j = L:=by omega
               subst Jw
               clear hlt
               have htk : u.kids.take j = u.kids:=List.take_of_length_le (by rw [BU.out]; exact Nat.le_refl _)
               rw [htk] at hcells
               obtain ⟨-,ys,hys,FT⟩:=(LG.out.keep yV).form
               have hyl:=hys.length
               have xM : ∀ q u,ys[q]? = some u → wr.cell? ((⟨b,so,none⟩ : Addr).add q) = some u:=fun q u hq => by
                have h:=FT q u hq
                rw [Go.WideShapes.add_plain] at h ⊢
                exact (hbq.cell (p:=⟨b,_,none⟩) (by rw [← hN]; exact cell_lt h)).trans h
               have hone:=hys.one
               have Jd:=zH xM; have Je:=zH hone
               have hall:=hcells.append hys
               have Aa:=zH hall
               obtain ⟨Av,wL,rfl⟩:=bg hown
               clear hcells hys FT xM hone hall
               go_wp2_with (at_builtin; go_must (refine oC pW rfl (.tmp 91) (.tmp 92) rfl N _ j xs' rfl hown (some ⟨b,so,none⟩) st.length c2 rfl ys hyl (fun e => by cases e) (fun ad e => by cases e; exact Jd.out) Je.out (by unfold maxLen; omega) (by omega) hNq ?_; intro v' w3 k1 k4))
               have hb3 : Below N w4 w3:=hbq.trans k4
               have xG : Below w4.heap.size w4 w3:=by rw [hN]; exact hb3
               have hlen2 : ((u.kids.map fun c => (c,(ns ++ [u.name]))) ++ st).length = j + st.length:=by rw [List.length_append,List.length_map,BU.out]
               go_roundw
               case rel =>
                refine ⟨k + 1,(u.kids.map fun c => (c,(ns ++ [u.name]))) ++ st,by omega,by go_num,uY (by rw [hlen2]; exact k1) (Aa.out.keep xG),?_,by rw [hlen2]; omega,?_,chain hb (chain yV xG)⟩
                ·intro x hx
                 rcases List.mem_append.1 hx with h | h
                 ·obtain ⟨c,hc,rfl⟩:=List.mem_map.1 h
                  exact ⟨AU.out c hc,(by simp; omega),Gn.out⟩
                 ·obtain ⟨g1,g2,g3⟩:=O8.out x (List.mem_cons_of_mem _ h)
                  exact ⟨g1,by omega,g3⟩
                ·have e : 60 - (k + 1) = Q:=by omega
                 rw [e]
                 exact hst2
               case measure => simp [intOf]; omega
           ·have OA : (z.kind == 8) = false:=by simp [k8]
            clear h8u hun hN9 k8
            have MI:=chain hb1' (by rw [hbb]; exact hbw : Below w1.heap.size w1 wr)
            have hS : ∀ w' : World,Below wr.heap.size wr w' → (fun w' : World => w'.cell? ⟨X,2,none⟩ = some (.string ⟨u.name.toArray⟩)) w':=fun w' h => ae hg2 h
            have bC:=zH (hS wr.drew (Below.refl _ _).drew)
            have jE:=zH hS; clear hS
            go_wp2_with fail
            refine aC 7 (fun w' : World => w'.cell? ⟨X,2,none⟩ = some (.string ⟨u.name.toArray⟩)) (by kernel_rfl) ?_
            refine zT 0 ?_ rfl (Or.inl ⟨by rfl,?_⟩) bC.out ?_
            rotate_left
            ·(intro wq hSw; have q0 : wq.cell? ⟨X,2,none⟩ = some (.string ⟨u.name.toArray⟩):=hSw; go_simp; all_goals (with_reducible rfl))
            try simp only [zA,zB,zC,Act.put,zD,zE,zF]
            refine zT 2 ?_ rfl (Or.inl ⟨by rfl,?_⟩) bC.out ?_
            rotate_left
            ·(intro wq hSw; have q0 : wq.cell? ⟨X,2,none⟩ = some (.string ⟨u.name.toArray⟩):=hSw; go_simp; all_goals (with_reducible rfl))
            try simp only [zA,zB,zC,Act.put,zD,zE,zF]
            refine zT 3 ?_ rfl (Or.inl ⟨by rfl,?_⟩) bC.out ?_
            rotate_left
            ·(intro wq hSw; have q0 : wq.cell? ⟨X,2,none⟩ = some (.string ⟨u.name.toArray⟩):=hSw; go_simp; all_goals (with_reducible rfl))
            try simp only [zA,zB,zC,Act.put,zD,zE,zF]
            refine zT 4 ?_ rfl (Or.inl ⟨by rfl,?_⟩) bC.out ?_
            rotate_left
            ·(intro wq hSw; have q0 : wq.cell? ⟨X,2,none⟩ = some (.string ⟨u.name.toArray⟩):=hSw; go_simp; all_goals (with_reducible rfl))
            try simp only [zA,zB,zC,Act.put,zD,zE,zF]
            refine BJ (i:=1) (j:=5) rfl rfl (by kernel_rfl) (fun K hK => ?_) (fun K hK => ?_)
            ·have wO:=(H3.out.keep MI).keep (w':=wr.drew) (Below.refl _ _).drew
             refine o6 nO rfl (.const (.slice none 0 0)) (.tmp 65) rfl wr.heap.size _ 0 [] rfl (World.ownsRow_nil _ _ _ _) A3 ns.length p3 rfl (ns.map fun s => .string ⟨s.toArray⟩) (by simp) (fun e => by subst e; exact ⟨by rcases Nat.eq_zero_or_pos ns.length with h | h; exact h; (obtain ⟨_,_,e1,_,h3⟩:=wO.s; injection e1 with e1; subst e1; obtain ⟨_,_,e2,_⟩:=h3 h; cases e2),wO.z _ _ rfl⟩) (yu wO.s) (yw _) (by unfold maxLen; omega) (by omega) (Nat.le_refl _) (fun v1 w2 n1 n2 => ?_)
             have hb2 : Below wr.heap.size wr w2:=(Below.refl _ _ : Below wr.heap.size wr wr).drew.trans n2
             have hs2:=hb2.size
             simp only [Nat.zero_add,List.nil_append] at n1
             obtain ⟨A5,c5,rfl⟩:=bg n1
             refine hK.out _ _ (fun _ => jE.out w2 hb2) ?_
             clear hK K
             try simp only [zA,zB,zC,Act.put,zD,zE,zF]
             refine zO 5 fun K hK => ?_
             go_simp
             have Bz:=hb2.alloc hs2 (.cells #[.string ⟨u.name.toArray⟩] 9)
             refine hK.out _ _ (fun _ => jE.out _ Bz) ?_
             clear hK K
             try simp only [zA,zB,zC,Act.put,zD,zE,zF]
             refine zO 6 fun K hK => ?_
             refine o5 nO rfl (.tmp 66) (.tmp 70) rfl wr.heap.size (.slice A5 ns.length c5) ns.length (ns.map fun s => .string ⟨s.toArray⟩) rfl (n1.alloc _) ⟨w2.heap.size,0,none⟩ 1 1 [.string ⟨u.name.toArray⟩] rfl rfl (cell_one_new _ _ _) (by simp [Value.oneCell']) (by unfold maxLen; omega) (by omega) (by rw [World.size_alloc]; omega) (fun v' w4 k1 k2 k3 k4 => ?_)
             have hb3:=Bz.trans k4
             clear n1 n2 k2 k3
             obtain ⟨A4,Jk,rfl⟩:=bg k1
             refine hK.out _ _ (fun _ => jE.out _ hb3) ?_
             clear hK K
             try simp only [zA,zB,zC,Act.put,zD,zE,zF]
             refine zO 7 fun K hK => ?_
             go_simp
             refine hK.out _ _ (fun h => absurd h (by decide)) ?_
             clear hK K
             try simp only [zA,zB,zC,Act.put,zD,zE,zF]
             refine bf (by kernel_rfl) ?_
             have hnn : Names w4 (.slice A4 (ns.length + 1) Jk) (ns ++ [u.name]):=yx k1
             have yV:=chain MI hb3
             have Gn : Hid (∀ s ∈ ns ++ [u.name],s.length ≤ maxLen):=by
              intro s hs
              rcases List.mem_append.1 hs with h | h
              ·exact Ph.out s h
              ·rw [List.mem_singleton.1 h]; exact Eu.out.parts.1
             have y0:=ae hg0 hb3
             have y1:=ae hg1 hb3
             have y2:=ae hg2 hb3
             have y3:=ae hg3 hb3
             have y4:=ae hg4 hb3
             have y5:=ae hg5 hb3
             clear hg0 hg1 hg2 hg3 hg4 hg5 hb3 k1 jE bC u0 u1 v2 u3 u4 v5 v6 wO
             have hkl : u.kids.length ≤ 6:=(qy Iq.out).small.2.2.2.1
             obtain ⟨L,hL⟩ : ∃ x,u.kids.length = x:=⟨_,rfl⟩
             have BU:=zH hL
             have hK2:=H2.out.keep yV
             have HN:=zH hnn
             have AU : Hid (∀ c ∈ u.kids,Fit c):=Eu.out.parts.2.2.2.2
             rw [hL] at y4 hkl hK2
             try rw [hL]
             clear hL
             obtain ⟨N,hN⟩ : ∃ x,w4.heap.size = x:=⟨_,rfl⟩
             have Jq : X < N:=by have:=cell_lt y4; omega
             have Ew:=zH hK2; clear hK2
             go_wp2_with fail
             clear y0 y1 y2 y3 y5
             go_loopw [8,9] (fun kv i wq => ∃ (j : Nat) (xs : List Value),j ≤ L ∧ i = .int .i64 j ∧ wq.ownsRow N 123 6 kv j xs ∧ og w4 xs ((u.kids.take j).map fun c => (c,(ns ++ [u.name]))) ∧ Below N w4 wq) (fun _ i _ => L - (intOf i).toNat)
             case atStart => exact ⟨0,[],by omega,rfl,World.ownsRow_nil _ _ _ _,.nil,Below.refl _ _⟩
             case round =>
              obtain ⟨j,xs',hj,rfl,hown,hcells,hbq⟩:=hrel
              have z4:=(hbq.cell (p:=⟨X,4,none⟩) Jq).trans y4
              have hNq : N ≤ wr.heap.size:=by rw [← hN]; exact hbq.size
              by_cases hlt : j < L
              ·obtain ⟨c,hc⟩ : ∃ x,u.kids[j]? = some x:=⟨_,List.getElem?_eq_getElem (by rw [BU.out]; exact hlt)⟩
               have HC:=zH hc
               obtain ⟨-,-,b',off',D1,m1,q1,D2,m2,q2,rfl,d0,d1,d2,d3,d4,hl',hk'⟩:=nT Ew.out hc
               have hbN : b' < N:=by rw [← hN]; exact cell_lt d0
               have vT:=zH hl'; have rP:=zH hk'; clear hl' hk' hc
               have e0:=(hbq.cell (p:=⟨b',_,none⟩) hbN).trans d0
               have e1:=(hbq.cell (p:=⟨b',_,none⟩) hbN).trans d1
               have e2:=(hbq.cell (p:=⟨b',_,none⟩) hbN).trans d2
               have e3:=(hbq.cell (p:=⟨b',_,none⟩) hbN).trans d3
               have e4:=(hbq.cell (p:=⟨b',_,none⟩) hbN).trans d4
               obtain ⟨Av,wL,rfl⟩:=bg hown
               have IW:=zH hcells; clear hcells
               go_wp2_with (at_builtin; go_must (refine pR pW rfl (.tmp 80) (.tmp 89) rfl N _ j xs' rfl (hown.alloc _) ⟨wr.heap.size,0,none⟩ 1 1 [.int .i64 c.kind,.int .i64 c.sort,.string ⟨c.name.toArray⟩,.slice D1 m1 q1,.slice D2 m2 q2,.slice A4 (ns.length + 1) Jk] rfl rfl (wU _ _ _ _ _ _ _ _) (by simp [Value.oneCell']) (by unfold maxLen; omega) (by omega) (by rw [World.size_alloc]; omega) ?_; intro v' w3 k1 k2 k3 k4))
               go_roundw
               case rel =>
                refine ⟨j + 1,_,by omega,by go_num,k1,?_,(hbq.alloc hNq _).trans k4⟩
                rw [vg HC.out]
                exact IW.out.append (.cons c (ns ++ [u.name]) _ _ _ [] [] vT.out rP.out HN.out .nil)
               case measure => simp [intOf]; omega
              ·have Jw : j = L:=by omega
               subst Jw
               clear hlt
               have htk : u.kids.take j = u.kids:=List.take_of_length_le (by rw [BU.out]; exact Nat.le_refl _)
               rw [htk] at hcells
               obtain ⟨-,ys,hys,FT⟩:=(LG.out.keep yV).form
               have hyl:=hys.length
               have xM : ∀ q u,ys[q]? = some u → wr.cell? ((⟨b,so,none⟩ : Addr).add q) = some u:=fun q u hq => by
                have h:=FT q u hq
                rw [Go.WideShapes.add_plain] at h ⊢
                exact (hbq.cell (p:=⟨b,_,none⟩) (by rw [← hN]; exact cell_lt h)).trans h
               have hone:=hys.one
               have Jd:=zH xM; have Je:=zH hone
               have hall:=hcells.append hys
               have Aa:=zH hall
               obtain ⟨Av,wL,rfl⟩:=bg hown
               clear hcells hys FT xM hone hall
               go_wp2_with (at_builtin; go_must (refine oC pW rfl (.tmp 91) (.tmp 92) rfl N _ j xs' rfl hown (some ⟨b,so,none⟩) st.length c2 rfl ys hyl (fun e => by cases e) (fun ad e => by cases e; exact Jd.out) Je.out (by unfold maxLen; omega) (by omega) hNq ?_; intro v' w3 k1 k4))
               have hb3 : Below N w4 w3:=hbq.trans k4
               have xG : Below w4.heap.size w4 w3:=by rw [hN]; exact hb3
               have hlen2 : ((u.kids.map fun c => (c,(ns ++ [u.name]))) ++ st).length = j + st.length:=by rw [List.length_append,List.length_map,BU.out]
               go_roundw
               case rel =>
                refine ⟨k + 1,(u.kids.map fun c => (c,(ns ++ [u.name]))) ++ st,by omega,by go_num,uY (by rw [hlen2]; exact k1) (Aa.out.keep xG),?_,by rw [hlen2]; omega,?_,chain hb (chain yV xG)⟩
                ·intro x hx
                 rcases List.mem_append.1 hx with h | h
                 ·obtain ⟨c,hc,rfl⟩:=List.mem_map.1 h
                  exact ⟨AU.out c hc,(by simp; omega),Gn.out⟩
                 ·obtain ⟨g1,g2,g3⟩:=O8.out x (List.mem_cons_of_mem _ h)
                  exact ⟨g1,by omega,g3⟩
                ·have e : 60 - (k + 1) = Q:=by omega
                 rw [e]
                 exact hst2
               case measure => simp [intOf]; omega
            ·go_simp
             have hbz : Below wr.heap.size wr (wr.alloc (.cells #[.string ⟨u.name.toArray⟩] 9)):=(Below.refl _ _).alloc (Nat.le_refl _) _
             refine hK.out _ _ (fun _ => jE.out _ hbz.drew) ?_
             clear hK K
             try simp only [zA,zB,zC,Act.put,zD,zE,zF]
             have wO:=(H3.out.keep MI).keep (w':=(wr.alloc (.cells #[.string ⟨u.name.toArray⟩] 9)).drew) hbz.drew
             refine zO 1 fun K hK => ?_
             refine o6 nO rfl (.const (.slice none 0 0)) (.tmp 65) rfl (wr.heap.size + 1) _ 0 [] rfl (World.ownsRow_nil _ _ _ _) A3 ns.length p3 rfl (ns.map fun s => .string ⟨s.toArray⟩) (by simp) (fun e => by subst e; exact ⟨by rcases Nat.eq_zero_or_pos ns.length with h | h; exact h; (obtain ⟨_,_,e1,_,h3⟩:=wO.s; injection e1 with e1; subst e1; obtain ⟨_,_,e2,_⟩:=h3 h; cases e2),wO.z _ _ rfl⟩) (yu wO.s) (yw _) (by unfold maxLen; omega) (by omega) (by show _ ≤ (wr.alloc _).heap.size; simp) (fun v1 w2 n1 n2 => ?_)
             have hn2 : Below (wr.heap.size + 1) (wr.alloc (.cells #[.string ⟨u.name.toArray⟩] 9)) w2:=(Below.refl _ _ : Below (wr.heap.size + 1) _ (wr.alloc (.cells #[.string ⟨u.name.toArray⟩] 9))).drew.trans n2
             have hb2 : Below wr.heap.size wr w2:=hbz.trans (hn2.mono (by omega))
             have hs2 : wr.heap.size + 1 ≤ w2.heap.size:=by have:=hn2.size; rw [World.size_alloc] at this; exact this
             have hnew : ∀ j u',([.string ⟨u.name.toArray⟩] : List Value)[j]? = some u' → w2.cell? ((⟨wr.heap.size,0,none⟩ : Addr).add j) = some u':=fun j u' hj => by
              have h:=cell_one_new wr (.string ⟨u.name.toArray⟩) 9 j u' hj
              rw [Go.WideShapes.add_plain] at h ⊢
              exact (hn2.cell (p:=⟨wr.heap.size,_,none⟩) (by show _ < _; simp only []; omega)).trans h
             simp only [Nat.zero_add,List.nil_append] at n1
             obtain ⟨A5,c5,rfl⟩:=bg n1
             refine hK.out _ _ (fun _ => jE.out w2 hb2) ?_
             clear hK K
             try simp only [zA,zB,zC,Act.put,zD,zE,zF]
             refine zO 6 fun K hK => ?_
             refine o5 nO rfl (.tmp 66) (.tmp 70) rfl (wr.heap.size + 1) (.slice A5 ns.length c5) ns.length (ns.map fun s => .string ⟨s.toArray⟩) rfl n1 ⟨wr.heap.size,0,none⟩ 1 1 [.string ⟨u.name.toArray⟩] rfl rfl hnew (by simp [Value.oneCell']) (by unfold maxLen; omega) (by omega) hs2 (fun v' w4 k1 k2 k3 k4 => ?_)
             have hb3:=hb2.trans (k4.mono (by omega))
             clear n1 n2 k2 k3 hn2 hnew hbz
             obtain ⟨A4,Jk,rfl⟩:=bg k1
             refine hK.out _ _ (fun _ => jE.out _ hb3) ?_
             clear hK K
             try simp only [zA,zB,zC,Act.put,zD,zE,zF]
             refine zO 7 fun K hK => ?_
             go_simp
             refine hK.out _ _ (fun h => absurd h (by decide)) ?_
             clear hK K
             try simp only [zA,zB,zC,Act.put,zD,zE,zF]
             refine bf (by kernel_rfl) ?_
             have hnn : Names w4 (.slice A4 (ns.length + 1) Jk) (ns ++ [u.name]):=yx k1
             have yV:=chain MI hb3
             have Gn : Hid (∀ s ∈ ns ++ [u.name],s.length ≤ maxLen):=by
              intro s hs
              rcases List.mem_append.1 hs with h | h
              ·exact Ph.out s h
              ·rw [List.mem_singleton.1 h]; exact Eu.out.parts.1
             have y0:=ae hg0 hb3
             have y1:=ae hg1 hb3
             have y2:=ae hg2 hb3
             have y3:=ae hg3 hb3
             have y4:=ae hg4 hb3
             have y5:=ae hg5 hb3
             clear hg0 hg1 hg2 hg3 hg4 hg5 hb3 k1 jE bC u0 u1 v2 u3 u4 v5 v6 wO
             have hkl : u.kids.length ≤ 6:=(qy Iq.out).small.2.2.2.1
             obtain ⟨L,hL⟩ : ∃ x,u.kids.length = x:=⟨_,rfl⟩
             have BU:=zH hL
             have hK2:=H2.out.keep yV
             have HN:=zH hnn
             have AU : Hid (∀ c ∈ u.kids,Fit c):=Eu.out.parts.2.2.2.2
             rw [hL] at y4 hkl hK2
             try rw [hL]
             clear hL
             obtain ⟨N,hN⟩ : ∃ x,w4.heap.size = x:=⟨_,rfl⟩
             have Jq : X < N:=by have:=cell_lt y4; omega
             have Ew:=zH hK2; clear hK2
             go_wp2_with fail
             clear y0 y1 y2 y3 y5
             go_loopw [8,9] (fun kv i wq => ∃ (j : Nat) (xs : List Value),j ≤ L ∧ i = .int .i64 j ∧ wq.ownsRow N 123 6 kv j xs ∧ og w4 xs ((u.kids.take j).map fun c => (c,(ns ++ [u.name]))) ∧ Below N w4 wq) (fun _ i _ => L - (intOf i).toNat)
             case atStart => exact ⟨0,[],by omega,rfl,World.ownsRow_nil _ _ _ _,.nil,Below.refl _ _⟩
             case round =>
              obtain ⟨j,xs',hj,rfl,hown,hcells,hbq⟩:=hrel
              have z4:=(hbq.cell (p:=⟨X,4,none⟩) Jq).trans y4
              have hNq : N ≤ wr.heap.size:=by rw [← hN]; exact hbq.size
              by_cases hlt : j < L
              ·obtain ⟨c,hc⟩ : ∃ x,u.kids[j]? = some x:=⟨_,List.getElem?_eq_getElem (by rw [BU.out]; exact hlt)⟩
               have HC:=zH hc
               obtain ⟨-,-,b',off',D1,m1,q1,D2,m2,q2,rfl,d0,d1,d2,d3,d4,hl',hk'⟩:=nT Ew.out hc
               have hbN : b' < N:=by rw [← hN]; exact cell_lt d0
               have vT:=zH hl'; have rP:=zH hk'; clear hl' hk' hc
               have e0:=(hbq.cell (p:=⟨b',_,none⟩) hbN).trans d0
               have e1:=(hbq.cell (p:=⟨b',_,none⟩) hbN).trans d1
               have e2:=(hbq.cell (p:=⟨b',_,none⟩) hbN).trans d2
               have e3:=(hbq.cell (p:=⟨b',_,none⟩) hbN).trans d3
               have e4:=(hbq.cell (p:=⟨b',_,none⟩) hbN).trans d4
               obtain ⟨Av,wL,rfl⟩:=bg hown
               have IW:=zH hcells; clear hcells
               go_wp2_with (at_builtin; go_must (refine pR pW rfl (.tmp 80) (.tmp 89) rfl N _ j xs' rfl (hown.alloc _) ⟨wr.heap.size,0,none⟩ 1 1 [.int .i64 c.kind,.int .i64 c.sort,.string ⟨c.name.toArray⟩,.slice D1 m1 q1,.slice D2 m2 q2,.slice A4 (ns.length + 1) Jk] rfl rfl (wU _ _ _ _ _ _ _ _) (by simp [Value.oneCell']) (by unfold maxLen; omega) (by omega) (by rw [World.size_alloc]; omega) ?_; intro v' w3 k1 k2 k3 k4))
               go_roundw
               case rel =>
                refine ⟨j + 1,_,by omega,by go_num,k1,?_,(hbq.alloc hNq _).trans k4⟩
                rw [vg HC.out]
                exact IW.out.append (.cons c (ns ++ [u.name]) _ _ _ [] [] vT.out rP.out HN.out .nil)
               case measure => simp [intOf]; omega
              ·have Jw : j = L:=by omega
               subst Jw
               clear hlt
               have htk : u.kids.take j = u.kids:=List.take_of_length_le (by rw [BU.out]; exact Nat.le_refl _)
               rw [htk] at hcells
               obtain ⟨-,ys,hys,FT⟩:=(LG.out.keep yV).form
               have hyl:=hys.length
               have xM : ∀ q u,ys[q]? = some u → wr.cell? ((⟨b,so,none⟩ : Addr).add q) = some u:=fun q u hq => by
                have h:=FT q u hq
                rw [Go.WideShapes.add_plain] at h ⊢
                exact (hbq.cell (p:=⟨b,_,none⟩) (by rw [← hN]; exact cell_lt h)).trans h
               have hone:=hys.one
               have Jd:=zH xM; have Je:=zH hone
               have hall:=hcells.append hys
               have Aa:=zH hall
               obtain ⟨Av,wL,rfl⟩:=bg hown
               clear hcells hys FT xM hone hall
               go_wp2_with (at_builtin; go_must (refine oC pW rfl (.tmp 91) (.tmp 92) rfl N _ j xs' rfl hown (some ⟨b,so,none⟩) st.length c2 rfl ys hyl (fun e => by cases e) (fun ad e => by cases e; exact Jd.out) Je.out (by unfold maxLen; omega) (by omega) hNq ?_; intro v' w3 k1 k4))
               have hb3 : Below N w4 w3:=hbq.trans k4
               have xG : Below w4.heap.size w4 w3:=by rw [hN]; exact hb3
               have hlen2 : ((u.kids.map fun c => (c,(ns ++ [u.name]))) ++ st).length = j + st.length:=by rw [List.length_append,List.length_map,BU.out]
               go_roundw
               case rel =>
                refine ⟨k + 1,(u.kids.map fun c => (c,(ns ++ [u.name]))) ++ st,by omega,by go_num,uY (by rw [hlen2]; exact k1) (Aa.out.keep xG),?_,by rw [hlen2]; omega,?_,chain hb (chain yV xG)⟩
                ·intro x hx
                 rcases List.mem_append.1 hx with h | h
                 ·obtain ⟨c,hc,rfl⟩:=List.mem_map.1 h
                  exact ⟨AU.out c hc,(by simp; omega),Gn.out⟩
                 ·obtain ⟨g1,g2,g3⟩:=O8.out x (List.mem_cons_of_mem _ h)
                  exact ⟨g1,by omega,g3⟩
                ·have e : 60 - (k + 1) = Q:=by omega
                 rw [e]
                 exact hst2
               case measure => simp [intOf]; omega
       ·have hk9 : (u.kind == 9) = false:=by simp [h9]
        have hk8 : (u.kind == 8) = false:=by simp [h8]
        have hst2 : Hid (nM Q ((u.kids.map fun c => (c,ns)) ++ st) = ANS):=by
         have:=HST.out
         simp only [nM] at this
         rw [if_neg (by rw [Iq.out]; simp),if_neg (fun h => h9 h.1),if_neg h8] at this
         exact this
        clear h9 h8
        have hkl : u.kids.length ≤ 6:=(qy Iq.out).small.2.2.2.1
        obtain ⟨L,hL⟩ : ∃ x,u.kids.length = x:=⟨_,rfl⟩
        have BU:=zH hL
        have hK2:=H2.out.keep hb1'
        have HN:=zH (H3.out.keep hb1')
        have AU : Hid (∀ c ∈ u.kids,Fit c):=Eu.out.parts.2.2.2.2
        rw [hL] at y4 hkl hK2
        try rw [hL]
        clear hL
        obtain ⟨N,hN⟩ : ∃ x,w1.heap.size = x:=⟨_,rfl⟩
        have Jq : X < N:=by have:=cell_lt y4; omega
        have Ew:=zH hK2; clear hK2
        go_wp2_with fail
        clear y0 y1 y2 y3 y5
        go_loopw [8,9] (fun kv i wq => ∃ (j : Nat) (xs : List Value),j ≤ L ∧ i = .int .i64 j ∧ wq.ownsRow N 123 6 kv j xs ∧ og w1 xs ((u.kids.take j).map fun c => (c,ns)) ∧ Below N w1 wq) (fun _ i _ => L - (intOf i).toNat)
        case atStart => exact ⟨0,[],by omega,rfl,World.ownsRow_nil _ _ _ _,.nil,Below.refl _ _⟩
        case round =>
         obtain ⟨j,xs',hj,rfl,hown,hcells,hbq⟩:=hrel
         have z4:=(hbq.cell (p:=⟨X,4,none⟩) Jq).trans y4
         have hNq : N ≤ wr.heap.size:=by rw [← hN]; exact hbq.size
         by_cases hlt : j < L
         ·obtain ⟨c,hc⟩ : ∃ x,u.kids[j]? = some x:=⟨_,List.getElem?_eq_getElem (by rw [BU.out]; exact hlt)⟩
          have HC:=zH hc
          obtain ⟨-,-,b',off',D1,m1,q1,D2,m2,q2,rfl,d0,d1,d2,d3,d4,hl',hk'⟩:=nT Ew.out hc
          have hbN : b' < N:=by rw [← hN]; exact cell_lt d0
          have vT:=zH hl'; have rP:=zH hk'; clear hl' hk' hc
          have e0:=(hbq.cell (p:=⟨b',_,none⟩) hbN).trans d0
          have e1:=(hbq.cell (p:=⟨b',_,none⟩) hbN).trans d1
          have e2:=(hbq.cell (p:=⟨b',_,none⟩) hbN).trans d2
          have e3:=(hbq.cell (p:=⟨b',_,none⟩) hbN).trans d3
          have e4:=(hbq.cell (p:=⟨b',_,none⟩) hbN).trans d4
          obtain ⟨Av,wL,rfl⟩:=bg hown
          have IW:=zH hcells; clear hcells
          go_wp2_with (at_builtin; go_must (refine pR pW rfl (.tmp 80) (.tmp 89) rfl N _ j xs' rfl (hown.alloc _) ⟨wr.heap.size,0,none⟩ 1 1 [.int .i64 c.kind,.int .i64 c.sort,.string ⟨c.name.toArray⟩,.slice D1 m1 q1,.slice D2 m2 q2,.slice A3 ns.length p3] rfl rfl (wU _ _ _ _ _ _ _ _) (by simp [Value.oneCell']) (by unfold maxLen; omega) (by omega) (by rw [World.size_alloc]; omega) ?_; intro v' w3 k1 k2 k3 k4))
          go_roundw
          case rel =>
           refine ⟨j + 1,_,by omega,by go_num,k1,?_,(hbq.alloc hNq _).trans k4⟩
           rw [vg HC.out]
           exact IW.out.append (.cons c ns _ _ _ [] [] vT.out rP.out HN.out .nil)
          case measure => simp [intOf]; omega
         ·have Jw : j = L:=by omega
          subst Jw
          clear hlt
          have htk : u.kids.take j = u.kids:=List.take_of_length_le (by rw [BU.out]; exact Nat.le_refl _)
          rw [htk] at hcells
          obtain ⟨-,ys,hys,FT⟩:=(LG.out.keep hb1').form
          have hyl:=hys.length
          have xM : ∀ q u,ys[q]? = some u → wr.cell? ((⟨b,so,none⟩ : Addr).add q) = some u:=fun q u hq => by
           have h:=FT q u hq
           rw [Go.WideShapes.add_plain] at h ⊢
           exact (hbq.cell (p:=⟨b,_,none⟩) (by rw [← hN]; exact cell_lt h)).trans h
          have hone:=hys.one
          have Jd:=zH xM; have Je:=zH hone
          have hall:=hcells.append hys
          have Aa:=zH hall
          obtain ⟨Av,wL,rfl⟩:=bg hown
          clear hcells hys FT xM hone hall
          go_wp2_with (at_builtin; go_must (refine oC pW rfl (.tmp 91) (.tmp 92) rfl N _ j xs' rfl hown (some ⟨b,so,none⟩) st.length c2 rfl ys hyl (fun e => by cases e) (fun ad e => by cases e; exact Jd.out) Je.out (by unfold maxLen; omega) (by omega) hNq ?_; intro v' w3 k1 k4))
          have hb3 : Below N w1 w3:=hbq.trans k4
          have xG : Below w1.heap.size w1 w3:=by rw [hN]; exact hb3
          have hlen2 : ((u.kids.map fun c => (c,ns)) ++ st).length = j + st.length:=by rw [List.length_append,List.length_map,BU.out]
          go_roundw
          case rel =>
           refine ⟨k + 1,(u.kids.map fun c => (c,ns)) ++ st,by omega,by go_num,uY (by rw [hlen2]; exact k1) (Aa.out.keep xG),?_,by rw [hlen2]; omega,?_,chain hb (chain hb1' xG)⟩
           ·intro x hx
            rcases List.mem_append.1 hx with h | h
            ·obtain ⟨c,hc,rfl⟩:=List.mem_map.1 h
             exact ⟨AU.out c hc,Nat.le_succ_of_le hnl,Ph.out⟩
            ·obtain ⟨g1,g2,g3⟩:=O8.out x (List.mem_cons_of_mem _ h)
             exact ⟨g1,by omega,g3⟩
           ·have e : 60 - (k + 1) = Q:=by omega
            rw [e]
            exact hst2
          case measure => simp [intOf]; omega
end Go.Proofs.YtpidjanngbaiiaaGreatDoor
