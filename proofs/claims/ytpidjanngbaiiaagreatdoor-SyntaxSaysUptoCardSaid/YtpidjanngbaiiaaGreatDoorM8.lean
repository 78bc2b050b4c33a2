/-
  TyK3 TyK4 PrO9
-/
import Derived.Test.YtpidjanngbaiiaaGreatDoorM7
namespace Go.Proofs.YtpidjanngbaiiaaGreatDoor
open Go.RowKit Go.Proofs
set_option maxRecDepth 100000
set_option maxHeartbeats 32000000
theorem wJ {u u' : Ty} (h8 : u.kind = 8) (hk : u.kids = [u']) : (bottom u).kind = (bottom u').kind:=by
 obtain ⟨k,s,n,ls,ks⟩:=u
 simp only [Ty.kind,Ty.kids] at h8 hk
 subst h8 hk
 rfl
theorem xx {u : Ty} (h : ¬ (u.kind = 8 ∧ u.kids.length = 1)) : (bottom u).kind = u.kind:=by
 obtain ⟨k,s,n,ls,ks⟩:=u
 simp only [Ty.kind,Ty.kids] at h ⊢
 unfold bottom
 rw [if_neg h]

theorem check_r7 (m : Nat) (ih : ∀ (t : Ty) (v bv : Value) (bound : List Str) (p : Nat) (left : Int) (w : World),parts t ≤ m → BC (· ≠ p) w v t → Fit t → bD (· ≠ p) w bv bound → (∀ s ∈ bound,s.length ≤ maxLen) → 0 ≤ left → (bound.length : Int) + left ≤ 60 → w.cell? ⟨p,0,none⟩ = some (.int .i64 left) → w.frozen? ⟨p,0,none⟩ = false → bJ t v bv bound p left w)
  (t : Ty) (v bv : Value) (bound : List Str) (p : Nat) (left : Int) (w : World) (hm : parts t ≤ m + 1) (hv : BC (· ≠ p) w v t) (hf : Fit t) (hbv : bD (· ≠ p) w bv bound) (hbl : ∀ s ∈ bound,s.length ≤ maxLen) (hl0 : 0 ≤ left) (hl : (bound.length : Int) + left ≤ 60) (hc : w.cell? ⟨p,0,none⟩ = some (.int .i64 left)) (hfr : w.frozen? ⟨p,0,none⟩ = false)
  (c : Ty) (hkc : t.kids = [c]) (hans : chk t bound left = (7,left - 1)) (hpos : 1 ≤ left) (hsh : ay t.kind t.sort t.name t.labels t.kids.length = true) (h9 : (t.kind == 9) = false) (h8 : (t.kind == 8) = true) (hq : (bottom c).kind = 9) :
  bJ t v bv bound p left w:=by
 unfold bJ
 rw [hans]
 clear hans
 have HT:=zH hv
 have HB:=zH hbv
 obtain ⟨lv,kv,rfl,h1,h2⟩:=hv
 have HK:=zH h2
 obtain ⟨A0,p0,rfl,-,-⟩:=h1
 obtain ⟨A,cap,rfl,-,-⟩:=h2
 have HF:=zH hf
 have IE:=zH hbl
 have HC:=zH hc
 have hp:=cell_lt hc
 obtain ⟨ks,hks⟩ : ∃ x,t.kids = x:=⟨_,rfl⟩
 have EK : ks[0]? = some c:=by rw [← hks,hkc]; rfl
 have hL1 : ks.length = 1:=by rw [← hks,hkc]; rfl
 have Gv:=zH (hks.symm.trans hkc)
 clear hkc
 have AU : Hid (∀ c ∈ ks,Fit c):=by have:=HF.out.parts.2.2.2.2; rw [hks] at this; exact this
 have HP : Hid (1 + pO ks ≤ m + 1):=by cases t; subst hks; exact hm
 have hkl : ks.length ≤ maxLen:=by rw [← hks]; exact hf.parts.2.2.2.1
 unfold maxLen at hkl
 have zZ:=zH hks
 rw [hks] at HK hsh ⊢
 have HL:=zH hL1
 rw [hL1] at HK hkl hsh ⊢
 clear hks hL1
 go_enter Tryz.func83,Tryz.ntmps83
 go_wp2_with fail
 obtain ⟨W,hW⟩ : ∃ W,(w.setCell ⟨p,0,none⟩ (.int .i64 (left - 1))).alloc (.cells #[.int .i64 t.kind,.int .i64 t.sort,.string ⟨t.name.toArray⟩,.slice A0 t.labels.length p0,.slice A 1 cap] 30) = W:=⟨_,rfl⟩
 have hl1 : Left W p (left - 1):=by subst hW; exact ((⟨hc,hfr⟩ : Left w p left).set (left - 1)).keep ((Below.refl _ _).alloc (Nat.le_refl _) _)
 have hgW : w.grownBy W (some p):=by subst hW; exact (gW w p _).trans (World.grownBy_alloc _ _ _)
 have hTB : pz W w.heap.size t (.slice A0 t.labels.length p0) (.slice A 1 cap):=by subst hW; exact ⟨by simp [go_sem],by simp [go_sem],by simp [go_sem],by simp [go_sem],by simp [go_sem],fun j => by simp [go_sem],by simp⟩
 try rw [hW]
 clear hW
 refine (sF t _ W (by have:=(HT.out.keep (D':=(· ≠ p)) (jy hgW) (fun b h _ => h)).is; rw [zZ.out,HL.out] at this; exact this) HF.out).mono ?_
 rw [zZ.out,HL.out,hsh]
 rintro e w1 ⟨rfl,hb1⟩
 have hl2:=hl1.keep hb1
 have hg1:=hgW.trans (grown_below hb1 _)
 have ww:=hTB.keep hb1 hTB.lt
 obtain ⟨t0,t1,t2,t3,t4,t5,t6⟩:=id ww
 clear hl1 hgW hTB hb1
 obtain ⟨-,-,b,off,A1,n1,p1,A2,n2,p2,rfl,hbp,c0,c1,c2,c3,c4,hl',hk'⟩:=qi (HK.out.keep (D':=(· ≠ p)) (jy hg1) (fun b h _ => h)) EK
 simp only [Nat.zero_mul,Nat.add_zero] at c0 c1 c2 c3 c4
 have vT:=zH hl'; have rP:=zH hk'; clear hl' hk'
 go_wp2_with fail
 obtain ⟨bb,hbb⟩ : ∃ x,w1.heap.size = x:=⟨_,rfl⟩
 obtain ⟨wa,mQ⟩ : ∃ y,w1.alloc (.cells #[.int .i64 c.kind,.int .i64 c.sort,.string ⟨c.name.toArray⟩,.slice A1 n1 p1,.slice A2 n2 p2] 30) = y:=⟨_,rfl⟩
 have hba : Below w1.heap.size w1 wa:=by subst mQ; exact (Below.refl _ _).alloc (Nat.le_refl _) _
 have hsa : wa.heap.size = bb + 1:=by subst mQ; simp [hbb]
 have hla:=hl2.keep hba
 have hga:=hg1.trans (grown_below hba _)
 have hpb : p ≠ bb:=by have:=hl2.lt; omega
 have hwb : w.heap.size < bb:=by have:=ww.lt; omega
 have hkb : pz wa bb c (.slice A1 n1 p1) (.slice A2 n2 p2):=by subst mQ hbb; exact ⟨by simp [go_sem],by simp [go_sem],by simp [go_sem],by simp [go_sem],by simp [go_sem],fun j => by simp [go_sem],by simp⟩
 have Jp:=ww.keep hba ww.lt
 have hD : ∀ b,b ≠ p → b < w1.heap.size → b ≠ p ∧ b ≠ bb:=fun b h hl => ⟨h,by omega⟩
 have hka:=(vX vT.out rP.out).keep (D':=fun b => b ≠ p ∧ b ≠ bb) (Same.below hba) hD
 try rw [mQ]
 try rw [hbb]
 have hcf : Fit c:=AU.out c (az EK)
 have HKC':=zH EK
 clear vT rP hbp mQ hba hl2 hg1 ww hsa hD t0 t1 t2 t3 t4 t5 t6 EK c0 c1 c2 c3 c4
 clear hbb
 clear w1
 obtain ⟨NB,Md⟩ : ∃ x,(bottom c).kind = x:=⟨_,rfl⟩
 rw [Md] at hq
 go_loopg [38] (parts c) (fun gk _ wr => ∃ (u : Ty) (B1 : Option Addr) (m1 q1 : Nat) (B2 : Option Addr) (m2 q2 : Nat),parts u ≤ gk ∧ (bottom u).kind = NB ∧ pz wr bb u (.slice B1 m1 q1) (.slice B2 m2 q2) ∧ BC (fun b => b ≠ p ∧ b ≠ bb) wr (.agg #[.int .i64 u.kind,.int .i64 u.sort,.string ⟨u.name.toArray⟩,.slice B1 m1 q1,.slice B2 m2 q2]) u ∧ Fit u ∧
  pz wr w.heap.size t (.slice A0 t.labels.length p0) (.slice (some ⟨b,off,none⟩) 1 cap) ∧ Left wr p (left - 1) ∧ w.grownBy wr (some p))
 case atStart => exact ⟨c,A1,n1,p1,A2,n2,p2,Nat.le_refl _,Md,hkb,hka,hcf,Jp,hla,hga⟩
 case round =>
  clear hkb hka hcf Jp hla hga
  obtain ⟨u,B1,m1,q1,B2,m2,q2,hgk,hub,Iy,hu,OT,hTB,hl2,hg1⟩:=hrel
  have HU:=zH hu
  obtain ⟨_,_,e,hu1,hu2⟩:=hu
  injection e with e
  have e:=congrArg Array.toList e
  simp only [List.cons.injEq,true_and,and_true] at e
  obtain ⟨rfl,rfl⟩:=e
  have hm2 : m2 = u.kids.length:=by obtain ⟨_,_,e,_⟩:=hu2; injection e
  have Ib : m2 ≤ 9223372036854775807:=by rw [hm2]; exact OT.parts.2.2.2.1
  by_cases h8u : u.kind = 8 ∧ m2 = 1
  ·obtain ⟨k8,hm1⟩:=h8u
   subst hm1
   obtain ⟨u',hu'⟩ : ∃ x,u.kids = [x]:=by
    match hkk : u.kids,hm2 with
    | [x],_ => exact ⟨x,rfl⟩
   rw [hu'] at hu2
   obtain ⟨-,-,b',off',D1,r1,s1,D2,r2,s2,rfl,hbp',d0,d1,d2,d3,d4,hl',hk'⟩:=qi (i:=0) (t:=u') hu2 rfl
   simp only [Nat.zero_mul,Nat.add_zero] at d0 d1 d2 d3 d4
   have HL2:=zH hl'; have Ew:=zH hk'
   obtain ⟨u0,u1,u2,u3,u4,u5,u6⟩:=id Iy
   have hk8 : (u.kind == 8) = true:=by simp [k8]
   have HM:=zH hm2; have Pi:=zH hu'; have PL:=zH k8
   clear hl' hk' hu1 hu2 hm2 hu' k8
   go_wp2_with fail
   have hne : ¬ (bb ≠ p ∧ bb ≠ bb):=fun h => h.2 rfl
   have FI:=Iy.fill u' (.slice D1 r1 s1) (.slice D2 r2 s2)
   have hu2:=(vX HL2.out Ew.out).keep (D':=fun b => b ≠ p ∧ b ≠ bb) (Same.fill (b:=bb) hne (.int .i64 u'.kind) (.int .i64 u'.sort) (.string ⟨u'.name.toArray⟩) (.slice D1 r1 s1) (.slice D2 r2 s2)) (fun b h _ => h)
   have Jo:=hTB.far5 (q:=bb) (by omega) (.int .i64 u'.kind) (.int .i64 u'.sort) (.string ⟨u'.name.toArray⟩) (.slice D1 r1 s1) (.slice D2 r2 s2)
   have Jy:=hl2.far5 (q:=bb) (by omega) (.int .i64 u'.kind) (.int .i64 u'.sort) (.string ⟨u'.name.toArray⟩) (.slice D1 r1 s1) (.slice D2 r2 s2)
   have hg1':=CQ hg1 (q:=bb) (by omega) (.int .i64 u'.kind) (.int .i64 u'.sort) (.string ⟨u'.name.toArray⟩) (.slice D1 r1 s1) (.slice D2 r2 s2)
   generalize (((((wr.setCell ⟨bb,0,none⟩ (.int .i64 u'.kind)).setCell ⟨bb,1,none⟩ (.int .i64 u'.sort)).setCell ⟨bb,2,none⟩ (.string ⟨u'.name.toArray⟩)).setCell ⟨bb,3,none⟩ (.slice D1 r1 s1)).setCell ⟨bb,4,none⟩ (.slice D2 r2 s2)) = w4 at FI hu2 Jo Jy hg1' ⊢
   have hin : u' ∈ u.kids:=by rw [Pi.out]; simp
   have hpu : parts u' < gk:=by
    have h1:=pV hin
    have h2 : parts u = 1 + pO u.kids:=by cases u; rfl
    omega
   go_roundg (parts u')
   case measure => exact hpu
   case rel => exact ⟨u',D1,r1,s1,D2,r2,s2,Nat.le_refl _,(wJ PL.out Pi.out).symm.trans hub,FI,hu2,OT.parts.2.2.2.2 u' hin,Jo,Jy,hg1'⟩
  ·have hun : u.kind = NB:=by rw [← hub,xx (by rw [← hm2]; exact h8u)]
   obtain ⟨u0,u1,u2,u3,u4,u5,u6⟩:=id Iy
   have HM:=zH hm2
   clear hub hgk OT hu1 hu2 hm2 Iy HU
   have hk9 : (u.kind == 9) = true:=by rw [hun]; simp [hq]
   have hk8 : (u.kind == 8) = false:=by rw [hun]; simp [hq]
   clear h8u hun
   go_wp2_with fail
   go_ret
   exact ⟨rfl,hg1,hl2.c,hl2.f⟩
theorem check_r (m : Nat) (ih : ∀ (t : Ty) (v bv : Value) (bound : List Str) (p : Nat) (left : Int) (w : World),parts t ≤ m → BC (· ≠ p) w v t → Fit t → bD (· ≠ p) w bv bound → (∀ s ∈ bound,s.length ≤ maxLen) → 0 ≤ left → (bound.length : Int) + left ≤ 60 → w.cell? ⟨p,0,none⟩ = some (.int .i64 left) → w.frozen? ⟨p,0,none⟩ = false → bJ t v bv bound p left w)
  (t : Ty) (v bv : Value) (bound : List Str) (p : Nat) (left : Int) (w : World) (hm : parts t ≤ m + 1) (hv : BC (· ≠ p) w v t) (hf : Fit t) (hbv : bD (· ≠ p) w bv bound) (hbl : ∀ s ∈ bound,s.length ≤ maxLen) (hl0 : 0 ≤ left) (hl : (bound.length : Int) + left ≤ 60) (hc : w.cell? ⟨p,0,none⟩ = some (.int .i64 left)) (hfr : w.frozen? ⟨p,0,none⟩ = false)
  (c : Ty) (hkc : t.kids = [c]) (AX : List Str) (hbd : AX = bound ++ [t.name]) (hans : chk t bound left = dR t.kids AX (left - 1)) (hpos : 1 ≤ left) (hsh : ay t.kind t.sort t.name t.labels t.kids.length = true) (h9 : (t.kind == 9) = false) (h8 : (t.kind == 8) = true) (hq : (bottom c).kind ≠ 9) :
  bJ t v bv bound p left w:=by
 unfold bJ
 rw [hans]
 clear hans
 have HT:=zH hv
 have HB:=zH hbv
 obtain ⟨lv,kv,rfl,h1,h2⟩:=hv
 have HK:=zH h2
 obtain ⟨A0,p0,rfl,-,-⟩:=h1
 obtain ⟨A,cap,rfl,-,-⟩:=h2
 have HF:=zH hf
 have IE:=zH hbl
 have HC:=zH hc
 have hp:=cell_lt hc
 obtain ⟨ks,hks⟩ : ∃ x,t.kids = x:=⟨_,rfl⟩
 have EK : ks[0]? = some c:=by rw [← hks,hkc]; rfl
 have hL1 : ks.length = 1:=by rw [← hks,hkc]; rfl
 have Gv:=zH (hks.symm.trans hkc)
 have RU:=zH hbd
 clear hbd
 clear hkc
 have AU : Hid (∀ c ∈ ks,Fit c):=by have:=HF.out.parts.2.2.2.2; rw [hks] at this; exact this
 have HP : Hid (1 + pO ks ≤ m + 1):=by cases t; subst hks; exact hm
 have hkl : ks.length ≤ maxLen:=by rw [← hks]; exact hf.parts.2.2.2.1
 unfold maxLen at hkl
 have zZ:=zH hks
 rw [hks] at HK hsh ⊢
 have HL:=zH hL1
 rw [hL1] at HK hkl hsh ⊢
 clear hks hL1
 go_enter Tryz.func83,Tryz.ntmps83
 go_wp2_with fail
 obtain ⟨W,hW⟩ : ∃ W,(w.setCell ⟨p,0,none⟩ (.int .i64 (left - 1))).alloc (.cells #[.int .i64 t.kind,.int .i64 t.sort,.string ⟨t.name.toArray⟩,.slice A0 t.labels.length p0,.slice A 1 cap] 30) = W:=⟨_,rfl⟩
 have hl1 : Left W p (left - 1):=by subst hW; exact ((⟨hc,hfr⟩ : Left w p left).set (left - 1)).keep ((Below.refl _ _).alloc (Nat.le_refl _) _)
 have hgW : w.grownBy W (some p):=by subst hW; exact (gW w p _).trans (World.grownBy_alloc _ _ _)
 have hTB : pz W w.heap.size t (.slice A0 t.labels.length p0) (.slice A 1 cap):=by subst hW; exact ⟨by simp [go_sem],by simp [go_sem],by simp [go_sem],by simp [go_sem],by simp [go_sem],fun j => by simp [go_sem],by simp⟩
 try rw [hW]
 clear hW
 refine (sF t _ W (by have:=(HT.out.keep (D':=(· ≠ p)) (jy hgW) (fun b h _ => h)).is; rw [zZ.out,HL.out] at this; exact this) HF.out).mono ?_
 rw [zZ.out,HL.out,hsh]
 rintro e w1 ⟨rfl,hb1⟩
 have hl2:=hl1.keep hb1
 have hg1:=hgW.trans (grown_below hb1 _)
 have ww:=hTB.keep hb1 hTB.lt
 obtain ⟨t0,t1,t2,t3,t4,t5,t6⟩:=id ww
 clear hl1 hgW hTB hb1
 obtain ⟨-,-,b,off,A1,n1,p1,A2,n2,p2,rfl,hbp,c0,c1,c2,c3,c4,hl',hk'⟩:=qi (HK.out.keep (D':=(· ≠ p)) (jy hg1) (fun b h _ => h)) EK
 simp only [Nat.zero_mul,Nat.add_zero] at c0 c1 c2 c3 c4
 have vT:=zH hl'; have rP:=zH hk'; clear hl' hk'
 go_wp2_with fail
 obtain ⟨bb,hbb⟩ : ∃ x,w1.heap.size = x:=⟨_,rfl⟩
 obtain ⟨wa,mQ⟩ : ∃ y,w1.alloc (.cells #[.int .i64 c.kind,.int .i64 c.sort,.string ⟨c.name.toArray⟩,.slice A1 n1 p1,.slice A2 n2 p2] 30) = y:=⟨_,rfl⟩
 have hba : Below w1.heap.size w1 wa:=by subst mQ; exact (Below.refl _ _).alloc (Nat.le_refl _) _
 have hsa : wa.heap.size = bb + 1:=by subst mQ; simp [hbb]
 have hla:=hl2.keep hba
 have hga:=hg1.trans (grown_below hba _)
 have hpb : p ≠ bb:=by have:=hl2.lt; omega
 have hwb : w.heap.size < bb:=by have:=ww.lt; omega
 have hkb : pz wa bb c (.slice A1 n1 p1) (.slice A2 n2 p2):=by subst mQ hbb; exact ⟨by simp [go_sem],by simp [go_sem],by simp [go_sem],by simp [go_sem],by simp [go_sem],fun j => by simp [go_sem],by simp⟩
 have Jp:=ww.keep hba ww.lt
 have hD : ∀ b,b ≠ p → b < w1.heap.size → b ≠ p ∧ b ≠ bb:=fun b h hl => ⟨h,by omega⟩
 have hka:=(vX vT.out rP.out).keep (D':=fun b => b ≠ p ∧ b ≠ bb) (Same.below hba) hD
 try rw [mQ]
 try rw [hbb]
 have hcf : Fit c:=AU.out c (az EK)
 have HKC':=zH EK
 clear vT rP hbp mQ hba hl2 hg1 ww hsa hD t0 t1 t2 t3 t4 t5 t6 EK c0 c1 c2 c3 c4
 clear hbb
 clear w1
 obtain ⟨NB,Md⟩ : ∃ x,(bottom c).kind = x:=⟨_,rfl⟩
 rw [Md] at hq
 go_loopg [38] (parts c) (fun gk _ wr => ∃ (u : Ty) (B1 : Option Addr) (m1 q1 : Nat) (B2 : Option Addr) (m2 q2 : Nat),parts u ≤ gk ∧ (bottom u).kind = NB ∧ pz wr bb u (.slice B1 m1 q1) (.slice B2 m2 q2) ∧ BC (fun b => b ≠ p ∧ b ≠ bb) wr (.agg #[.int .i64 u.kind,.int .i64 u.sort,.string ⟨u.name.toArray⟩,.slice B1 m1 q1,.slice B2 m2 q2]) u ∧ Fit u ∧
  pz wr w.heap.size t (.slice A0 t.labels.length p0) (.slice (some ⟨b,off,none⟩) 1 cap) ∧ Left wr p (left - 1) ∧ w.grownBy wr (some p))
 case atStart => exact ⟨c,A1,n1,p1,A2,n2,p2,Nat.le_refl _,Md,hkb,hka,hcf,Jp,hla,hga⟩
 case round =>
  clear hkb hka hcf Jp hla hga
  obtain ⟨u,B1,m1,q1,B2,m2,q2,hgk,hub,Iy,hu,OT,hTB,hl2,hg1⟩:=hrel
  have HU:=zH hu
  obtain ⟨_,_,e,hu1,hu2⟩:=hu
  injection e with e
  have e:=congrArg Array.toList e
  simp only [List.cons.injEq,true_and,and_true] at e
  obtain ⟨rfl,rfl⟩:=e
  have hm2 : m2 = u.kids.length:=by obtain ⟨_,_,e,_⟩:=hu2; injection e
  have Ib : m2 ≤ 9223372036854775807:=by rw [hm2]; exact OT.parts.2.2.2.1
  by_cases h8u : u.kind = 8 ∧ m2 = 1
  ·obtain ⟨k8,hm1⟩:=h8u
   subst hm1
   obtain ⟨u',hu'⟩ : ∃ x,u.kids = [x]:=by
    match hkk : u.kids,hm2 with
    | [x],_ => exact ⟨x,rfl⟩
   rw [hu'] at hu2
   obtain ⟨-,-,b',off',D1,r1,s1,D2,r2,s2,rfl,hbp',d0,d1,d2,d3,d4,hl',hk'⟩:=qi (i:=0) (t:=u') hu2 rfl
   simp only [Nat.zero_mul,Nat.add_zero] at d0 d1 d2 d3 d4
   have HL2:=zH hl'; have Ew:=zH hk'
   obtain ⟨u0,u1,u2,u3,u4,u5,u6⟩:=id Iy
   have hk8 : (u.kind == 8) = true:=by simp [k8]
   have HM:=zH hm2; have Pi:=zH hu'; have PL:=zH k8
   clear hl' hk' hu1 hu2 hm2 hu' k8
   go_wp2_with fail
   have hne : ¬ (bb ≠ p ∧ bb ≠ bb):=fun h => h.2 rfl
   have FI:=Iy.fill u' (.slice D1 r1 s1) (.slice D2 r2 s2)
   have hu2:=(vX HL2.out Ew.out).keep (D':=fun b => b ≠ p ∧ b ≠ bb) (Same.fill (b:=bb) hne (.int .i64 u'.kind) (.int .i64 u'.sort) (.string ⟨u'.name.toArray⟩) (.slice D1 r1 s1) (.slice D2 r2 s2)) (fun b h _ => h)
   have Jo:=hTB.far5 (q:=bb) (by omega) (.int .i64 u'.kind) (.int .i64 u'.sort) (.string ⟨u'.name.toArray⟩) (.slice D1 r1 s1) (.slice D2 r2 s2)
   have Jy:=hl2.far5 (q:=bb) (by omega) (.int .i64 u'.kind) (.int .i64 u'.sort) (.string ⟨u'.name.toArray⟩) (.slice D1 r1 s1) (.slice D2 r2 s2)
   have hg1':=CQ hg1 (q:=bb) (by omega) (.int .i64 u'.kind) (.int .i64 u'.sort) (.string ⟨u'.name.toArray⟩) (.slice D1 r1 s1) (.slice D2 r2 s2)
   generalize (((((wr.setCell ⟨bb,0,none⟩ (.int .i64 u'.kind)).setCell ⟨bb,1,none⟩ (.int .i64 u'.sort)).setCell ⟨bb,2,none⟩ (.string ⟨u'.name.toArray⟩)).setCell ⟨bb,3,none⟩ (.slice D1 r1 s1)).setCell ⟨bb,4,none⟩ (.slice D2 r2 s2)) = w4 at FI hu2 Jo Jy hg1' ⊢
   have hin : u' ∈ u.kids:=by rw [Pi.out]; simp
   have hpu : parts u' < gk:=by
    have h1:=pV hin
    have h2 : parts u = 1 + pO u.kids:=by cases u; rfl
    omega
   go_roundg (parts u')
   case measure => exact hpu
   case rel => exact ⟨u',D1,r1,s1,D2,r2,s2,Nat.le_refl _,(wJ PL.out Pi.out).symm.trans hub,FI,hu2,OT.parts.2.2.2.2 u' hin,Jo,Jy,hg1'⟩
  ·have hun : u.kind = NB:=by rw [← hub,xx (by rw [← hm2]; exact h8u)]
   obtain ⟨u0,u1,u2,u3,u4,u5,u6⟩:=id Iy
   have HM:=zH hm2
   clear hub hgk OT hu1 hu2 hm2 Iy HU
   by_cases k8 : u.kind = 8
   ·have hm1 : ((m2 : Int) == 1) = false:=by simp; omega
    have hk8 : (u.kind == 8) = true:=by simp [k8]
    have hk9 : (u.kind == 9) = false:=by simp [k8]
    clear h8u hun k8
    obtain ⟨t0,t1,t2,t3,t4,t5,t6⟩:=id hTB
    have hpw : p < wr.heap.size:=hl2.lt
    have hS : ∀ w' : World,Below wr.heap.size wr w' → (fun w' : World => w'.cell? ⟨w.heap.size,2,none⟩ = some (.string ⟨t.name.toArray⟩)) w':=fun w' h => (h.cell (p:=⟨w.heap.size,2,none⟩) t6).trans t2
    have bC:=zH (hS wr.drew (Below.refl _ _).drew)
    have jE:=zH hS; clear hS
    go_wp2_with fail
    refine aC 6 (fun w' : World => w'.cell? ⟨w.heap.size,2,none⟩ = some (.string ⟨t.name.toArray⟩)) (by kernel_rfl) ?_
    refine zT 0 ?_ rfl (Or.inl ⟨by rfl,?_⟩) bC.out ?_
    rotate_left
    ·(intro wq hSw; have q0 : wq.cell? ⟨w.heap.size,2,none⟩ = some (.string ⟨t.name.toArray⟩):=hSw; go_simp; all_goals (with_reducible rfl))
    try simp only [zA,zB,zC,Act.put,zD,zE,zF]
    refine zT 2 ?_ rfl (Or.inl ⟨by rfl,?_⟩) bC.out ?_
    rotate_left
    ·(intro wq hSw; have q0 : wq.cell? ⟨w.heap.size,2,none⟩ = some (.string ⟨t.name.toArray⟩):=hSw; go_simp; all_goals (with_reducible rfl))
    try simp only [zA,zB,zC,Act.put,zD,zE,zF]
    refine zT 3 ?_ rfl (Or.inl ⟨by rfl,?_⟩) bC.out ?_
    rotate_left
    ·(intro wq hSw; have q0 : wq.cell? ⟨w.heap.size,2,none⟩ = some (.string ⟨t.name.toArray⟩):=hSw; go_simp; all_goals (with_reducible rfl))
    try simp only [zA,zB,zC,Act.put,zD,zE,zF]
    refine BJ (i:=1) (j:=4) rfl rfl (by kernel_rfl) (fun K hK => ?_) (fun K hK => ?_)
    ·go_simp
     refine (yj (HB.out.keep (D':=(· ≠ p)) (w':=wr.drew) (jy (hg1.trans (grown_below (Below.refl _ _).drew _))) (fun b h _ => h)) (by omega)).mono ?_
     rintro e w1 ⟨v',rfl,hown,hb1⟩
     have hb1' : Below wr.heap.size wr w1:=chain ((Below.refl _ _).drew) hb1
     have hs1:=hb1'.size
     have hown' : w1.ownsRow wr.heap.size 9 1 v' bound.length (bound.map fun s => .string ⟨s.toArray⟩):=hown
     refine hK.out _ _ (fun _ => jE.out w1 hb1') ?_
     clear hK K
     try simp only [zA,zB,zC,Act.put,zD,zE,zF]
     refine zO 4 fun K hK => ?_
     go_simp
     have Bz:=hb1'.alloc hs1 (.cells #[.string ⟨t.name.toArray⟩] 9)
     refine hK.out _ _ (fun _ => jE.out _ Bz) ?_
     clear hK K
     try simp only [zA,zB,zC,Act.put,zD,zE,zF]
     refine zO 5 fun K hK => ?_
     refine o5 nO rfl (.tmp 55) (.tmp 58) rfl wr.heap.size v' bound.length (bound.map fun s => .string ⟨s.toArray⟩) rfl (hown'.alloc _) ⟨w1.heap.size,0,none⟩ 1 1 [.string ⟨t.name.toArray⟩] rfl rfl (cell_one_new _ _ _) (by simp [Value.oneCell']) (by unfold maxLen; omega) (by omega) (by rw [World.size_alloc]; omega) (fun v'' w3 k1 k2 k3 k4 => ?_)
     have hb3:=Bz.trans k4
     clear hown hown'
     refine hK.out _ _ (fun _ => jE.out _ hb3) ?_
     clear hK K
     try simp only [zA,zB,zC,Act.put,zD,zE,zF]
     refine zO 6 fun K hK => ?_
     go_simp
     refine hK.out _ _ (fun h => absurd h (by decide)) ?_
     clear hK K
     try simp only [zA,zB,zC,Act.put,zD,zE,zF]
     refine bf (by kernel_rfl) ?_
     have hsx : bD (· ≠ p) w3 v'' (bound ++ [t.name]):=xN k1 (fun q hq => by omega)
     have hlx:=hl2.keep hb3
     have hgx:=hg1.trans (grown_below hb3 _)
     have CU:=hTB.keep hb3 hTB.lt
     have BO : Hid (∀ s ∈ bound ++ [t.name],s.length ≤ maxLen):=by
      intro s hs
      rcases List.mem_append.1 hs with h | h
      ·exact IE.out s h
      ·rw [List.mem_singleton.1 h]; exact HF.out.parts.1
     have hlen : ((bound ++ [t.name]).length : Int) + left ≤ 61:=by simp; omega
     clear hl2 hg1 hTB hb1 hb3 k1 k2 k3 k4 jE bC t0 t1 t2 t3 t4 t5 t6 u0 u1 u2 u3 u4 u5 u6
     have hl2:=hlx; have hg1:=hgx; have vM:=hsx
     clear hlx hgx hsx
     rw [← RU.out] at vM BO hlen
     obtain ⟨Jj,yX⟩ : ∃ x,v'' = x:=⟨_,rfl⟩
     rw [yX] at vM
     rw [yX]
     clear yX
     obtain ⟨t0,t1,t2,t3,t4,t5,t6⟩:=id CU
     go_wp2_with fail
     go_loopw [63] (fun i wr => ∃ (k : Nat) (lk : Int),k ≤ 1 ∧ i = .int .i64 k ∧ 0 ≤ lk ∧ lk ≤ left - 1 ∧ Left wr p lk ∧ w.grownBy wr (some p) ∧ bD (· ≠ p) wr Jj AX ∧ Hid (dR ks AX (left - 1) = dR (ks.drop k) AX lk)) (fun i _ => 1 - (intOf i).toNat)
     case atStart => exact ⟨0,left - 1,by omega,rfl,by omega,by omega,hl2,hg1,vM,rfl⟩
     case round =>
      clear hl2 hg1 vM CU t0 t1 t2 t3 t4 t5 t6
      obtain ⟨k,lk,hk,rfl,hlk0,FN,hl2,hg1,vM,hs⟩:=hrel
      by_cases hlt : k < 1
      ·obtain ⟨c,hc'⟩ : ∃ x,ks[k]? = some x:=⟨_,List.getElem?_eq_getElem (by rw [HL.out]; exact hlt)⟩
       have vY:=zH hc'
       obtain ⟨-,-,b,off,A1,n1,p1,A2,n2,p2,eA,hbp,c0,c1,c2,c3,c4,hl',hk'⟩:=qi (HK.out.keep (D':=(· ≠ p)) (jy hg1) (fun b h _ => h)) hc'
       cases eA
       have vT:=zH hl'; have rP:=zH hk'; clear hl' hk' hc'
       have hcp : parts c ≤ m:=by have h1:=pV (az vY.out); have h2:=HP.out; omega
       have hcf : Fit c:=AU.out c (az vY.out)
       obtain ⟨wa,mQ⟩ : ∃ y,wr.alloc (.cells #[.int .i64 c.kind,.int .i64 c.sort,.string ⟨c.name.toArray⟩,.slice A1 n1 p1,.slice A2 n2 p2] 30) = y:=⟨_,rfl⟩
       have hba : Below wr.heap.size wr wa:=by subst mQ; exact (Below.refl _ _).alloc (Nat.le_refl _) _
       have hla:=hl2.keep hba
       have hga:=hg1.trans (grown_below hba _)
       have hkb : pz wa wr.heap.size c (.slice A1 n1 p1) (.slice A2 n2 p2):=by subst mQ; exact ⟨by simp [go_sem],by simp [go_sem],by simp [go_sem],by simp [go_sem],by simp [go_sem],fun j => by simp [go_sem],by simp⟩
       obtain ⟨k0,k1,k2,k3,k4,k5,k6⟩:=id hkb
       obtain ⟨R,hR⟩ : ∃ x,chk c AX lk = x:=⟨_,rfl⟩
       have HR:=zH hR
       have hstep:=hs.out
       rw [qA vY.out,hR] at hstep
       have hcall:=ih c (.agg #[.int .i64 c.kind,.int .i64 c.sort,.string ⟨c.name.toArray⟩,.slice A1 n1 p1,.slice A2 n2 p2]) Jj AX p lk wa hcp ((vX vT.out rP.out).keep (Same.below hba) (fun b h _ => h)) hcf (vM.keep (Same.below hba) (fun b h _ => h)) BO.out hlk0 (by omega) hla.c hla.f
       unfold bJ at hcall
       rw [hR] at hcall
       have dP:=zH hcall
       clear hR hcall
       by_cases he : R.1 = 0
       ·have hp2 : 0 ≤ R.2 ∧ R.2 ≤ lk:=by
         have h1:=qV c AX lk (by rw [HR.out]; exact he)
         rw [HR.out] at h1
         omega
        rw [if_neg (by simpa using he)] at hstep
        have HST:=zH hstep
        have hE : (R.1 != 0) = false:=by rw [bne_eq_false_iff_eq]; exact he
        clear hstep hs he
        go_wp2_with fail
        try rw [mQ]
        clear mQ
        refine dP.out.mono ?_
        rintro e w2 ⟨rfl,hg2,hc2,hf2⟩
        go_wp2_with fail
        go_roundw
        case rel => exact ⟨k + 1,R.2,by omega,by go_num,hp2.1,by omega,⟨hc2,hf2⟩,hga.trans hg2,(vM.keep (Same.below hba) (fun b h _ => h)).keep (jy hg2) (fun b h _ => h),HST⟩
        case measure => simp [intOf]; omega
       ·rw [if_pos he] at hstep
        have HST:=zH hstep
        have hE : (R.1 != 0) = true:=by rw [bne_iff_ne]; exact he
        clear hstep hs he
        go_wp2_with fail
        try rw [mQ]
        clear mQ
        refine dP.out.mono ?_
        rintro e w2 ⟨rfl,hg2,hc2,hf2⟩
        go_wp2_with fail
        go_ret
        rw [HST.out]
        exact ⟨rfl,hga.trans hg2,hc2,hf2⟩
      ·have hend:=hs.out
       rw [List.drop_of_length_le (by rw [HL.out]; omega)] at hend
       have HE:=zH hend
       clear hend hs
       go_wp2_with fail
       go_ret
       rw [HE.out]
       exact ⟨rfl,hg1,hl2.c,hl2.f⟩
    ·go_simp
     have hbz : Below wr.heap.size wr (wr.alloc (.cells #[.string ⟨t.name.toArray⟩] 9)):=(Below.refl _ _).alloc (Nat.le_refl _) _
     refine hK.out _ _ (fun _ => jE.out _ hbz.drew) ?_
     clear hK K
     try simp only [zA,zB,zC,Act.put,zD,zE,zF]
     refine zO 1 fun K hK => ?_
     go_simp
     refine (yj (HB.out.keep (D':=(· ≠ p)) (w':=(wr.alloc (.cells #[.string ⟨t.name.toArray⟩] 9)).drew) (jy (hg1.trans (grown_below hbz.drew _))) (fun b h _ => h)) (by omega)).mono ?_
     rintro e w1 ⟨v',rfl,hown,hb1⟩
     have hb1' : Below wr.heap.size wr w1:=chain hbz.drew hb1
     have hs1:=hb1'.size
     have hown' : w1.ownsRow wr.heap.size 9 1 v' bound.length (bound.map fun s => .string ⟨s.toArray⟩):=FV hown (by show _ ≤ (wr.alloc _).heap.size; simp)
     have hnew : ∀ j u,([.string ⟨t.name.toArray⟩] : List Value)[j]? = some u → w1.cell? ((⟨wr.heap.size,0,none⟩ : Addr).add j) = some u:=fun j u hj => by
      have h:=cell_one_new wr (.string ⟨t.name.toArray⟩) 9 j u hj
      rw [Go.WideShapes.add_plain] at h ⊢
      exact ae (w:=(wr.alloc (.cells #[.string ⟨t.name.toArray⟩] 9)).drew) h hb1
     refine hK.out _ _ (fun _ => jE.out w1 hb1') ?_
     clear hK K
     try simp only [zA,zB,zC,Act.put,zD,zE,zF]
     refine zO 5 fun K hK => ?_
     refine o5 nO rfl (.tmp 55) (.tmp 58) rfl wr.heap.size v' bound.length (bound.map fun s => .string ⟨s.toArray⟩) rfl hown' ⟨wr.heap.size,0,none⟩ 1 1 [.string ⟨t.name.toArray⟩] rfl rfl hnew (by simp [Value.oneCell']) (by unfold maxLen; omega) (by omega) (by skip; omega) (fun v'' w3 k1 k2 k3 k4 => ?_)
     have hb3:=hb1'.trans k4
     clear hown hown' hbz hnew
     refine hK.out _ _ (fun _ => jE.out _ hb3) ?_
     clear hK K
     try simp only [zA,zB,zC,Act.put,zD,zE,zF]
     refine zO 6 fun K hK => ?_
     go_simp
     refine hK.out _ _ (fun h => absurd h (by decide)) ?_
     clear hK K
     try simp only [zA,zB,zC,Act.put,zD,zE,zF]
     refine bf (by kernel_rfl) ?_
     have hsx : bD (· ≠ p) w3 v'' (bound ++ [t.name]):=xN k1 (fun q hq => by omega)
     have hlx:=hl2.keep hb3
     have hgx:=hg1.trans (grown_below hb3 _)
     have CU:=hTB.keep hb3 hTB.lt
     have BO : Hid (∀ s ∈ bound ++ [t.name],s.length ≤ maxLen):=by
      intro s hs
      rcases List.mem_append.1 hs with h | h
      ·exact IE.out s h
      ·rw [List.mem_singleton.1 h]; exact HF.out.parts.1
     have hlen : ((bound ++ [t.name]).length : Int) + left ≤ 61:=by simp; omega
     clear hl2 hg1 hTB hb1 hb3 k1 k2 k3 k4 jE bC t0 t1 t2 t3 t4 t5 t6 u0 u1 u2 u3 u4 u5 u6
     have hl2:=hlx; have hg1:=hgx; have vM:=hsx
     clear hlx hgx hsx
     rw [← RU.out] at vM BO hlen
     obtain ⟨Jj,yX⟩ : ∃ x,v'' = x:=⟨_,rfl⟩
     rw [yX] at vM
     rw [yX]
     clear yX
     obtain ⟨t0,t1,t2,t3,t4,t5,t6⟩:=id CU
     go_wp2_with fail
     go_loopw [63] (fun i wr => ∃ (k : Nat) (lk : Int),k ≤ 1 ∧ i = .int .i64 k ∧ 0 ≤ lk ∧ lk ≤ left - 1 ∧ Left wr p lk ∧ w.grownBy wr (some p) ∧ bD (· ≠ p) wr Jj AX ∧ Hid (dR ks AX (left - 1) = dR (ks.drop k) AX lk)) (fun i _ => 1 - (intOf i).toNat)
     case atStart => exact ⟨0,left - 1,by omega,rfl,by omega,by omega,hl2,hg1,vM,rfl⟩
     case round =>
      clear hl2 hg1 vM CU t0 t1 t2 t3 t4 t5 t6
      obtain ⟨k,lk,hk,rfl,hlk0,FN,hl2,hg1,vM,hs⟩:=hrel
      by_cases hlt : k < 1
      ·obtain ⟨c,hc'⟩ : ∃ x,ks[k]? = some x:=⟨_,List.getElem?_eq_getElem (by rw [HL.out]; exact hlt)⟩
       have vY:=zH hc'
       obtain ⟨-,-,b,off,A1,n1,p1,A2,n2,p2,eA,hbp,c0,c1,c2,c3,c4,hl',hk'⟩:=qi (HK.out.keep (D':=(· ≠ p)) (jy hg1) (fun b h _ => h)) hc'
       cases eA
       have vT:=zH hl'; have rP:=zH hk'; clear hl' hk' hc'
       have hcp : parts c ≤ m:=by have h1:=pV (az vY.out); have h2:=HP.out; omega
       have hcf : Fit c:=AU.out c (az vY.out)
       obtain ⟨wa,mQ⟩ : ∃ y,wr.alloc (.cells #[.int .i64 c.kind,.int .i64 c.sort,.string ⟨c.name.toArray⟩,.slice A1 n1 p1,.slice A2 n2 p2] 30) = y:=⟨_,rfl⟩
       have hba : Below wr.heap.size wr wa:=by subst mQ; exact (Below.refl _ _).alloc (Nat.le_refl _) _
       have hla:=hl2.keep hba
       have hga:=hg1.trans (grown_below hba _)
       have hkb : pz wa wr.heap.size c (.slice A1 n1 p1) (.slice A2 n2 p2):=by subst mQ; exact ⟨by simp [go_sem],by simp [go_sem],by simp [go_sem],by simp [go_sem],by simp [go_sem],fun j => by simp [go_sem],by simp⟩
       obtain ⟨k0,k1,k2,k3,k4,k5,k6⟩:=id hkb
       obtain ⟨R,hR⟩ : ∃ x,chk c AX lk = x:=⟨_,rfl⟩
       have HR:=zH hR
       have hstep:=hs.out
       rw [qA vY.out,hR] at hstep
       have hcall:=ih c (.agg #[.int .i64 c.kind,.int .i64 c.sort,.string ⟨c.name.toArray⟩,.slice A1 n1 p1,.slice A2 n2 p2]) Jj AX p lk wa hcp ((vX vT.out rP.out).keep (Same.below hba) (fun b h _ => h)) hcf (vM.keep (Same.below hba) (fun b h _ => h)) BO.out hlk0 (by omega) hla.c hla.f
       unfold bJ at hcall
       rw [hR] at hcall
       have dP:=zH hcall
       clear hR hcall
       by_cases he : R.1 = 0
       ·have hp2 : 0 ≤ R.2 ∧ R.2 ≤ lk:=by
         have h1:=qV c AX lk (by rw [HR.out]; exact he)
         rw [HR.out] at h1
         omega
        rw [if_neg (by simpa using he)] at hstep
        have HST:=zH hstep
        have hE : (R.1 != 0) = false:=by rw [bne_eq_false_iff_eq]; exact he
        clear hstep hs he
        go_wp2_with fail
        try rw [mQ]
        clear mQ
        refine dP.out.mono ?_
        rintro e w2 ⟨rfl,hg2,hc2,hf2⟩
        go_wp2_with fail
        go_roundw
        case rel => exact ⟨k + 1,R.2,by omega,by go_num,hp2.1,by omega,⟨hc2,hf2⟩,hga.trans hg2,(vM.keep (Same.below hba) (fun b h _ => h)).keep (jy hg2) (fun b h _ => h),HST⟩
        case measure => simp [intOf]; omega
       ·rw [if_pos he] at hstep
        have HST:=zH hstep
        have hE : (R.1 != 0) = true:=by rw [bne_iff_ne]; exact he
        clear hstep hs he
        go_wp2_with fail
        try rw [mQ]
        clear mQ
        refine dP.out.mono ?_
        rintro e w2 ⟨rfl,hg2,hc2,hf2⟩
        go_wp2_with fail
        go_ret
        rw [HST.out]
        exact ⟨rfl,hga.trans hg2,hc2,hf2⟩
      ·have hend:=hs.out
       rw [List.drop_of_length_le (by rw [HL.out]; omega)] at hend
       have HE:=zH hend
       clear hend hs
       go_wp2_with fail
       go_ret
       rw [HE.out]
       exact ⟨rfl,hg1,hl2.c,hl2.f⟩
   ·have hk8 : (u.kind == 8) = false:=by simp [k8]
    have hk9 : (u.kind == 9) = false:=by rw [hun]; simp [hq]
    clear h8u hun k8
    obtain ⟨t0,t1,t2,t3,t4,t5,t6⟩:=id hTB
    have hpw : p < wr.heap.size:=hl2.lt
    have hS : ∀ w' : World,Below wr.heap.size wr w' → (fun w' : World => w'.cell? ⟨w.heap.size,2,none⟩ = some (.string ⟨t.name.toArray⟩)) w':=fun w' h => (h.cell (p:=⟨w.heap.size,2,none⟩) t6).trans t2
    have bC:=zH (hS wr.drew (Below.refl _ _).drew)
    have jE:=zH hS; clear hS
    go_wp2_with fail
    refine aC 6 (fun w' : World => w'.cell? ⟨w.heap.size,2,none⟩ = some (.string ⟨t.name.toArray⟩)) (by kernel_rfl) ?_
    refine zT 0 ?_ rfl (Or.inl ⟨by rfl,?_⟩) bC.out ?_
    rotate_left
    ·(intro wq hSw; have q0 : wq.cell? ⟨w.heap.size,2,none⟩ = some (.string ⟨t.name.toArray⟩):=hSw; go_simp; all_goals (with_reducible rfl))
    try simp only [zA,zB,zC,Act.put,zD,zE,zF]
    refine zT 2 ?_ rfl (Or.inl ⟨by rfl,?_⟩) bC.out ?_
    rotate_left
    ·(intro wq hSw; have q0 : wq.cell? ⟨w.heap.size,2,none⟩ = some (.string ⟨t.name.toArray⟩):=hSw; go_simp; all_goals (with_reducible rfl))
    try simp only [zA,zB,zC,Act.put,zD,zE,zF]
    refine zT 3 ?_ rfl (Or.inl ⟨by rfl,?_⟩) bC.out ?_
    rotate_left
    ·(intro wq hSw; have q0 : wq.cell? ⟨w.heap.size,2,none⟩ = some (.string ⟨t.name.toArray⟩):=hSw; go_simp; all_goals (with_reducible rfl))
    try simp only [zA,zB,zC,Act.put,zD,zE,zF]
    refine BJ (i:=1) (j:=4) rfl rfl (by kernel_rfl) (fun K hK => ?_) (fun K hK => ?_)
    ·go_simp
     refine (yj (HB.out.keep (D':=(· ≠ p)) (w':=wr.drew) (jy (hg1.trans (grown_below (Below.refl _ _).drew _))) (fun b h _ => h)) (by omega)).mono ?_
     rintro e w1 ⟨v',rfl,hown,hb1⟩
     have hb1' : Below wr.heap.size wr w1:=chain ((Below.refl _ _).drew) hb1
     have hs1:=hb1'.size
     have hown' : w1.ownsRow wr.heap.size 9 1 v' bound.length (bound.map fun s => .string ⟨s.toArray⟩):=hown
     refine hK.out _ _ (fun _ => jE.out w1 hb1') ?_
     clear hK K
     try simp only [zA,zB,zC,Act.put,zD,zE,zF]
     refine zO 4 fun K hK => ?_
     go_simp
     have Bz:=hb1'.alloc hs1 (.cells #[.string ⟨t.name.toArray⟩] 9)
     refine hK.out _ _ (fun _ => jE.out _ Bz) ?_
     clear hK K
     try simp only [zA,zB,zC,Act.put,zD,zE,zF]
     refine zO 5 fun K hK => ?_
     refine o5 nO rfl (.tmp 55) (.tmp 58) rfl wr.heap.size v' bound.length (bound.map fun s => .string ⟨s.toArray⟩) rfl (hown'.alloc _) ⟨w1.heap.size,0,none⟩ 1 1 [.string ⟨t.name.toArray⟩] rfl rfl (cell_one_new _ _ _) (by simp [Value.oneCell']) (by unfold maxLen; omega) (by omega) (by rw [World.size_alloc]; omega) (fun v'' w3 k1 k2 k3 k4 => ?_)
     have hb3:=Bz.trans k4
     clear hown hown'
     refine hK.out _ _ (fun _ => jE.out _ hb3) ?_
     clear hK K
     try simp only [zA,zB,zC,Act.put,zD,zE,zF]
     refine zO 6 fun K hK => ?_
     go_simp
     refine hK.out _ _ (fun h => absurd h (by decide)) ?_
     clear hK K
     try simp only [zA,zB,zC,Act.put,zD,zE,zF]
     refine bf (by kernel_rfl) ?_
     have hsx : bD (· ≠ p) w3 v'' (bound ++ [t.name]):=xN k1 (fun q hq => by omega)
     have hlx:=hl2.keep hb3
     have hgx:=hg1.trans (grown_below hb3 _)
     have CU:=hTB.keep hb3 hTB.lt
     have BO : Hid (∀ s ∈ bound ++ [t.name],s.length ≤ maxLen):=by
      intro s hs
      rcases List.mem_append.1 hs with h | h
      ·exact IE.out s h
      ·rw [List.mem_singleton.1 h]; exact HF.out.parts.1
     have hlen : ((bound ++ [t.name]).length : Int) + left ≤ 61:=by simp; omega
     clear hl2 hg1 hTB hb1 hb3 k1 k2 k3 k4 jE bC t0 t1 t2 t3 t4 t5 t6 u0 u1 u2 u3 u4 u5 u6
     have hl2:=hlx; have hg1:=hgx; have vM:=hsx
     clear hlx hgx hsx
     rw [← RU.out] at vM BO hlen
     obtain ⟨Jj,yX⟩ : ∃ x,v'' = x:=⟨_,rfl⟩
     rw [yX] at vM
     rw [yX]
     clear yX
     obtain ⟨t0,t1,t2,t3,t4,t5,t6⟩:=id CU
     go_wp2_with fail
     go_loopw [63] (fun i wr => ∃ (k : Nat) (lk : Int),k ≤ 1 ∧ i = .int .i64 k ∧ 0 ≤ lk ∧ lk ≤ left - 1 ∧ Left wr p lk ∧ w.grownBy wr (some p) ∧ bD (· ≠ p) wr Jj AX ∧ Hid (dR ks AX (left - 1) = dR (ks.drop k) AX lk)) (fun i _ => 1 - (intOf i).toNat)
     case atStart => exact ⟨0,left - 1,by omega,rfl,by omega,by omega,hl2,hg1,vM,rfl⟩
     case round =>
      clear hl2 hg1 vM CU t0 t1 t2 t3 t4 t5 t6
      obtain ⟨k,lk,hk,rfl,hlk0,FN,hl2,hg1,vM,hs⟩:=hrel
      by_cases hlt : k < 1
      ·obtain ⟨c,hc'⟩ : ∃ x,ks[k]? = some x:=⟨_,List.getElem?_eq_getElem (by rw [HL.out]; exact hlt)⟩
       have vY:=zH hc'
       obtain ⟨-,-,b,off,A1,n1,p1,A2,n2,p2,eA,hbp,c0,c1,c2,c3,c4,hl',hk'⟩:=qi (HK.out.keep (D':=(· ≠ p)) (jy hg1) (fun b h _ => h)) hc'
       cases eA
       have vT:=zH hl'; have rP:=zH hk'; clear hl' hk' hc'
       have hcp : parts c ≤ m:=by have h1:=pV (az vY.out); have h2:=HP.out; omega
       have hcf : Fit c:=AU.out c (az vY.out)
       obtain ⟨wa,mQ⟩ : ∃ y,wr.alloc (.cells #[.int .i64 c.kind,.int .i64 c.sort,.string ⟨c.name.toArray⟩,.slice A1 n1 p1,.slice A2 n2 p2] 30) = y:=⟨_,rfl⟩
       have hba : Below wr.heap.size wr wa:=by subst mQ; exact (Below.refl _ _).alloc (Nat.le_refl _) _
       have hla:=hl2.keep hba
       have hga:=hg1.trans (grown_below hba _)
       have hkb : pz wa wr.heap.size c (.slice A1 n1 p1) (.slice A2 n2 p2):=by subst mQ; exact ⟨by simp [go_sem],by simp [go_sem],by simp [go_sem],by simp [go_sem],by simp [go_sem],fun j => by simp [go_sem],by simp⟩
       obtain ⟨k0,k1,k2,k3,k4,k5,k6⟩:=id hkb
       obtain ⟨R,hR⟩ : ∃ x,chk c AX lk = x:=⟨_,rfl⟩
       have HR:=zH hR
       have hstep:=hs.out
       rw [qA vY.out,hR] at hstep
       have hcall:=ih c (.agg #[.int .i64 c.kind,.int .i64 c.sort,.string ⟨c.name.toArray⟩,.slice A1 n1 p1,.slice A2 n2 p2]) Jj AX p lk wa hcp ((vX vT.out rP.out).keep (Same.below hba) (fun b h _ => h)) hcf (vM.keep (Same.below hba) (fun b h _ => h)) BO.out hlk0 (by omega) hla.c hla.f
       unfold bJ at hcall
       rw [hR] at hcall
       have dP:=zH hcall
       clear hR hcall
       by_cases he : R.1 = 0
       ·have hp2 : 0 ≤ R.2 ∧ R.2 ≤ lk:=by
         have h1:=qV c AX lk (by rw [HR.out]; exact he)
         rw [HR.out] at h1
         omega
        rw [if_neg (by simpa using he)] at hstep
        have HST:=zH hstep
        have hE : (R.1 != 0) = false:=by rw [bne_eq_false_iff_eq]; exact he
        clear hstep hs he
        go_wp2_with fail
        try rw [mQ]
        clear mQ
        refine dP.out.mono ?_
        rintro e w2 ⟨rfl,hg2,hc2,hf2⟩
        go_wp2_with fail
        go_roundw
        case rel => exact ⟨k + 1,R.2,by omega,by go_num,hp2.1,by omega,⟨hc2,hf2⟩,hga.trans hg2,(vM.keep (Same.below hba) (fun b h _ => h)).keep (jy hg2) (fun b h _ => h),HST⟩
        case measure => simp [intOf]; omega
       ·rw [if_pos he] at hstep
        have HST:=zH hstep
        have hE : (R.1 != 0) = true:=by rw [bne_iff_ne]; exact he
        clear hstep hs he
        go_wp2_with fail
        try rw [mQ]
        clear mQ
        refine dP.out.mono ?_
        rintro e w2 ⟨rfl,hg2,hc2,hf2⟩
        go_wp2_with fail
        go_ret
        rw [HST.out]
        exact ⟨rfl,hga.trans hg2,hc2,hf2⟩
      ·have hend:=hs.out
       rw [List.drop_of_length_le (by rw [HL.out]; omega)] at hend
       have HE:=zH hend
       clear hend hs
       go_wp2_with fail
       go_ret
       rw [HE.out]
       exact ⟨rfl,hg1,hl2.c,hl2.f⟩
    ·go_simp
     have hbz : Below wr.heap.size wr (wr.alloc (.cells #[.string ⟨t.name.toArray⟩] 9)):=(Below.refl _ _).alloc (Nat.le_refl _) _
     refine hK.out _ _ (fun _ => jE.out _ hbz.drew) ?_
     clear hK K
     try simp only [zA,zB,zC,Act.put,zD,zE,zF]
     refine zO 1 fun K hK => ?_
     go_simp
     refine (yj (HB.out.keep (D':=(· ≠ p)) (w':=(wr.alloc (.cells #[.string ⟨t.name.toArray⟩] 9)).drew) (jy (hg1.trans (grown_below hbz.drew _))) (fun b h _ => h)) (by omega)).mono ?_
     rintro e w1 ⟨v',rfl,hown,hb1⟩
     have hb1' : Below wr.heap.size wr w1:=chain hbz.drew hb1
     have hs1:=hb1'.size
     have hown' : w1.ownsRow wr.heap.size 9 1 v' bound.length (bound.map fun s => .string ⟨s.toArray⟩):=FV hown (by show _ ≤ (wr.alloc _).heap.size; simp)
     have hnew : ∀ j u,([.string ⟨t.name.toArray⟩] : List Value)[j]? = some u → w1.cell? ((⟨wr.heap.size,0,none⟩ : Addr).add j) = some u:=fun j u hj => by
      have h:=cell_one_new wr (.string ⟨t.name.toArray⟩) 9 j u hj
      rw [Go.WideShapes.add_plain] at h ⊢
      exact ae (w:=(wr.alloc (.cells #[.string ⟨t.name.toArray⟩] 9)).drew) h hb1
     refine hK.out _ _ (fun _ => jE.out w1 hb1') ?_
     clear hK K
     try simp only [zA,zB,zC,Act.put,zD,zE,zF]
     refine zO 5 fun K hK => ?_
     refine o5 nO rfl (.tmp 55) (.tmp 58) rfl wr.heap.size v' bound.length (bound.map fun s => .string ⟨s.toArray⟩) rfl hown' ⟨wr.heap.size,0,none⟩ 1 1 [.string ⟨t.name.toArray⟩] rfl rfl hnew (by simp [Value.oneCell']) (by unfold maxLen; omega) (by omega) (by skip; omega) (fun v'' w3 k1 k2 k3 k4 => ?_)
     have hb3:=hb1'.trans k4
     clear hown hown' hbz hnew
     refine hK.out _ _ (fun _ => jE.out _ hb3) ?_
     clear hK K
     try simp only [zA,zB,zC,Act.put,zD,zE,zF]
     refine zO 6 fun K hK => ?_
     go_simp
     refine hK.out _ _ (fun h => absurd h (by decide)) ?_
     clear hK K
     try simp only [zA,zB,zC,Act.put,zD,zE,zF]
     refine bf (by kernel_rfl) ?_
     have hsx : bD (· ≠ p) w3 v'' (bound ++ [t.name]):=xN k1 (fun q hq => by omega)
     have hlx:=hl2.keep hb3
     have hgx:=hg1.trans (grown_below hb3 _)
     have CU:=hTB.keep hb3 hTB.lt
     have BO : Hid (∀ s ∈ bound ++ [t.name],s.length ≤ maxLen):=by
      intro s hs
      rcases List.mem_append.1 hs with h | h
      ·exact IE.out s h
      ·rw [List.mem_singleton.1 h]; exact HF.out.parts.1
     have hlen : ((bound ++ [t.name]).length : Int) + left ≤ 61:=by simp; omega
     clear hl2 hg1 hTB hb1 hb3 k1 k2 k3 k4 jE bC t0 t1 t2 t3 t4 t5 t6 u0 u1 u2 u3 u4 u5 u6
     have hl2:=hlx; have hg1:=hgx; have vM:=hsx
     clear hlx hgx hsx
     rw [← RU.out] at vM BO hlen
     obtain ⟨Jj,yX⟩ : ∃ x,v'' = x:=⟨_,rfl⟩
     rw [yX] at vM
     rw [yX]
     clear yX
     obtain ⟨t0,t1,t2,t3,t4,t5,t6⟩:=id CU
     go_wp2_with fail
     go_loopw [63] (fun i wr => ∃ (k : Nat) (lk : Int),k ≤ 1 ∧ i = .int .i64 k ∧ 0 ≤ lk ∧ lk ≤ left - 1 ∧ Left wr p lk ∧ w.grownBy wr (some p) ∧ bD (· ≠ p) wr Jj AX ∧ Hid (dR ks AX (left - 1) = dR (ks.drop k) AX lk)) (fun i _ => 1 - (intOf i).toNat)
     case atStart => exact ⟨0,left - 1,by omega,rfl,by omega,by omega,hl2,hg1,vM,rfl⟩
     case round =>
      clear hl2 hg1 vM CU t0 t1 t2 t3 t4 t5 t6
      obtain ⟨k,lk,hk,rfl,hlk0,FN,hl2,hg1,vM,hs⟩:=hrel
      by_cases hlt : k < 1
      ·obtain ⟨c,hc'⟩ : ∃ x,ks[k]? = some x:=⟨_,List.getElem?_eq_getElem (by rw [HL.out]; exact hlt)⟩
       have vY:=zH hc'
       obtain ⟨-,-,b,off,A1,n1,p1,A2,n2,p2,eA,hbp,c0,c1,c2,c3,c4,hl',hk'⟩:=qi (HK.out.keep (D':=(· ≠ p)) (jy hg1) (fun b h _ => h)) hc'
       cases eA
       have vT:=zH hl'; have rP:=zH hk'; clear hl' hk' hc'
       have hcp : parts c ≤ m:=by have h1:=pV (az vY.out); have h2:=HP.out; omega
       have hcf : Fit c:=AU.out c (az vY.out)
       obtain ⟨wa,mQ⟩ : ∃ y,wr.alloc (.cells #[.int .i64 c.kind,.int .i64 c.sort,.string ⟨c.name.toArray⟩,.slice A1 n1 p1,.slice A2 n2 p2] 30) = y:=⟨_,rfl⟩
       have hba : Below wr.heap.size wr wa:=by subst mQ; exact (Below.refl _ _).alloc (Nat.le_refl _) _
       have hla:=hl2.keep hba
       have hga:=hg1.trans (grown_below hba _)
       have hkb : pz wa wr.heap.size c (.slice A1 n1 p1) (.slice A2 n2 p2):=by subst mQ; exact ⟨by simp [go_sem],by simp [go_sem],by simp [go_sem],by simp [go_sem],by simp [go_sem],fun j => by simp [go_sem],by simp⟩
       obtain ⟨k0,k1,k2,k3,k4,k5,k6⟩:=id hkb
       obtain ⟨R,hR⟩ : ∃ x,chk c AX lk = x:=⟨_,rfl⟩
       have HR:=zH hR
       have hstep:=hs.out
       rw [qA vY.out,hR] at hstep
       have hcall:=ih c (.agg #[.int .i64 c.kind,.int .i64 c.sort,.string ⟨c.name.toArray⟩,.slice A1 n1 p1,.slice A2 n2 p2]) Jj AX p lk wa hcp ((vX vT.out rP.out).keep (Same.below hba) (fun b h _ => h)) hcf (vM.keep (Same.below hba) (fun b h _ => h)) BO.out hlk0 (by omega) hla.c hla.f
       unfold bJ at hcall
       rw [hR] at hcall
       have dP:=zH hcall
       clear hR hcall
       by_cases he : R.1 = 0
       ·have hp2 : 0 ≤ R.2 ∧ R.2 ≤ lk:=by
         have h1:=qV c AX lk (by rw [HR.out]; exact he)
         rw [HR.out] at h1
         omega
        rw [if_neg (by simpa using he)] at hstep
        have HST:=zH hstep
        have hE : (R.1 != 0) = false:=by rw [bne_eq_false_iff_eq]; exact he
        clear hstep hs he
        go_wp2_with fail
        try rw [mQ]
        clear mQ
        refine dP.out.mono ?_
        rintro e w2 ⟨rfl,hg2,hc2,hf2⟩
        go_wp2_with fail
        go_roundw
        case rel => exact ⟨k + 1,R.2,by omega,by go_num,hp2.1,by omega,⟨hc2,hf2⟩,hga.trans hg2,(vM.keep (Same.below hba) (fun b h _ => h)).keep (jy hg2) (fun b h _ => h),HST⟩
        case measure => simp [intOf]; omega
       ·rw [if_pos he] at hstep
        have HST:=zH hstep
        have hE : (R.1 != 0) = true:=by rw [bne_iff_ne]; exact he
        clear hstep hs he
        go_wp2_with fail
        try rw [mQ]
        clear mQ
        refine dP.out.mono ?_
        rintro e w2 ⟨rfl,hg2,hc2,hf2⟩
        go_wp2_with fail
        go_ret
        rw [HST.out]
        exact ⟨rfl,hga.trans hg2,hc2,hf2⟩
      ·have hend:=hs.out
       rw [List.drop_of_length_le (by rw [HL.out]; omega)] at hend
       have HE:=zH hend
       clear hend hs
       go_wp2_with fail
       go_ret
       rw [HE.out]
       exact ⟨rfl,hg1,hl2.c,hl2.f⟩
theorem chk_z {t : Ty} {b : List Str} {left : Int} (h : left = 0) : chk t b left = (2,left - 1):=by
 obtain ⟨k,s,n,ls,ks⟩:=t
 simp only [chk]; rw [if_pos (by omega)]
theorem chk_s {t : Ty} {b : List Str} {left : Int} (h : 1 ≤ left) (hs : ay t.kind t.sort t.name t.labels t.kids.length = false) : chk t b left = (1,left - 1):=by
 obtain ⟨k,s,n,ls,ks⟩:=t
 simp only [Ty.kind,Ty.sort,Ty.name,Ty.labels,Ty.kids] at hs
 simp only [chk]; rw [if_neg (by omega),if_pos hs]
theorem chk_o {t : Ty} {b : List Str} {left : Int} (h : 1 ≤ left) (hs : ay t.kind t.sort t.name t.labels t.kids.length = true) (h9 : t.kind ≠ 9) (h8 : t.kind ≠ 8) : chk t b left = dR t.kids b (left - 1):=by
 obtain ⟨k,s,n,ls,ks⟩:=t
 simp only [Ty.kind,Ty.sort,Ty.name,Ty.labels,Ty.kids] at hs h9 h8 ⊢
 simp only [chk]; rw [if_neg (by omega),if_neg (by rw [hs]; simp),if_neg h9,if_neg h8]
theorem chk_v4 {t : Ty} {b : List Str} {left : Int} (h : 1 ≤ left) (hs : ay t.kind t.sort t.name t.labels t.kids.length = true) (h9 : t.kind = 9) (hn : ¬ t.name ∈ b) : chk t b left = (4,left - 1):=by
 obtain ⟨k,s,n,ls,ks⟩:=t
 simp only [Ty.kind,Ty.sort,Ty.name,Ty.labels,Ty.kids] at hs h9 hn ⊢
 simp only [chk]; rw [if_neg (by omega),if_neg (by rw [hs]; simp),if_pos h9,if_neg hn]
theorem chk_v0 {t : Ty} {b : List Str} {left : Int} (h : 1 ≤ left) (hs : ay t.kind t.sort t.name t.labels t.kids.length = true) (h9 : t.kind = 9) (hn : t.name ∈ b) : chk t b left = dR t.kids b (left - 1):=by
 obtain ⟨k,s,n,ls,ks⟩:=t
 simp only [Ty.kind,Ty.sort,Ty.name,Ty.labels,Ty.kids] at hs h9 hn ⊢
 simp only [chk]; rw [if_neg (by omega),if_neg (by rw [hs]; simp),if_pos h9,if_pos hn]
theorem chk_r7 {t : Ty} {b : List Str} {left : Int} (h : 1 ≤ left) (hs : ay t.kind t.sort t.name t.labels t.kids.length = true) (h8 : t.kind = 8) (hq : (bottom t).kind = 9) : chk t b left = (7,left - 1):=by
 obtain ⟨k,s,n,ls,ks⟩:=t
 simp only [Ty.kind,Ty.sort,Ty.name,Ty.labels,Ty.kids] at hs h8 ⊢
 simp only [chk]; rw [if_neg (by omega),if_neg (by rw [hs]; simp),if_neg (by omega),if_pos h8,if_pos hq]
theorem chk_r {t : Ty} {b : List Str} {left : Int} (h : 1 ≤ left) (hs : ay t.kind t.sort t.name t.labels t.kids.length = true) (h8 : t.kind = 8) (hq : (bottom t).kind ≠ 9) : chk t b left = dR t.kids (b ++ [t.name]) (left - 1):=by
 obtain ⟨k,s,n,ls,ks⟩:=t
 simp only [Ty.kind,Ty.sort,Ty.name,Ty.labels,Ty.kids] at hs h8 ⊢
 simp only [chk]; rw [if_neg (by omega),if_neg (by rw [hs]; simp),if_neg (by omega),if_pos h8,if_neg hq]
theorem Ig {t : Ty} (hs : ay t.kind t.sort t.name t.labels t.kids.length = true) (h8 : t.kind = 8) : ∃ c,t.kids = [c]:=by
 have h:=qy hs
 have hl : t.kids.length = 1:=by
  have : ∀ {k s : Int} {n : Str} {ls : List Str} {c : Nat},Shape k s n ls c → k = 8 → c = 1:=by
   intro k s n ls c h hk
   cases h <;> omega
  exact this h h8
 match hk : t.kids,hl with
 | [c],_ => exact ⟨c,rfl⟩

theorem check_any : ∀ (m : Nat) (t : Ty) (v bv : Value) (bound : List Str) (p : Nat) (left : Int) (w : World),parts t ≤ m → BC (· ≠ p) w v t → Fit t → bD (· ≠ p) w bv bound → (∀ s ∈ bound,s.length ≤ maxLen) → 0 ≤ left → (bound.length : Int) + left ≤ 60 → w.cell? ⟨p,0,none⟩ = some (.int .i64 left) → w.frozen? ⟨p,0,none⟩ = false → bJ t v bv bound p left w:=by
 intro m
 induction m with
 | zero => intro t v bv bound p left w h; cases t; simp only [parts] at h; omega
 | succ m ih =>
 intro t v bv bound p left w hm hv hf hbv hbl hl0 hl hc hfr
 by_cases hz : left = 0
 ·exact check_z m ih t v bv bound p left w hm hv hf hbv hbl hl0 hl hc hfr (chk_z hz) hz
 have hpos : 1 ≤ left:=by omega
 cases hs : ay t.kind t.sort t.name t.labels t.kids.length with
 | false => exact check_s m ih t v bv bound p left w hm hv hf hbv hbl hl0 hl hc hfr (chk_s hpos hs) hpos hs
 | true =>
 by_cases h9 : t.kind = 9
 ·by_cases hn : t.name ∈ bound
  ·exact check_v0 m ih t v bv bound p left w hm hv hf hbv hbl hl0 hl hc hfr (chk_v0 hpos hs h9 hn) hpos hs (by simp [h9]) (by simp [h9]) (by simp [hn])
  ·exact check_v4 m ih t v bv bound p left w hm hv hf hbv hbl hl0 hl hc hfr (chk_v4 hpos hs h9 hn) hpos hs (by simp [h9]) (by simp [hn])
 ·by_cases h8 : t.kind = 8
  ·obtain ⟨c,hkc⟩:=Ig hs h8
   have hbk:=wJ h8 hkc
   by_cases hq : (bottom t).kind = 9
   ·exact check_r7 m ih t v bv bound p left w hm hv hf hbv hbl hl0 hl hc hfr c hkc (chk_r7 hpos hs h8 hq) hpos hs (by simp [h9]) (by simp [h8]) (by rw [← hbk]; exact hq)
   ·exact check_r m ih t v bv bound p left w hm hv hf hbv hbl hl0 hl hc hfr c hkc _ rfl (chk_r hpos hs h8 hq) hpos hs (by simp [h9]) (by simp [h8]) (by rw [← hbk]; exact hq)
  ·exact check_o m ih t v bv bound p left w hm hv hf hbv hbl hl0 hl hc hfr (chk_o hpos hs h9 h8) hpos hs (by simp [h9]) (by simp [h8])

theorem xZ (t : Ty) (v : Value) (w : World) (hv : ny w v t) (hf : Fit t) :
  Calls Tryz.prog 50 #[v] w fun e w' => e = .returned (.int .i64 (pg t)) ∧ Below w.heap.size w w':=by
 have HZ:=zH hv
 obtain ⟨ANS,hA⟩ : ∃ x,pg t = x:=⟨_,rfl⟩
 have HA:=zH hA; rw [hA]; clear hA
 obtain ⟨lv,kv,rfl,h1,h2⟩:=hv
 obtain ⟨A0,p0,rfl,-,-⟩:=h1
 obtain ⟨A,cap,rfl,-,-⟩:=h2
 go_enter Tryz.func50,Tryz.ntmps50
 go_wp2_with fail
 have hbW : Below w.heap.size w ((w.alloc (.cells #[.int .i64 t.kind,.int .i64 t.sort,.string ⟨t.name.toArray⟩,.slice A0 t.labels.length p0,.slice A t.kids.length cap] 30)).alloc (.cells #[.int .i64 60] 3)):=by go_grown
 have hcall:=check_any (parts t) t (.agg #[.int .i64 t.kind,.int .i64 t.sort,.string ⟨t.name.toArray⟩,.slice A0 t.labels.length p0,.slice A t.kids.length cap]) (.slice none 0 0) [] (w.heap.size + 1) 60 ((w.alloc (.cells #[.int .i64 t.kind,.int .i64 t.sort,.string ⟨t.name.toArray⟩,.slice A0 t.labels.length p0,.slice A t.kids.length cap] 30)).alloc (.cells #[.int .i64 60] 3)) (Nat.le_refl _)
  (HZ.out.toD.keep (Same.below hbW) (fun b h _ => by have h' : b < w.heap.size:=h; omega)) hf ⟨none,0,rfl,Nat.le_refl _,fun h => by simp at h⟩ (by simp) (by omega) (by simp) (by simp [go_sem]) (by simp [go_sem])
 unfold bJ at hcall
 refine hcall.mono ?_
 clear hcall
 rintro e w1 ⟨rfl,hg,-,-⟩
 have hb1:=hbW.grown hg (by simp; omega) (fun k hk => by injection hk; omega)
 go_wp2_with fail
 go_ret
 exact ⟨by rw [← HA.out]; rfl,hb1⟩
structure Ik (w : World) (q : Nat) (f : uN) : Prop where
 c0 : w.cell? ⟨q,0,none⟩ = some (.bool f.chan)
 c1 : w.cell? ⟨q,1,none⟩ = some (.bool f.name)
 c2 : w.cell? ⟨q,2,none⟩ = some (.bool f.label)
 c3 : w.cell? ⟨q,3,none⟩ = some (.bool f.expr)
 c4 : w.cell? ⟨q,4,none⟩ = some (.bool f.exprs)
 c5 : w.cell? ⟨q,5,none⟩ = some (.bool f.names)
 c6 : w.cell? ⟨q,6,none⟩ = some (.bool f.type)
 c7 : w.cell? ⟨q,7,none⟩ = some (.bool f.labels)
 c8 : w.cell? ⟨q,8,none⟩ = some (.int .i64 f.kids)
theorem Ik.keep {w w' : World} {q : Nat} {f : uN} (h : Ik w q f) (hb : Below w.heap.size w w') : Ik w' q f :=
 ⟨ae h.c0 hb,ae h.c1 hb,ae h.c2 hb,ae h.c3 hb,ae h.c4 hb,ae h.c5 hb,ae h.c6 hb,ae h.c7 hb,ae h.c8 hb⟩
theorem nK.kept {w w' : World} {b : Nat} {t : Pr} {v1 v2 v3 v4 v5 v6 v7 : Value} (h : nK w b t v1 v2 v3 v4 v5 v6 v7) (hb : Below w.heap.size w w') : nK w' b t v1 v2 v3 v4 v5 v6 v7:=h.keep hb h.lt
def bH : Code → Code
 | .seq _ c => c
 | c => c
noncomputable def AO : Code:=bH (bH (bH (bH (bH (Tryz.f84.body.getD .skip)))))
def zu : Code → Code
 | .seq c _ => c
 | c => c
def codeOps : Code → Array Oper
 | .region _ ops _ => ops
 | _ => #[]
noncomputable def mM : Array Oper:=codeOps (zu AO)
structure nR (wr : World) (b q : Nat) (p : Pr) (v1 v2 v3 v4 v5 v6 v7 : Value) (f : uN) (wq : World) : Prop where
 bx : nK wq b p v1 v2 v3 v4 v5 v6 v7
 fx : Ik wq q f
 bl : Below wr.heap.size wr wq
theorem nR.next {wr : World} {b q : Nat} {p : Pr} {v1 v2 v3 v4 v5 v6 v7 : Value} {f : uN} {w1 w2 : World} (h : nR wr b q p v1 v2 v3 v4 v5 v6 v7 f w1) (hb : Below w1.heap.size w1 w2) : nR wr b q p v1 v2 v3 v4 v5 v6 v7 f w2:=⟨h.bx.kept hb,h.fx.keep hb,chain h.bl hb⟩
end Go.Proofs.YtpidjanngbaiiaaGreatDoor
