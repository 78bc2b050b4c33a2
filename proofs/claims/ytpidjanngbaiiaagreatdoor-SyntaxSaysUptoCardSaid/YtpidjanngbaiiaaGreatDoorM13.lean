/-
  TyX TyX2 TyM
-/
import Derived.Test.YtpidjanngbaiiaaGreatDoorM4
import Derived.Test.YtpidjanngbaiiaaGreatDoorM7
import Derived.Test.YtpidjanngbaiiaaGreatDoorM3
namespace Go.Proofs.YtpidjanngbaiiaaGreatDoor
open Go.RowKit Go.Proofs
set_option maxRecDepth 100000
set_option maxHeartbeats 32000000

theorem app_list (a b : List UInt8) : (⟨a.toArray⟩ : ByteArray) ++ ⟨b.toArray⟩ = ⟨(a ++ b).toArray⟩:=by
 rw [F5 ((⟨a.toArray⟩ : ByteArray) ++ ⟨b.toArray⟩)]
 simp [ByteArray.data_append]
attribute [go_sem] app_list

theorem wV (s : Int) (h1 : 1 ≤ s) (h3 : s ≤ 3) (w : World) :
  Calls Tryz.prog 45 #[.int .i64 s] w fun e w' => e = .returned (.string ⟨(pX s).toArray⟩) ∧ Below w.heap.size w w':=by
 obtain rfl | rfl | rfl : s = 1 ∨ s = 2 ∨ s = 3:=by omega
 all_goals
  go_enter Tryz.func45,Tryz.ntmps45
  go_wp2_with fail
  go_ret
  exact ⟨rfl,by go_grown⟩

def au (f : FuncId) (t : Ty) (v : Value) (w : World) : Prop:=Calls Tryz.prog f #[v] w fun e w' => e = .returned (.string ⟨(txt t).toArray⟩) ∧ Below w.heap.size w w'


theorem text_2 (m : Nat) (ih : ∀ (t : Ty) (v : Value) (w : World),parts t ≤ m → parts t ≤ 60 → ny w v t → Good t → au 28 t v w)
  (s : Int) (c : Ty) (v : Value) (w : World) (hm : parts c ≤ m) (h60 : parts c ≤ 60) (hv : ny w v (.mk 2 s [] [] [c])) (hg : Good c) (h1 : 1 ≤ s) (h3 : s ≤ 3) : au 28 (.mk 2 s [] [] [c]) v w:=by
 unfold au
 obtain ⟨lv,kv,rfl,hs1,hs2⟩:=hv
 simp only [Ty.kind,Ty.sort,Ty.name,Ty.labels,Ty.kids] at hs1 hs2 ⊢
 obtain ⟨A0,p0,rfl,-,-⟩:=hs1
 have HK:=zH hs2
 obtain ⟨A,cap,rfl,-,-⟩:=hs2
 simp only [List.length_nil,List.length_singleton] at HK ⊢
 obtain ⟨-,-,b,off,A1,n1,p1,A2,n2,p2,rfl,c0,c1,c2,c3,c4,hl',hk'⟩:=nT (i:=0) (t:=c) HK.out rfl
 simp only [Nat.zero_mul,Nat.add_zero] at c0 c1 c2 c3 c4
 have vT:=zH hl'; have rP:=zH hk'; clear hl' hk'
 obtain ⟨ANS,hA⟩ : ∃ x,txt (.mk 2 s [] [] [c]) = x:=⟨_,rfl⟩
 have HA:=zH hA; rw [hA]; clear hA
 have hlc : (txt c).length ≤ 6000:=by have:=lH c hg; omega
 have OI:=rO s
 obtain ⟨T,hT⟩ : ∃ y,txt c = y:=⟨_,rfl⟩
 have HT:=zH hT
 rw [hT] at hlc
 obtain ⟨U,hU⟩ : ∃ y,pX s = y:=⟨_,rfl⟩
 have HU:=zH hU
 rw [hU] at OI
 clear hT hU
 go_enter Tryz.func28,Tryz.ntmps28
 go_wp2_with fail
 obtain ⟨W,hW⟩ : ∃ W,w.alloc (.cells #[.int .i64 2,.int .i64 s,.string ⟨#[]⟩,.slice A0 0 p0,.slice (some ⟨b,off,none⟩) 1 cap] 30) = W:=⟨_,rfl⟩
 have hbW : Below w.heap.size w W:=by subst hW; go_grown
 have x1 : W.cell? ⟨w.heap.size,1,none⟩ = some (.int .i64 s):=by subst hW; simp [go_sem]
 have x4 : W.cell? ⟨w.heap.size,4,none⟩ = some (.slice (some ⟨b,off,none⟩) 1 cap):=by subst hW; simp [go_sem]
 try rw [hW]
 clear hW
 have d0:=ae c0 hbW; have d1:=ae c1 hbW; have d2:=ae c2 hbW; have d3:=ae c3 hbW; have d4:=ae c4 hbW
 have hS : ∀ w' : World,Below W.heap.size W w' → (fun w' : World => w'.cell? ⟨w.heap.size,1,none⟩ = some (.int .i64 s) ∧ w'.cell? ⟨w.heap.size,4,none⟩ = some (.slice (some ⟨b,off,none⟩) 1 cap) ∧ w'.cell? ⟨b,off,none⟩ = some (.int .i64 c.kind) ∧ w'.cell? ⟨b,off + 1,none⟩ = some (.int .i64 c.sort) ∧ w'.cell? ⟨b,off + 2,none⟩ = some (.string ⟨c.name.toArray⟩) ∧ w'.cell? ⟨b,off + 3,none⟩ = some (.slice A1 n1 p1) ∧ w'.cell? ⟨b,off + 4,none⟩ = some (.slice A2 n2 p2)) w':=fun w' h => ⟨ae x1 h,ae x4 h,ae d0 h,ae d1 h,ae d2 h,ae d3 h,ae d4 h⟩
 have bC:=zH (hS W.drew (Below.refl _ _).drew)
 have jE:=zH hS; clear hS
 refine aC 11 (fun w' : World => w'.cell? ⟨w.heap.size,1,none⟩ = some (.int .i64 s) ∧ w'.cell? ⟨w.heap.size,4,none⟩ = some (.slice (some ⟨b,off,none⟩) 1 cap) ∧ w'.cell? ⟨b,off,none⟩ = some (.int .i64 c.kind) ∧ w'.cell? ⟨b,off + 1,none⟩ = some (.int .i64 c.sort) ∧ w'.cell? ⟨b,off + 2,none⟩ = some (.string ⟨c.name.toArray⟩) ∧ w'.cell? ⟨b,off + 3,none⟩ = some (.slice A1 n1 p1) ∧ w'.cell? ⟨b,off + 4,none⟩ = some (.slice A2 n2 p2)) (by kernel_rfl) ?_
 refine zT 0 ?_ rfl (Or.inl ⟨by rfl,?_⟩) bC.out ?_
 rotate_left
 ·(intro wq hSw; obtain ⟨_,_,_,_,_,_,_⟩:=hSw; go_simp; all_goals first | with_reducible rfl | rw [zI])
 simp only [zA,zB,zC,Act.put,zD,zE,zF]
 refine zT 1 ?_ rfl (Or.inl ⟨by rfl,?_⟩) bC.out ?_
 rotate_left
 ·(intro wq hSw; obtain ⟨_,_,_,_,_,_,_⟩:=hSw; go_simp; all_goals first | with_reducible rfl | rw [zI])
 simp only [zA,zB,zC,Act.put,zD,zE,zF]
 refine zT 5 ?_ rfl (Or.inl ⟨by rfl,?_⟩) bC.out ?_
 rotate_left
 ·(intro wq hSw; obtain ⟨_,_,_,_,_,_,_⟩:=hSw; go_simp; all_goals first | with_reducible rfl | rw [zI])
 simp only [zA,zB,zC,Act.put,zD,zE,zF]
 refine zT 6 ?_ rfl (Or.inl ⟨by rfl,?_⟩) bC.out ?_
 rotate_left
 ·(intro wq hSw; obtain ⟨_,_,_,_,_,_,_⟩:=hSw; go_simp; all_goals first | with_reducible rfl | rw [zI])
 simp only [zA,zB,zC,Act.put,zD,zE,zF]
 refine zT 7 ?_ rfl (Or.inl ⟨by rfl,?_⟩) bC.out ?_
 rotate_left
 ·(intro wq hSw; obtain ⟨_,_,_,_,_,_,_⟩:=hSw; go_simp; all_goals first | with_reducible rfl | rw [zI])
 simp only [zA,zB,zC,Act.put,zD,zE,zF]
 refine zT 8 ?_ rfl (Or.inl ⟨by rfl,?_⟩) bC.out ?_
 rotate_left
 ·(intro wq hSw; obtain ⟨_,_,_,_,_,_,_⟩:=hSw; go_simp; all_goals first | with_reducible rfl | rw [zI])
 simp only [zA,zB,zC,Act.put,zD,zE,zF]
 refine zO 2 fun K hK => ?_
 go_simp
 refine (wV s h1 h3 _).mono ?_; rw [HU.out]; rintro e w1 ⟨rfl,hb1⟩
 have hb1' : Below W.heap.size W w1:=chain (Below.refl _ _).drew hb1
 refine hK.out _ _ (fun _ => jE.out _ hb1') ?_
 clear hK K
 try simp only [zA,zB,zC,Act.put,zD,zE,zF]
 refine zT 3 ?_ rfl (Or.inl ⟨by rfl,?_⟩) (jE.out _ hb1') ?_
 rotate_left
 ·(intro wq hSw; obtain ⟨_,_,_,_,_,_,_⟩:=hSw; go_simp; all_goals first | with_reducible rfl | rw [zI])
 simp only [zA,zB,zC,Act.put,zD,zE,zF]
 refine zT 4 ?_ rfl (Or.inl ⟨by rfl,?_⟩) (jE.out _ hb1') ?_
 rotate_left
 ·(intro wq hSw; obtain ⟨_,_,_,_,_,_,_⟩:=hSw; go_simp; all_goals first | with_reducible rfl | rw [zI])
 simp only [zA,zB,zC,Act.put,zD,zE,zF]
 refine zO 9 fun K hK => ?_
 go_simp
 have hcall:=ih c (.agg #[.int .i64 c.kind,.int .i64 c.sort,.string ⟨c.name.toArray⟩,.slice A1 n1 p1,.slice A2 n2 p2]) w1 hm h60 (mJ ((vT.out.keep hbW).keep hb1') ((rP.out.keep hbW).keep hb1')) hg
 unfold au at hcall
 refine hcall.mono ?_; clear hcall; rw [HT.out]; rintro e w2 ⟨rfl,hb2⟩
 have hb2':=chain hb1' hb2
 refine hK.out _ _ (fun _ => jE.out _ hb2') ?_
 clear hK K
 try simp only [zA,zB,zC,Act.put,zD,zE,zF]
 refine zT 10 ?_ rfl (Or.inl ⟨by rfl,?_⟩) (jE.out _ hb2') ?_
 rotate_left
 ·(intro wq hSw; obtain ⟨_,_,_,_,_,_,_⟩:=hSw; go_simp; all_goals first | with_reducible rfl | rw [zI])
 simp only [zA,zB,zC,Act.put,zD,zE,zF]
 refine zO 11 fun K hK => ?_
 go_simp
 refine hK.out _ _ (fun h => absurd h (by decide)) ?_
 clear hK K
 try simp only [zA,zB,zC,Act.put,zD,zE,zF]
 refine bf (by kernel_rfl) ?_
 go_wp2_with fail
 trace_state
 go_ret
 refine ⟨?_,chain hbW hb2'⟩
 rw [← HA.out]
 simp [txt,qJ,sG,HT.out,HU.out]

theorem text_3 (m : Nat) (ih : ∀ (t : Ty) (v : Value) (w : World),parts t ≤ m → parts t ≤ 60 → ny w v t → Good t → au 28 t v w)
  (s : Int) (c : Ty) (v : Value) (w : World) (hm : parts c ≤ m) (h60 : parts c ≤ 60) (hv : ny w v (.mk 3 s [] [] [c])) (hg : Good c) (h1 : 1 ≤ s) (h3 : s ≤ 3) : au 28 (.mk 3 s [] [] [c]) v w:=by
 unfold au
 obtain ⟨lv,kv,rfl,hs1,hs2⟩:=hv
 simp only [Ty.kind,Ty.sort,Ty.name,Ty.labels,Ty.kids] at hs1 hs2 ⊢
 obtain ⟨A0,p0,rfl,-,-⟩:=hs1
 have HK:=zH hs2
 obtain ⟨A,cap,rfl,-,-⟩:=hs2
 simp only [List.length_nil,List.length_singleton] at HK ⊢
 obtain ⟨-,-,b,off,A1,n1,p1,A2,n2,p2,rfl,c0,c1,c2,c3,c4,hl',hk'⟩:=nT (i:=0) (t:=c) HK.out rfl
 simp only [Nat.zero_mul,Nat.add_zero] at c0 c1 c2 c3 c4
 have vT:=zH hl'; have rP:=zH hk'; clear hl' hk'
 obtain ⟨ANS,hA⟩ : ∃ x,txt (.mk 3 s [] [] [c]) = x:=⟨_,rfl⟩
 have HA:=zH hA; rw [hA]; clear hA
 have hlc : (txt c).length ≤ 6000:=by have:=lH c hg; omega
 have OI:=rO s
 obtain ⟨T,hT⟩ : ∃ y,txt c = y:=⟨_,rfl⟩
 have HT:=zH hT
 rw [hT] at hlc
 obtain ⟨U,hU⟩ : ∃ y,pX s = y:=⟨_,rfl⟩
 have HU:=zH hU
 rw [hU] at OI
 clear hT hU
 go_enter Tryz.func28,Tryz.ntmps28
 go_wp2_with fail
 obtain ⟨W,hW⟩ : ∃ W,w.alloc (.cells #[.int .i64 3,.int .i64 s,.string ⟨#[]⟩,.slice A0 0 p0,.slice (some ⟨b,off,none⟩) 1 cap] 30) = W:=⟨_,rfl⟩
 have hbW : Below w.heap.size w W:=by subst hW; go_grown
 have x1 : W.cell? ⟨w.heap.size,1,none⟩ = some (.int .i64 s):=by subst hW; simp [go_sem]
 have x4 : W.cell? ⟨w.heap.size,4,none⟩ = some (.slice (some ⟨b,off,none⟩) 1 cap):=by subst hW; simp [go_sem]
 try rw [hW]
 clear hW
 have d0:=ae c0 hbW; have d1:=ae c1 hbW; have d2:=ae c2 hbW; have d3:=ae c3 hbW; have d4:=ae c4 hbW
 have hS : ∀ w' : World,Below W.heap.size W w' → (fun w' : World => w'.cell? ⟨w.heap.size,1,none⟩ = some (.int .i64 s) ∧ w'.cell? ⟨w.heap.size,4,none⟩ = some (.slice (some ⟨b,off,none⟩) 1 cap) ∧ w'.cell? ⟨b,off,none⟩ = some (.int .i64 c.kind) ∧ w'.cell? ⟨b,off + 1,none⟩ = some (.int .i64 c.sort) ∧ w'.cell? ⟨b,off + 2,none⟩ = some (.string ⟨c.name.toArray⟩) ∧ w'.cell? ⟨b,off + 3,none⟩ = some (.slice A1 n1 p1) ∧ w'.cell? ⟨b,off + 4,none⟩ = some (.slice A2 n2 p2)) w':=fun w' h => ⟨ae x1 h,ae x4 h,ae d0 h,ae d1 h,ae d2 h,ae d3 h,ae d4 h⟩
 have bC:=zH (hS W.drew (Below.refl _ _).drew)
 have jE:=zH hS; clear hS
 refine aC 11 (fun w' : World => w'.cell? ⟨w.heap.size,1,none⟩ = some (.int .i64 s) ∧ w'.cell? ⟨w.heap.size,4,none⟩ = some (.slice (some ⟨b,off,none⟩) 1 cap) ∧ w'.cell? ⟨b,off,none⟩ = some (.int .i64 c.kind) ∧ w'.cell? ⟨b,off + 1,none⟩ = some (.int .i64 c.sort) ∧ w'.cell? ⟨b,off + 2,none⟩ = some (.string ⟨c.name.toArray⟩) ∧ w'.cell? ⟨b,off + 3,none⟩ = some (.slice A1 n1 p1) ∧ w'.cell? ⟨b,off + 4,none⟩ = some (.slice A2 n2 p2)) (by kernel_rfl) ?_
 refine zT 0 ?_ rfl (Or.inl ⟨by rfl,?_⟩) bC.out ?_
 rotate_left
 ·(intro wq hSw; obtain ⟨_,_,_,_,_,_,_⟩:=hSw; go_simp; all_goals first | with_reducible rfl | rw [zI])
 simp only [zA,zB,zC,Act.put,zD,zE,zF]
 refine zT 1 ?_ rfl (Or.inl ⟨by rfl,?_⟩) bC.out ?_
 rotate_left
 ·(intro wq hSw; obtain ⟨_,_,_,_,_,_,_⟩:=hSw; go_simp; all_goals first | with_reducible rfl | rw [zI])
 simp only [zA,zB,zC,Act.put,zD,zE,zF]
 refine zT 5 ?_ rfl (Or.inl ⟨by rfl,?_⟩) bC.out ?_
 rotate_left
 ·(intro wq hSw; obtain ⟨_,_,_,_,_,_,_⟩:=hSw; go_simp; all_goals first | with_reducible rfl | rw [zI])
 simp only [zA,zB,zC,Act.put,zD,zE,zF]
 refine zT 6 ?_ rfl (Or.inl ⟨by rfl,?_⟩) bC.out ?_
 rotate_left
 ·(intro wq hSw; obtain ⟨_,_,_,_,_,_,_⟩:=hSw; go_simp; all_goals first | with_reducible rfl | rw [zI])
 simp only [zA,zB,zC,Act.put,zD,zE,zF]
 refine zT 7 ?_ rfl (Or.inl ⟨by rfl,?_⟩) bC.out ?_
 rotate_left
 ·(intro wq hSw; obtain ⟨_,_,_,_,_,_,_⟩:=hSw; go_simp; all_goals first | with_reducible rfl | rw [zI])
 simp only [zA,zB,zC,Act.put,zD,zE,zF]
 refine zT 8 ?_ rfl (Or.inl ⟨by rfl,?_⟩) bC.out ?_
 rotate_left
 ·(intro wq hSw; obtain ⟨_,_,_,_,_,_,_⟩:=hSw; go_simp; all_goals first | with_reducible rfl | rw [zI])
 simp only [zA,zB,zC,Act.put,zD,zE,zF]
 refine zO 2 fun K hK => ?_
 go_simp
 refine (wV s h1 h3 _).mono ?_; rw [HU.out]; rintro e w1 ⟨rfl,hb1⟩
 have hb1' : Below W.heap.size W w1:=chain (Below.refl _ _).drew hb1
 refine hK.out _ _ (fun _ => jE.out _ hb1') ?_
 clear hK K
 try simp only [zA,zB,zC,Act.put,zD,zE,zF]
 refine zT 3 ?_ rfl (Or.inl ⟨by rfl,?_⟩) (jE.out _ hb1') ?_
 rotate_left
 ·(intro wq hSw; obtain ⟨_,_,_,_,_,_,_⟩:=hSw; go_simp; all_goals first | with_reducible rfl | rw [zI])
 simp only [zA,zB,zC,Act.put,zD,zE,zF]
 refine zT 4 ?_ rfl (Or.inl ⟨by rfl,?_⟩) (jE.out _ hb1') ?_
 rotate_left
 ·(intro wq hSw; obtain ⟨_,_,_,_,_,_,_⟩:=hSw; go_simp; all_goals first | with_reducible rfl | rw [zI])
 simp only [zA,zB,zC,Act.put,zD,zE,zF]
 refine zO 9 fun K hK => ?_
 go_simp
 have hcall:=ih c (.agg #[.int .i64 c.kind,.int .i64 c.sort,.string ⟨c.name.toArray⟩,.slice A1 n1 p1,.slice A2 n2 p2]) w1 hm h60 (mJ ((vT.out.keep hbW).keep hb1') ((rP.out.keep hbW).keep hb1')) hg
 unfold au at hcall
 refine hcall.mono ?_; clear hcall; rw [HT.out]; rintro e w2 ⟨rfl,hb2⟩
 have hb2':=chain hb1' hb2
 refine hK.out _ _ (fun _ => jE.out _ hb2') ?_
 clear hK K
 try simp only [zA,zB,zC,Act.put,zD,zE,zF]
 refine zT 10 ?_ rfl (Or.inl ⟨by rfl,?_⟩) (jE.out _ hb2') ?_
 rotate_left
 ·(intro wq hSw; obtain ⟨_,_,_,_,_,_,_⟩:=hSw; go_simp; all_goals first | with_reducible rfl | rw [zI])
 simp only [zA,zB,zC,Act.put,zD,zE,zF]
 refine zO 11 fun K hK => ?_
 go_simp
 refine hK.out _ _ (fun h => absurd h (by decide)) ?_
 clear hK K
 try simp only [zA,zB,zC,Act.put,zD,zE,zF]
 refine bf (by kernel_rfl) ?_
 go_wp2_with fail
 trace_state
 go_ret
 refine ⟨?_,chain hbW hb2'⟩
 rw [← HA.out]
 simp [txt,qJ,sG,HT.out,HU.out]

theorem text_8 (m : Nat) (ih : ∀ (t : Ty) (v : Value) (w : World),parts t ≤ m → parts t ≤ 60 → ny w v t → Good t → au 28 t v w)
  (n : Str) (c : Ty) (v : Value) (w : World) (hmc : parts c ≤ m) (h60c : parts c ≤ 60) (hgc : Good c) (hv : ny w v (.mk 8 0 n [] [c])) (hn : n.length ≤ 8) : au 28 (.mk 8 0 n [] [c]) v w:=by
 unfold au
 obtain ⟨lv,kv,rfl,hs1,hs2⟩:=hv
 simp only [Ty.kind,Ty.sort,Ty.name,Ty.labels,Ty.kids] at hs1 hs2 ⊢
 obtain ⟨A0,p0,rfl,-,-⟩:=hs1
 have HK:=zH hs2
 obtain ⟨A,cap,rfl,-,-⟩:=hs2
 simp only [List.length_nil,List.length_cons] at HK ⊢
 obtain ⟨-,-,b,off,cA,cn,cp,cB,cm,cq,rfl,c0,c1,c2,c3,c4,hl',hk'⟩:=nT (i:=0) (t:=c) HK.out rfl
 simp only [Nat.zero_mul,Nat.one_mul,Nat.add_zero] at c0 c1 c2 c3 c4
 have Gx:=zH hl'; have Gw:=zH hk'; clear hl' hk'
 have hlc : (txt c).length ≤ 6000:=by have:=lH c hgc; omega
 obtain ⟨Tc,hTc⟩ : ∃ y,txt c = y:=⟨_,rfl⟩
 have HTc:=zH hTc
 rw [hTc] at hlc
 clear hTc
 obtain ⟨ANS,hA⟩ : ∃ x,txt (.mk 8 0 n [] [c]) = x:=⟨_,rfl⟩
 have HA:=zH hA; rw [hA]; clear hA
 go_enter Tryz.func28,Tryz.ntmps28
 go_wp2_with fail
 obtain ⟨W,hW⟩ : ∃ W,w.alloc (.cells #[.int .i64 8,.int .i64 0,.string ⟨n.toArray⟩,.slice A0 0 p0,.slice (some ⟨b,off,none⟩) 1 cap] 30) = W:=⟨_,rfl⟩
 have hbW : Below w.heap.size w W:=by subst hW; go_grown
 have x2 : W.cell? ⟨w.heap.size,2,none⟩ = some (.string ⟨n.toArray⟩):=by subst hW; simp [go_sem]
 have x4 : W.cell? ⟨w.heap.size,4,none⟩ = some (.slice (some ⟨b,off,none⟩) 1 cap):=by subst hW; simp [go_sem]
 try rw [hW]
 clear hW
 have GM:=ae c0 hbW; have GN:=ae c1 hbW; have GR:=ae c2 hbW; have GU:=ae c3 hbW; have GV:=ae c4 hbW
 have hS : ∀ w' : World,Below W.heap.size W w' → (fun w' : World => w'.cell? ⟨w.heap.size,2,none⟩ = some (.string ⟨n.toArray⟩) ∧ w'.cell? ⟨w.heap.size,4,none⟩ = some (.slice (some ⟨b,off,none⟩) 1 cap) ∧ w'.cell? ⟨b,off,none⟩ = some (.int .i64 c.kind) ∧ w'.cell? ⟨b,off + 1,none⟩ = some (.int .i64 c.sort) ∧ w'.cell? ⟨b,off + 2,none⟩ = some (.string ⟨c.name.toArray⟩) ∧ w'.cell? ⟨b,off + 3,none⟩ = some (.slice cA cn cp) ∧ w'.cell? ⟨b,off + 4,none⟩ = some (.slice cB cm cq)) w':=fun w' h => ⟨ae x2 h,ae x4 h,ae GM h,ae GN h,ae GR h,ae GU h,ae GV h⟩
 have bC:=zH (hS W.drew (Below.refl _ _).drew)
 have jE:=zH hS; clear hS
 refine aC 10 (fun w' : World => w'.cell? ⟨w.heap.size,2,none⟩ = some (.string ⟨n.toArray⟩) ∧ w'.cell? ⟨w.heap.size,4,none⟩ = some (.slice (some ⟨b,off,none⟩) 1 cap) ∧ w'.cell? ⟨b,off,none⟩ = some (.int .i64 c.kind) ∧ w'.cell? ⟨b,off + 1,none⟩ = some (.int .i64 c.sort) ∧ w'.cell? ⟨b,off + 2,none⟩ = some (.string ⟨c.name.toArray⟩) ∧ w'.cell? ⟨b,off + 3,none⟩ = some (.slice cA cn cp) ∧ w'.cell? ⟨b,off + 4,none⟩ = some (.slice cB cm cq)) (by kernel_rfl) ?_
 refine zT 0 ?_ rfl (Or.inl ⟨by rfl,?_⟩) bC.out ?_
 rotate_left
 ·(intro wq hSw; obtain ⟨_,_,_,_,_,_,_⟩:=hSw; go_simp; all_goals first | with_reducible rfl | rw [zI])
 simp only [zA,zB,zC,Act.put,zD,zE,zF]
 refine zT 1 ?_ rfl (Or.inl ⟨by rfl,?_⟩) bC.out ?_
 rotate_left
 ·(intro wq hSw; obtain ⟨_,_,_,_,_,_,_⟩:=hSw; go_simp; all_goals first | with_reducible rfl | rw [zI])
 simp only [zA,zB,zC,Act.put,zD,zE,zF]
 refine zT 2 ?_ rfl (Or.inl ⟨by rfl,?_⟩) bC.out ?_
 rotate_left
 ·(intro wq hSw; obtain ⟨_,_,_,_,_,_,_⟩:=hSw; go_simp; all_goals first | with_reducible rfl | rw [zI])
 simp only [zA,zB,zC,Act.put,zD,zE,zF]
 refine zT 3 ?_ rfl (Or.inl ⟨by rfl,?_⟩) bC.out ?_
 rotate_left
 ·(intro wq hSw; obtain ⟨_,_,_,_,_,_,_⟩:=hSw; go_simp; all_goals first | with_reducible rfl | rw [zI])
 simp only [zA,zB,zC,Act.put,zD,zE,zF]
 refine zT 4 ?_ rfl (Or.inl ⟨by rfl,?_⟩) bC.out ?_
 rotate_left
 ·(intro wq hSw; obtain ⟨_,_,_,_,_,_,_⟩:=hSw; go_simp; all_goals first | with_reducible rfl | rw [zI])
 simp only [zA,zB,zC,Act.put,zD,zE,zF]
 refine zT 5 ?_ rfl (Or.inl ⟨by rfl,?_⟩) bC.out ?_
 rotate_left
 ·(intro wq hSw; obtain ⟨_,_,_,_,_,_,_⟩:=hSw; go_simp; all_goals first | with_reducible rfl | rw [zI])
 simp only [zA,zB,zC,Act.put,zD,zE,zF]
 refine zT 6 ?_ rfl (Or.inl ⟨by rfl,?_⟩) bC.out ?_
 rotate_left
 ·(intro wq hSw; obtain ⟨_,_,_,_,_,_,_⟩:=hSw; go_simp; all_goals first | with_reducible rfl | rw [zI])
 simp only [zA,zB,zC,Act.put,zD,zE,zF]
 refine zT 7 ?_ rfl (Or.inl ⟨by rfl,?_⟩) bC.out ?_
 rotate_left
 ·(intro wq hSw; obtain ⟨_,_,_,_,_,_,_⟩:=hSw; go_simp; all_goals first | with_reducible rfl | rw [zI])
 simp only [zA,zB,zC,Act.put,zD,zE,zF]
 refine zO 8 fun K hK => ?_
 go_simp
 have hcall:=ih c (.agg #[.int .i64 c.kind,.int .i64 c.sort,.string ⟨c.name.toArray⟩,.slice cA cn cp,.slice cB cm cq]) W.drew hmc h60c (mJ ((Gx.out.keep hbW).keep (Below.refl W.heap.size W).drew) ((Gw.out.keep hbW).keep (Below.refl W.heap.size W).drew)) hgc
 unfold au at hcall
 refine hcall.mono ?_; clear hcall; rw [HTc.out]; rintro e w1 ⟨rfl,hq⟩
 have hb1:=chain (Below.refl W.heap.size W).drew hq
 clear hq
 refine hK.out _ _ (fun _ => jE.out _ hb1) ?_
 clear hK K
 try simp only [zA,zB,zC,Act.put,zD,zE,zF]
 refine zT 9 ?_ rfl (Or.inl ⟨by rfl,?_⟩) (jE.out _ hb1) ?_
 rotate_left
 ·(intro wq hSw; obtain ⟨_,_,_,_,_,_,_⟩:=hSw; go_simp; all_goals first | with_reducible rfl | rw [zI])
 simp only [zA,zB,zC,Act.put,zD,zE,zF]
 refine zO 10 fun K hK => ?_
 go_simp
 refine hK.out _ _ (fun h => absurd h (by decide)) ?_
 clear hK K
 try simp only [zA,zB,zC,Act.put,zD,zE,zF]
 refine bf (by kernel_rfl) ?_
 go_wp2_with fail
 go_ret
 refine ⟨?_,chain hbW hb1⟩
 rw [← HA.out]
 simp [txt,qJ,sG,HTc.out]

theorem text_4 (m : Nat) (ih : ∀ (t : Ty) (v : Value) (w : World),parts t ≤ m → parts t ≤ 60 → ny w v t → Good t → au 28 t v w)
  (c d : Ty) (v : Value) (w : World) (hmc : parts c ≤ m) (h60c : parts c ≤ 60) (hgc : Good c) (hmd : parts d ≤ m) (h60d : parts d ≤ 60) (hgd : Good d) (hv : ny w v (.mk 4 0 [] [] [c,d]))  : au 28 (.mk 4 0 [] [] [c,d]) v w:=by
 unfold au
 obtain ⟨lv,kv,rfl,hs1,hs2⟩:=hv
 simp only [Ty.kind,Ty.sort,Ty.name,Ty.labels,Ty.kids] at hs1 hs2 ⊢
 obtain ⟨A0,p0,rfl,-,-⟩:=hs1
 have HK:=zH hs2
 obtain ⟨A,cap,rfl,-,-⟩:=hs2
 simp only [List.length_nil,List.length_cons] at HK ⊢
 obtain ⟨-,-,b,off,cA,cn,cp,cB,cm,cq,rfl,c0,c1,c2,c3,c4,hl',hk'⟩:=nT (i:=0) (t:=c) HK.out rfl
 simp only [Nat.zero_mul,Nat.one_mul,Nat.add_zero] at c0 c1 c2 c3 c4
 have Gx:=zH hl'; have Gw:=zH hk'; clear hl' hk'
 have hlc : (txt c).length ≤ 6000:=by have:=lH c hgc; omega
 obtain ⟨Tc,hTc⟩ : ∃ y,txt c = y:=⟨_,rfl⟩
 have HTc:=zH hTc
 rw [hTc] at hlc
 clear hTc
 obtain ⟨-,-,b2,JF,dA,dn,dp,dB,dm,dq,eA,d0,d1,d2,d3,d4,hl',hk'⟩:=nT (i:=1) (t:=d) HK.out rfl
 cases eA
 simp only [Nat.zero_mul,Nat.one_mul,Nat.add_zero] at d0 d1 d2 d3 d4
 have NS:=zH hl'; have NR:=zH hk'; clear hl' hk'
 have hld : (txt d).length ≤ 6000:=by have:=lH d hgd; omega
 obtain ⟨Td,hTd⟩ : ∃ y,txt d = y:=⟨_,rfl⟩
 have Jc:=zH hTd
 rw [hTd] at hld
 clear hTd
 obtain ⟨ANS,hA⟩ : ∃ x,txt (.mk 4 0 [] [] [c,d]) = x:=⟨_,rfl⟩
 have HA:=zH hA; rw [hA]; clear hA
 go_enter Tryz.func28,Tryz.ntmps28
 go_wp2_with fail
 obtain ⟨W,hW⟩ : ∃ W,w.alloc (.cells #[.int .i64 4,.int .i64 0,.string ⟨#[]⟩,.slice A0 0 p0,.slice (some ⟨b,off,none⟩) 2 cap] 30) = W:=⟨_,rfl⟩
 have hbW : Below w.heap.size w W:=by subst hW; go_grown
 have x4 : W.cell? ⟨w.heap.size,4,none⟩ = some (.slice (some ⟨b,off,none⟩) 2 cap):=by subst hW; simp [go_sem]
 try rw [hW]
 clear hW
 have GM:=ae c0 hbW; have GN:=ae c1 hbW; have GR:=ae c2 hbW; have GU:=ae c3 hbW; have GV:=ae c4 hbW
 have Oh:=ae d0 hbW; have Oi:=ae d1 hbW; have Oj:=ae d2 hbW; have Ol:=ae d3 hbW; have Om:=ae d4 hbW
 have hS : ∀ w' : World,Below W.heap.size W w' → (fun w' : World => w'.cell? ⟨w.heap.size,4,none⟩ = some (.slice (some ⟨b,off,none⟩) 2 cap) ∧ w'.cell? ⟨b,off,none⟩ = some (.int .i64 c.kind) ∧ w'.cell? ⟨b,off + 1,none⟩ = some (.int .i64 c.sort) ∧ w'.cell? ⟨b,off + 2,none⟩ = some (.string ⟨c.name.toArray⟩) ∧ w'.cell? ⟨b,off + 3,none⟩ = some (.slice cA cn cp) ∧ w'.cell? ⟨b,off + 4,none⟩ = some (.slice cB cm cq) ∧ w'.cell? ⟨b,off + 5,none⟩ = some (.int .i64 d.kind) ∧ w'.cell? ⟨b,off + 5 + 1,none⟩ = some (.int .i64 d.sort) ∧ w'.cell? ⟨b,off + 5 + 2,none⟩ = some (.string ⟨d.name.toArray⟩) ∧ w'.cell? ⟨b,off + 5 + 3,none⟩ = some (.slice dA dn dp) ∧ w'.cell? ⟨b,off + 5 + 4,none⟩ = some (.slice dB dm dq)) w':=fun w' h => ⟨ae x4 h,ae GM h,ae GN h,ae GR h,ae GU h,ae GV h,ae Oh h,ae Oi h,ae Oj h,ae Ol h,ae Om h⟩
 have bC:=zH (hS W.drew (Below.refl _ _).drew)
 have jE:=zH hS; clear hS
 refine aC 15 (fun w' : World => w'.cell? ⟨w.heap.size,4,none⟩ = some (.slice (some ⟨b,off,none⟩) 2 cap) ∧ w'.cell? ⟨b,off,none⟩ = some (.int .i64 c.kind) ∧ w'.cell? ⟨b,off + 1,none⟩ = some (.int .i64 c.sort) ∧ w'.cell? ⟨b,off + 2,none⟩ = some (.string ⟨c.name.toArray⟩) ∧ w'.cell? ⟨b,off + 3,none⟩ = some (.slice cA cn cp) ∧ w'.cell? ⟨b,off + 4,none⟩ = some (.slice cB cm cq) ∧ w'.cell? ⟨b,off + 5,none⟩ = some (.int .i64 d.kind) ∧ w'.cell? ⟨b,off + 5 + 1,none⟩ = some (.int .i64 d.sort) ∧ w'.cell? ⟨b,off + 5 + 2,none⟩ = some (.string ⟨d.name.toArray⟩) ∧ w'.cell? ⟨b,off + 5 + 3,none⟩ = some (.slice dA dn dp) ∧ w'.cell? ⟨b,off + 5 + 4,none⟩ = some (.slice dB dm dq)) (by kernel_rfl) ?_
 refine zT 0 ?_ rfl (Or.inl ⟨by rfl,?_⟩) bC.out ?_
 rotate_left
 ·(intro wq hSw; obtain ⟨_,_,_,_,_,_,_,_,_,_,_⟩:=hSw; go_simp; all_goals first | with_reducible rfl | rw [zI])
 simp only [zA,zB,zC,Act.put,zD,zE,zF]
 refine zT 1 ?_ rfl (Or.inl ⟨by rfl,?_⟩) bC.out ?_
 rotate_left
 ·(intro wq hSw; obtain ⟨_,_,_,_,_,_,_,_,_,_,_⟩:=hSw; go_simp; all_goals first | with_reducible rfl | rw [zI])
 simp only [zA,zB,zC,Act.put,zD,zE,zF]
 refine zT 2 ?_ rfl (Or.inl ⟨by rfl,?_⟩) bC.out ?_
 rotate_left
 ·(intro wq hSw; obtain ⟨_,_,_,_,_,_,_,_,_,_,_⟩:=hSw; go_simp; all_goals first | with_reducible rfl | rw [zI])
 simp only [zA,zB,zC,Act.put,zD,zE,zF]
 refine zT 3 ?_ rfl (Or.inl ⟨by rfl,?_⟩) bC.out ?_
 rotate_left
 ·(intro wq hSw; obtain ⟨_,_,_,_,_,_,_,_,_,_,_⟩:=hSw; go_simp; all_goals first | with_reducible rfl | rw [zI])
 simp only [zA,zB,zC,Act.put,zD,zE,zF]
 refine zT 4 ?_ rfl (Or.inl ⟨by rfl,?_⟩) bC.out ?_
 rotate_left
 ·(intro wq hSw; obtain ⟨_,_,_,_,_,_,_,_,_,_,_⟩:=hSw; go_simp; all_goals first | with_reducible rfl | rw [zI])
 simp only [zA,zB,zC,Act.put,zD,zE,zF]
 refine zT 5 ?_ rfl (Or.inl ⟨by rfl,?_⟩) bC.out ?_
 rotate_left
 ·(intro wq hSw; obtain ⟨_,_,_,_,_,_,_,_,_,_,_⟩:=hSw; go_simp; all_goals first | with_reducible rfl | rw [zI])
 simp only [zA,zB,zC,Act.put,zD,zE,zF]
 refine zT 9 ?_ rfl (Or.inl ⟨by rfl,?_⟩) bC.out ?_
 rotate_left
 ·(intro wq hSw; obtain ⟨_,_,_,_,_,_,_,_,_,_,_⟩:=hSw; go_simp; all_goals first | with_reducible rfl | rw [zI])
 simp only [zA,zB,zC,Act.put,zD,zE,zF]
 refine zT 10 ?_ rfl (Or.inl ⟨by rfl,?_⟩) bC.out ?_
 rotate_left
 ·(intro wq hSw; obtain ⟨_,_,_,_,_,_,_,_,_,_,_⟩:=hSw; go_simp; all_goals first | with_reducible rfl | rw [zI])
 simp only [zA,zB,zC,Act.put,zD,zE,zF]
 refine zT 11 ?_ rfl (Or.inl ⟨by rfl,?_⟩) bC.out ?_
 rotate_left
 ·(intro wq hSw; obtain ⟨_,_,_,_,_,_,_,_,_,_,_⟩:=hSw; go_simp; all_goals first | with_reducible rfl | rw [zI])
 simp only [zA,zB,zC,Act.put,zD,zE,zF]
 refine zT 12 ?_ rfl (Or.inl ⟨by rfl,?_⟩) bC.out ?_
 rotate_left
 ·(intro wq hSw; obtain ⟨_,_,_,_,_,_,_,_,_,_,_⟩:=hSw; go_simp; all_goals first | with_reducible rfl | rw [zI])
 simp only [zA,zB,zC,Act.put,zD,zE,zF]
 refine zO 6 fun K hK => ?_
 go_simp
 have hcall:=ih c (.agg #[.int .i64 c.kind,.int .i64 c.sort,.string ⟨c.name.toArray⟩,.slice cA cn cp,.slice cB cm cq]) W.drew hmc h60c (mJ ((Gx.out.keep hbW).keep (Below.refl W.heap.size W).drew) ((Gw.out.keep hbW).keep (Below.refl W.heap.size W).drew)) hgc
 unfold au at hcall
 refine hcall.mono ?_; clear hcall; rw [HTc.out]; rintro e w1 ⟨rfl,hq⟩
 have hb1:=chain (Below.refl W.heap.size W).drew hq
 clear hq
 refine hK.out _ _ (fun _ => jE.out _ hb1) ?_
 clear hK K
 try simp only [zA,zB,zC,Act.put,zD,zE,zF]
 refine zT 7 ?_ rfl (Or.inl ⟨by rfl,?_⟩) (jE.out _ hb1) ?_
 rotate_left
 ·(intro wq hSw; obtain ⟨_,_,_,_,_,_,_,_,_,_,_⟩:=hSw; go_simp; all_goals first | with_reducible rfl | rw [zI])
 simp only [zA,zB,zC,Act.put,zD,zE,zF]
 refine zT 8 ?_ rfl (Or.inl ⟨by rfl,?_⟩) (jE.out _ hb1) ?_
 rotate_left
 ·(intro wq hSw; obtain ⟨_,_,_,_,_,_,_,_,_,_,_⟩:=hSw; go_simp; all_goals first | with_reducible rfl | rw [zI])
 simp only [zA,zB,zC,Act.put,zD,zE,zF]
 refine zO 13 fun K hK => ?_
 go_simp
 have hcall:=ih d (.agg #[.int .i64 d.kind,.int .i64 d.sort,.string ⟨d.name.toArray⟩,.slice dA dn dp,.slice dB dm dq]) w1 hmd h60d (mJ ((NS.out.keep hbW).keep hb1) ((NR.out.keep hbW).keep hb1)) hgd
 unfold au at hcall
 refine hcall.mono ?_; clear hcall; rw [Jc.out]; rintro e w2 ⟨rfl,hq⟩
 have hb2:=chain hb1 hq
 clear hq
 refine hK.out _ _ (fun _ => jE.out _ hb2) ?_
 clear hK K
 try simp only [zA,zB,zC,Act.put,zD,zE,zF]
 refine zT 14 ?_ rfl (Or.inl ⟨by rfl,?_⟩) (jE.out _ hb2) ?_
 rotate_left
 ·(intro wq hSw; obtain ⟨_,_,_,_,_,_,_,_,_,_,_⟩:=hSw; go_simp; all_goals first | with_reducible rfl | rw [zI])
 simp only [zA,zB,zC,Act.put,zD,zE,zF]
 refine zO 15 fun K hK => ?_
 go_simp
 refine hK.out _ _ (fun h => absurd h (by decide)) ?_
 clear hK K
 try simp only [zA,zB,zC,Act.put,zD,zE,zF]
 refine bf (by kernel_rfl) ?_
 go_wp2_with fail
 go_ret
 refine ⟨?_,chain hbW hb2⟩
 rw [← HA.out]
 simp [txt,qJ,sG,HTc.out,Jc.out]

theorem text_5 (m : Nat) (ih : ∀ (t : Ty) (v : Value) (w : World),parts t ≤ m → parts t ≤ 60 → ny w v t → Good t → au 28 t v w)
  (c d : Ty) (v : Value) (w : World) (hmc : parts c ≤ m) (h60c : parts c ≤ 60) (hgc : Good c) (hmd : parts d ≤ m) (h60d : parts d ≤ 60) (hgd : Good d) (hv : ny w v (.mk 5 0 [] [] [c,d]))  : au 28 (.mk 5 0 [] [] [c,d]) v w:=by
 unfold au
 obtain ⟨lv,kv,rfl,hs1,hs2⟩:=hv
 simp only [Ty.kind,Ty.sort,Ty.name,Ty.labels,Ty.kids] at hs1 hs2 ⊢
 obtain ⟨A0,p0,rfl,-,-⟩:=hs1
 have HK:=zH hs2
 obtain ⟨A,cap,rfl,-,-⟩:=hs2
 simp only [List.length_nil,List.length_cons] at HK ⊢
 obtain ⟨-,-,b,off,cA,cn,cp,cB,cm,cq,rfl,c0,c1,c2,c3,c4,hl',hk'⟩:=nT (i:=0) (t:=c) HK.out rfl
 simp only [Nat.zero_mul,Nat.one_mul,Nat.add_zero] at c0 c1 c2 c3 c4
 have Gx:=zH hl'; have Gw:=zH hk'; clear hl' hk'
 have hlc : (txt c).length ≤ 6000:=by have:=lH c hgc; omega
 obtain ⟨Tc,hTc⟩ : ∃ y,txt c = y:=⟨_,rfl⟩
 have HTc:=zH hTc
 rw [hTc] at hlc
 clear hTc
 obtain ⟨-,-,b2,JF,dA,dn,dp,dB,dm,dq,eA,d0,d1,d2,d3,d4,hl',hk'⟩:=nT (i:=1) (t:=d) HK.out rfl
 cases eA
 simp only [Nat.zero_mul,Nat.one_mul,Nat.add_zero] at d0 d1 d2 d3 d4
 have NS:=zH hl'; have NR:=zH hk'; clear hl' hk'
 have hld : (txt d).length ≤ 6000:=by have:=lH d hgd; omega
 obtain ⟨Td,hTd⟩ : ∃ y,txt d = y:=⟨_,rfl⟩
 have Jc:=zH hTd
 rw [hTd] at hld
 clear hTd
 obtain ⟨ANS,hA⟩ : ∃ x,txt (.mk 5 0 [] [] [c,d]) = x:=⟨_,rfl⟩
 have HA:=zH hA; rw [hA]; clear hA
 go_enter Tryz.func28,Tryz.ntmps28
 go_wp2_with fail
 obtain ⟨W,hW⟩ : ∃ W,w.alloc (.cells #[.int .i64 5,.int .i64 0,.string ⟨#[]⟩,.slice A0 0 p0,.slice (some ⟨b,off,none⟩) 2 cap] 30) = W:=⟨_,rfl⟩
 have hbW : Below w.heap.size w W:=by subst hW; go_grown
 have x4 : W.cell? ⟨w.heap.size,4,none⟩ = some (.slice (some ⟨b,off,none⟩) 2 cap):=by subst hW; simp [go_sem]
 try rw [hW]
 clear hW
 have GM:=ae c0 hbW; have GN:=ae c1 hbW; have GR:=ae c2 hbW; have GU:=ae c3 hbW; have GV:=ae c4 hbW
 have Oh:=ae d0 hbW; have Oi:=ae d1 hbW; have Oj:=ae d2 hbW; have Ol:=ae d3 hbW; have Om:=ae d4 hbW
 have hS : ∀ w' : World,Below W.heap.size W w' → (fun w' : World => w'.cell? ⟨w.heap.size,4,none⟩ = some (.slice (some ⟨b,off,none⟩) 2 cap) ∧ w'.cell? ⟨b,off,none⟩ = some (.int .i64 c.kind) ∧ w'.cell? ⟨b,off + 1,none⟩ = some (.int .i64 c.sort) ∧ w'.cell? ⟨b,off + 2,none⟩ = some (.string ⟨c.name.toArray⟩) ∧ w'.cell? ⟨b,off + 3,none⟩ = some (.slice cA cn cp) ∧ w'.cell? ⟨b,off + 4,none⟩ = some (.slice cB cm cq) ∧ w'.cell? ⟨b,off + 5,none⟩ = some (.int .i64 d.kind) ∧ w'.cell? ⟨b,off + 5 + 1,none⟩ = some (.int .i64 d.sort) ∧ w'.cell? ⟨b,off + 5 + 2,none⟩ = some (.string ⟨d.name.toArray⟩) ∧ w'.cell? ⟨b,off + 5 + 3,none⟩ = some (.slice dA dn dp) ∧ w'.cell? ⟨b,off + 5 + 4,none⟩ = some (.slice dB dm dq)) w':=fun w' h => ⟨ae x4 h,ae GM h,ae GN h,ae GR h,ae GU h,ae GV h,ae Oh h,ae Oi h,ae Oj h,ae Ol h,ae Om h⟩
 have bC:=zH (hS W.drew (Below.refl _ _).drew)
 have jE:=zH hS; clear hS
 refine aC 15 (fun w' : World => w'.cell? ⟨w.heap.size,4,none⟩ = some (.slice (some ⟨b,off,none⟩) 2 cap) ∧ w'.cell? ⟨b,off,none⟩ = some (.int .i64 c.kind) ∧ w'.cell? ⟨b,off + 1,none⟩ = some (.int .i64 c.sort) ∧ w'.cell? ⟨b,off + 2,none⟩ = some (.string ⟨c.name.toArray⟩) ∧ w'.cell? ⟨b,off + 3,none⟩ = some (.slice cA cn cp) ∧ w'.cell? ⟨b,off + 4,none⟩ = some (.slice cB cm cq) ∧ w'.cell? ⟨b,off + 5,none⟩ = some (.int .i64 d.kind) ∧ w'.cell? ⟨b,off + 5 + 1,none⟩ = some (.int .i64 d.sort) ∧ w'.cell? ⟨b,off + 5 + 2,none⟩ = some (.string ⟨d.name.toArray⟩) ∧ w'.cell? ⟨b,off + 5 + 3,none⟩ = some (.slice dA dn dp) ∧ w'.cell? ⟨b,off + 5 + 4,none⟩ = some (.slice dB dm dq)) (by kernel_rfl) ?_
 refine zT 0 ?_ rfl (Or.inl ⟨by rfl,?_⟩) bC.out ?_
 rotate_left
 ·(intro wq hSw; obtain ⟨_,_,_,_,_,_,_,_,_,_,_⟩:=hSw; go_simp; all_goals first | with_reducible rfl | rw [zI])
 simp only [zA,zB,zC,Act.put,zD,zE,zF]
 refine zT 1 ?_ rfl (Or.inl ⟨by rfl,?_⟩) bC.out ?_
 rotate_left
 ·(intro wq hSw; obtain ⟨_,_,_,_,_,_,_,_,_,_,_⟩:=hSw; go_simp; all_goals first | with_reducible rfl | rw [zI])
 simp only [zA,zB,zC,Act.put,zD,zE,zF]
 refine zT 2 ?_ rfl (Or.inl ⟨by rfl,?_⟩) bC.out ?_
 rotate_left
 ·(intro wq hSw; obtain ⟨_,_,_,_,_,_,_,_,_,_,_⟩:=hSw; go_simp; all_goals first | with_reducible rfl | rw [zI])
 simp only [zA,zB,zC,Act.put,zD,zE,zF]
 refine zT 3 ?_ rfl (Or.inl ⟨by rfl,?_⟩) bC.out ?_
 rotate_left
 ·(intro wq hSw; obtain ⟨_,_,_,_,_,_,_,_,_,_,_⟩:=hSw; go_simp; all_goals first | with_reducible rfl | rw [zI])
 simp only [zA,zB,zC,Act.put,zD,zE,zF]
 refine zT 4 ?_ rfl (Or.inl ⟨by rfl,?_⟩) bC.out ?_
 rotate_left
 ·(intro wq hSw; obtain ⟨_,_,_,_,_,_,_,_,_,_,_⟩:=hSw; go_simp; all_goals first | with_reducible rfl | rw [zI])
 simp only [zA,zB,zC,Act.put,zD,zE,zF]
 refine zT 5 ?_ rfl (Or.inl ⟨by rfl,?_⟩) bC.out ?_
 rotate_left
 ·(intro wq hSw; obtain ⟨_,_,_,_,_,_,_,_,_,_,_⟩:=hSw; go_simp; all_goals first | with_reducible rfl | rw [zI])
 simp only [zA,zB,zC,Act.put,zD,zE,zF]
 refine zT 9 ?_ rfl (Or.inl ⟨by rfl,?_⟩) bC.out ?_
 rotate_left
 ·(intro wq hSw; obtain ⟨_,_,_,_,_,_,_,_,_,_,_⟩:=hSw; go_simp; all_goals first | with_reducible rfl | rw [zI])
 simp only [zA,zB,zC,Act.put,zD,zE,zF]
 refine zT 10 ?_ rfl (Or.inl ⟨by rfl,?_⟩) bC.out ?_
 rotate_left
 ·(intro wq hSw; obtain ⟨_,_,_,_,_,_,_,_,_,_,_⟩:=hSw; go_simp; all_goals first | with_reducible rfl | rw [zI])
 simp only [zA,zB,zC,Act.put,zD,zE,zF]
 refine zT 11 ?_ rfl (Or.inl ⟨by rfl,?_⟩) bC.out ?_
 rotate_left
 ·(intro wq hSw; obtain ⟨_,_,_,_,_,_,_,_,_,_,_⟩:=hSw; go_simp; all_goals first | with_reducible rfl | rw [zI])
 simp only [zA,zB,zC,Act.put,zD,zE,zF]
 refine zT 12 ?_ rfl (Or.inl ⟨by rfl,?_⟩) bC.out ?_
 rotate_left
 ·(intro wq hSw; obtain ⟨_,_,_,_,_,_,_,_,_,_,_⟩:=hSw; go_simp; all_goals first | with_reducible rfl | rw [zI])
 simp only [zA,zB,zC,Act.put,zD,zE,zF]
 refine zO 6 fun K hK => ?_
 go_simp
 have hcall:=ih c (.agg #[.int .i64 c.kind,.int .i64 c.sort,.string ⟨c.name.toArray⟩,.slice cA cn cp,.slice cB cm cq]) W.drew hmc h60c (mJ ((Gx.out.keep hbW).keep (Below.refl W.heap.size W).drew) ((Gw.out.keep hbW).keep (Below.refl W.heap.size W).drew)) hgc
 unfold au at hcall
 refine hcall.mono ?_; clear hcall; rw [HTc.out]; rintro e w1 ⟨rfl,hq⟩
 have hb1:=chain (Below.refl W.heap.size W).drew hq
 clear hq
 refine hK.out _ _ (fun _ => jE.out _ hb1) ?_
 clear hK K
 try simp only [zA,zB,zC,Act.put,zD,zE,zF]
 refine zT 7 ?_ rfl (Or.inl ⟨by rfl,?_⟩) (jE.out _ hb1) ?_
 rotate_left
 ·(intro wq hSw; obtain ⟨_,_,_,_,_,_,_,_,_,_,_⟩:=hSw; go_simp; all_goals first | with_reducible rfl | rw [zI])
 simp only [zA,zB,zC,Act.put,zD,zE,zF]
 refine zT 8 ?_ rfl (Or.inl ⟨by rfl,?_⟩) (jE.out _ hb1) ?_
 rotate_left
 ·(intro wq hSw; obtain ⟨_,_,_,_,_,_,_,_,_,_,_⟩:=hSw; go_simp; all_goals first | with_reducible rfl | rw [zI])
 simp only [zA,zB,zC,Act.put,zD,zE,zF]
 refine zO 13 fun K hK => ?_
 go_simp
 have hcall:=ih d (.agg #[.int .i64 d.kind,.int .i64 d.sort,.string ⟨d.name.toArray⟩,.slice dA dn dp,.slice dB dm dq]) w1 hmd h60d (mJ ((NS.out.keep hbW).keep hb1) ((NR.out.keep hbW).keep hb1)) hgd
 unfold au at hcall
 refine hcall.mono ?_; clear hcall; rw [Jc.out]; rintro e w2 ⟨rfl,hq⟩
 have hb2:=chain hb1 hq
 clear hq
 refine hK.out _ _ (fun _ => jE.out _ hb2) ?_
 clear hK K
 try simp only [zA,zB,zC,Act.put,zD,zE,zF]
 refine zT 14 ?_ rfl (Or.inl ⟨by rfl,?_⟩) (jE.out _ hb2) ?_
 rotate_left
 ·(intro wq hSw; obtain ⟨_,_,_,_,_,_,_,_,_,_,_⟩:=hSw; go_simp; all_goals first | with_reducible rfl | rw [zI])
 simp only [zA,zB,zC,Act.put,zD,zE,zF]
 refine zO 15 fun K hK => ?_
 go_simp
 refine hK.out _ _ (fun h => absurd h (by decide)) ?_
 clear hK K
 try simp only [zA,zB,zC,Act.put,zD,zE,zF]
 refine bf (by kernel_rfl) ?_
 go_wp2_with fail
 go_ret
 refine ⟨?_,chain hbW hb2⟩
 rw [← HA.out]
 simp [txt,qJ,sG,HTc.out,Jc.out]

theorem text_1 (m : Nat) (ih : ∀ (t : Ty) (v : Value) (w : World),parts t ≤ m → parts t ≤ 60 → ny w v t → Good t → au 28 t v w)
     (v : Value) (w : World)  (hv : ny w v (.mk 1 0 [] [] []))  : au 28 (.mk 1 0 [] [] []) v w:=by
  unfold au
  obtain ⟨lv,kv,rfl,hs1,hs2⟩:=hv
  simp only [Ty.kind,Ty.sort,Ty.name,Ty.labels,Ty.kids] at hs1 hs2 ⊢
  obtain ⟨A0,p0,rfl,-,-⟩:=hs1
  have HK:=zH hs2
  obtain ⟨A,cap,rfl,-,-⟩:=hs2
  simp only [List.length_nil,List.length_cons] at HK ⊢
  obtain ⟨ANS,hA⟩ : ∃ x,txt (.mk 1 0 [] [] []) = x:=⟨_,rfl⟩
  have HA:=zH hA; rw [hA]; clear hA
  go_enter Tryz.func28,Tryz.ntmps28
  go_wp2_with fail
  go_ret
  refine ⟨?_,by go_grown⟩
  rw [← HA.out]
  simp [txt,qJ]

theorem text_9 (m : Nat) (ih : ∀ (t : Ty) (v : Value) (w : World),parts t ≤ m → parts t ≤ 60 → ny w v t → Good t → au 28 t v w)
  (n : Str) (v : Value) (w : World)  (hv : ny w v (.mk 9 0 n [] []))  : au 28 (.mk 9 0 n [] []) v w:=by
 unfold au
 obtain ⟨lv,kv,rfl,hs1,hs2⟩:=hv
 simp only [Ty.kind,Ty.sort,Ty.name,Ty.labels,Ty.kids] at hs1 hs2 ⊢
 obtain ⟨A0,p0,rfl,-,-⟩:=hs1
 have HK:=zH hs2
 obtain ⟨A,cap,rfl,-,-⟩:=hs2
 simp only [List.length_nil,List.length_cons] at HK ⊢
 obtain ⟨ANS,hA⟩ : ∃ x,txt (.mk 9 0 n [] []) = x:=⟨_,rfl⟩
 have HA:=zH hA; rw [hA]; clear hA
 go_enter Tryz.func28,Tryz.ntmps28
 go_wp2_with fail
 go_ret
 refine ⟨?_,by go_grown⟩
 rw [← HA.out]
 simp [txt,qJ]
def grow (sg : UInt8) (P : List Str) (k : Nat) : Str:=if k = 0 then [sg] else [sg,123] ++ joined (P.take k)
theorem grow_step {sg : UInt8} {P : List Str} {k : Nat} {x : Str} (h : P[k]? = some x) : grow sg P (k + 1) = grow sg P k ++ (if k = 0 then [123] else [44]) ++ x:=by
 have hk : k < P.length:=(List.getElem?_eq_some_iff.1 h).1
 unfold grow
 rw [if_neg (by omega),List.take_add_one,h]
 by_cases h0 : k = 0
 ·subst h0; simp [joined]
 ·rw [if_neg h0,if_neg h0]
  have hne : P.take k ≠ []:=by
   intro e
   rcases List.take_eq_nil_iff.1 e with e | e
   ·exact h0 e
   ·rw [e] at hk; simp at hk
  show [sg,123] ++ joined (P.take k ++ [x]) = _
  rw [A8 _ _ hne]
  simp
theorem zy {sg : UInt8} {P : List Str} (hP : ∀ x ∈ P,x.length ≤ 6009) : ∀ {k : Nat},k ≤ P.length → (grow sg P k).length ≤ 2 + 6010 * k:=by
 intro k
 induction k with
 | zero => intro _; simp [grow]
 | succ k ih =>
  intro hk
  have h : P[k]? = some P[k]:=List.getElem?_eq_getElem (by omega)
  rw [grow_step h]
  have h1:=ih (by omega)
  have h2:=hP P[k] (List.getElem_mem (by omega))
  have h3 : (if k = 0 then ([123] : Str) else [44]).length = 1:=by split <;> rfl
  simp only [List.length_append,h3]
  omega
theorem xO : ∀ {ls ts : List Str} {k : Nat} {l t : Str},ls[k]? = some l → ts[k]? = some t → (pairs ls ts)[k]? = some (l ++ [58] ++ t)
 | [],_,_,_,_,h,_ => by simp at h
 | _ :: _,[],_,_,_,_,h => by simp at h
 | a :: ls,b :: ts,0,l,t,h,h' => by simp at h h'; subst h h'; rfl
 | a :: ls,b :: ts,k + 1,l,t,h,h' => by simp only [List.getElem?_cons_succ] at h h'; simp only [pairs,List.getElem?_cons_succ]; exact xO h h'
theorem rJ : ∀ {ls ts : List Str},ls.length = ts.length → (pairs ls ts).length = ls.length
 | [],_,_ => rfl
 | a :: ls,[],h => by simp at h
 | a :: ls,b :: ts,h => by simp only [pairs,List.length_cons]; rw [rJ (by simpa using h)]
theorem xP : ∀ {ls ts : List Str},(∀ l ∈ ls,l.length ≤ 8) → (∀ t ∈ ts,t.length ≤ 6000) → ∀ x ∈ pairs ls ts,x.length ≤ 6009
 | [],_,_,_ => by simp [pairs]
 | _ :: _,[],_,_ => by simp [pairs]
 | a :: ls,b :: ts,h,h' => by
  intro x hx
  simp only [pairs] at hx
  rcases List.mem_cons.1 hx with rfl | hx
  ·have h1:=h a (by simp)
   have h2:=h' b (by simp)
   simp only [zG,zJ,zK]; omega
  ·exact xP (fun l hl => h l (by simp [hl])) (fun t ht => h' t (by simp [ht])) x hx
theorem xW : ∀ {ks : List Ty} {x : Str},x ∈ sG ks → ∃ c ∈ ks,txt c = x
 | [],x,h => by simp [sG] at h
 | k :: r,x,h => by
  simp only [sG] at h
  rcases List.mem_cons.1 h with rfl | h
  ·exact ⟨k,by simp,rfl⟩
  ·obtain ⟨c,hc,e⟩:=xW h
   exact ⟨c,by simp [hc],e⟩

theorem text_6 (m : Nat) (ih : ∀ (t : Ty) (v : Value) (w : World),parts t ≤ m → parts t ≤ 60 → ny w v t → Good t → au 28 t v w)
  (ls : List Str) (ks : List Ty) (v : Value) (w : World) (hks : ∀ c ∈ ks,parts c ≤ m ∧ parts c ≤ 60 ∧ Good c) (hl6 : ls.length ≤ 6) (hl1 : 1 ≤ ls.length) (hls : ∀ l ∈ ls,l.length ≤ 8) (hlen : ks.length = ls.length) (hv : ny w v (.mk 6 0 [] ls ks)) : au 28 (.mk 6 0 [] ls ks) v w:=by
 unfold au
 obtain ⟨lv,kv,rfl,hs1,hs2⟩:=hv
 simp only [Ty.kind,Ty.sort,Ty.name,Ty.labels,Ty.kids] at hs1 hs2 ⊢
 have Gl:=zH hs1
 obtain ⟨A0,p0,rfl,-,-⟩:=hs1
 have HK:=zH hs2
 obtain ⟨A,cap,rfl,-,-⟩:=hs2
 obtain ⟨P,hP⟩ : ∃ x,pairs ls (sG ks) = x:=⟨_,rfl⟩
 have hPl : P.length = ls.length:=by rw [← hP,rJ (by rw [uJ,hlen])]
 have Iw : ∀ x ∈ P,x.length ≤ 6009:=by
  rw [← hP]
  refine xP hls fun t ht => ?_
  obtain ⟨c,hc,rfl⟩:=xW ht
  have h1:=lH c (hks c hc).2.2
  have h2:=(hks c hc).2.1
  omega
 have hans : txt (.mk 6 0 [] ls ks) = grow 43 P ls.length ++ [125]:=by
  unfold grow
  rw [if_neg (by omega),List.take_of_length_le (by omega),← hP]
  simp [txt,qJ]
 rw [hans]
 clear hans
 have PQ:=zH Iw; have NZ:=zH hP; have zZ:=zH hks; have Gj:=zH hls
 obtain ⟨L,hL⟩ : ∃ x,ls.length = x:=⟨_,rfl⟩
 have Bl:=zH hL; have HL2:=zH (hlen.trans hL); have Hq:=zH (hPl.trans hL)
 rw [hlen] at HK ⊢
 rw [hL] at HK Gl hl6 hl1 ⊢
 clear hL hlen hPl Iw hP hks hls
 go_enter Tryz.func28,Tryz.ntmps28
 go_wp2_with fail
 go_loopw [3,4] (fun s i wr => ∃ k : Nat,k ≤ L ∧ i = .int .i64 k ∧ s = .string ⟨(grow 43 P k).toArray⟩ ∧ wr.cell? ⟨w.heap.size,3,none⟩ = some (.slice A0 L p0) ∧ wr.cell? ⟨w.heap.size,4,none⟩ = some (.slice A L cap) ∧ Below w.heap.size w wr) (fun _ i _ => L - (intOf i).toNat)
 case atStart => exact ⟨0,by omega,rfl,rfl,by simp [go_sem],by simp [go_sem],by go_grown⟩
 case round =>
  obtain ⟨k,hk,rfl,rfl,x3,x4,hb⟩:=hrel
  have hgl : (grow 43 P k).length ≤ 40000:=by have:=zy (sg:=43) PQ.out (k:=k) (by rw [Hq.out]; exact hk); omega
  by_cases hlt : k < L
  ·obtain ⟨c,hc⟩ : ∃ x,ks[k]? = some x:=⟨_,List.getElem?_eq_getElem (by rw [HL2.out]; exact hlt)⟩
   obtain ⟨l,hl⟩ : ∃ x,ls[k]? = some x:=⟨_,List.getElem?_eq_getElem (by rw [Bl.out]; exact hlt)⟩
   have HC:=zH hc; have Io:=zH hl
   obtain ⟨-,-,b,off,A1,n1,p1,A2,n2,p2,rfl,c0,c1,c2,c3,c4,hl',hk'⟩:=nT (HK.out.keep hb) hc
   obtain ⟨lA,lp,el,hlc,hlr⟩:=Gl.out.keep hb
   obtain ⟨lb,vH,rfl,wB⟩:=hlr (by rw [Bl.out]; omega)
   injection el with el1 el2 el3
   subst el1 el3
   clear el2
   have GK:=wB k l hl
   have vT:=zH hl'; have rP:=zH hk'; clear hl' hk' hc hl
   have hcm:=zZ.out c (az HC.out)
   have hll:=Gj.out l (az Io.out)
   have htl : (txt c).length ≤ 6000:=by have h1:=lH c hcm.2.2; have h2:=hcm.2.1; omega
   have hnext:=grow_step (sg:=43) (P:=P) (k:=k) (by rw [← NZ.out]; exact xO Io.out (zW HC.out))
   obtain ⟨T,hT⟩ : ∃ y,txt c = y:=⟨_,rfl⟩
   have HT:=zH hT
   rw [hT] at htl hnext
   have mV:=zH hnext
   clear hT hnext
   have hS : ∀ w' : World,Below wr.heap.size wr w' → (fun w' : World => w'.cell? ⟨w.heap.size,3,none⟩ = some (.slice (some ⟨lb,vH,none⟩) L p0) ∧ w'.cell? ⟨w.heap.size,4,none⟩ = some (.slice (some ⟨b,off,none⟩) L cap) ∧ w'.cell? ⟨lb,vH + k,none⟩ = some (.string ⟨l.toArray⟩) ∧ w'.cell? ⟨b,off + k * 5,none⟩ = some (.int .i64 c.kind) ∧ w'.cell? ⟨b,off + k * 5 + 1,none⟩ = some (.int .i64 c.sort) ∧ w'.cell? ⟨b,off + k * 5 + 2,none⟩ = some (.string ⟨c.name.toArray⟩) ∧ w'.cell? ⟨b,off + k * 5 + 3,none⟩ = some (.slice A1 n1 p1) ∧ w'.cell? ⟨b,off + k * 5 + 4,none⟩ = some (.slice A2 n2 p2)) w':=fun w' h => ⟨ae x3 h,ae x4 h,ae GK h,ae c0 h,ae c1 h,ae c2 h,ae c3 h,ae c4 h⟩
   have bC:=zH (hS wr.drew (Below.refl _ _).drew)
   have jE:=zH hS; clear hS
   obtain ⟨G,hG⟩ : ∃ x,grow 43 P k = x:=⟨_,rfl⟩
   rw [hG] at hgl
   have HG:=zH hG
   rw [hG]
   clear hG
   by_cases h0 : k = 0
   ·have hk0 : ((k : Int) == 0) = true:=by simp [h0]
    have LX:=zH h0
    clear h0
    go_wp2_with fail
    refine aC 15 (fun w' : World => w'.cell? ⟨w.heap.size,3,none⟩ = some (.slice (some ⟨lb,vH,none⟩) L p0) ∧ w'.cell? ⟨w.heap.size,4,none⟩ = some (.slice (some ⟨b,off,none⟩) L cap) ∧ w'.cell? ⟨lb,vH + k,none⟩ = some (.string ⟨l.toArray⟩) ∧ w'.cell? ⟨b,off + k * 5,none⟩ = some (.int .i64 c.kind) ∧ w'.cell? ⟨b,off + k * 5 + 1,none⟩ = some (.int .i64 c.sort) ∧ w'.cell? ⟨b,off + k * 5 + 2,none⟩ = some (.string ⟨c.name.toArray⟩) ∧ w'.cell? ⟨b,off + k * 5 + 3,none⟩ = some (.slice A1 n1 p1) ∧ w'.cell? ⟨b,off + k * 5 + 4,none⟩ = some (.slice A2 n2 p2)) (by kernel_rfl) ?_
    refine zT 0 ?_ rfl (Or.inl ⟨by rfl,?_⟩) bC.out ?_
    rotate_left
    ·(intro wq hSw; obtain ⟨_,_,_,_,_,_,_,_⟩:=hSw; go_simp; all_goals first | with_reducible rfl | rw [zI])
    simp only [zA,zB,zC,Act.put,zD,zE,zF]
    refine zT 1 ?_ rfl (Or.inl ⟨by rfl,?_⟩) bC.out ?_
    rotate_left
    ·(intro wq hSw; obtain ⟨_,_,_,_,_,_,_,_⟩:=hSw; go_simp; all_goals first | with_reducible rfl | rw [zI])
    simp only [zA,zB,zC,Act.put,zD,zE,zF]
    refine zT 2 ?_ rfl (Or.inl ⟨by rfl,?_⟩) bC.out ?_
    rotate_left
    ·(intro wq hSw; obtain ⟨_,_,_,_,_,_,_,_⟩:=hSw; go_simp; all_goals first | with_reducible rfl | rw [zI])
    simp only [zA,zB,zC,Act.put,zD,zE,zF]
    refine zT 3 ?_ rfl (Or.inl ⟨by rfl,?_⟩) bC.out ?_
    rotate_left
    ·(intro wq hSw; obtain ⟨_,_,_,_,_,_,_,_⟩:=hSw; go_simp; all_goals first | with_reducible rfl | rw [zI])
    simp only [zA,zB,zC,Act.put,zD,zE,zF]
    refine zT 4 ?_ rfl (Or.inl ⟨by rfl,?_⟩) bC.out ?_
    rotate_left
    ·(intro wq hSw; obtain ⟨_,_,_,_,_,_,_,_⟩:=hSw; go_simp; all_goals first | with_reducible rfl | rw [zI])
    simp only [zA,zB,zC,Act.put,zD,zE,zF]
    refine zT 5 ?_ rfl (Or.inl ⟨by rfl,?_⟩) bC.out ?_
    rotate_left
    ·(intro wq hSw; obtain ⟨_,_,_,_,_,_,_,_⟩:=hSw; go_simp; all_goals first | with_reducible rfl | rw [zI])
    simp only [zA,zB,zC,Act.put,zD,zE,zF]
    refine zT 6 ?_ rfl (Or.inl ⟨by rfl,?_⟩) bC.out ?_
    rotate_left
    ·(intro wq hSw; obtain ⟨_,_,_,_,_,_,_,_⟩:=hSw; go_simp; all_goals first | with_reducible rfl | rw [zI])
    simp only [zA,zB,zC,Act.put,zD,zE,zF]
    refine zT 7 ?_ rfl (Or.inl ⟨by rfl,?_⟩) bC.out ?_
    rotate_left
    ·(intro wq hSw; obtain ⟨_,_,_,_,_,_,_,_⟩:=hSw; go_simp; all_goals first | with_reducible rfl | rw [zI])
    simp only [zA,zB,zC,Act.put,zD,zE,zF]
    refine zT 8 ?_ rfl (Or.inl ⟨by rfl,?_⟩) bC.out ?_
    rotate_left
    ·(intro wq hSw; obtain ⟨_,_,_,_,_,_,_,_⟩:=hSw; go_simp; all_goals first | with_reducible rfl | rw [zI])
    simp only [zA,zB,zC,Act.put,zD,zE,zF]
    refine zT 9 ?_ rfl (Or.inl ⟨by rfl,?_⟩) bC.out ?_
    rotate_left
    ·(intro wq hSw; obtain ⟨_,_,_,_,_,_,_,_⟩:=hSw; go_simp; all_goals first | with_reducible rfl | rw [zI])
    simp only [zA,zB,zC,Act.put,zD,zE,zF]
    refine zT 10 ?_ rfl (Or.inl ⟨by rfl,?_⟩) bC.out ?_
    rotate_left
    ·(intro wq hSw; obtain ⟨_,_,_,_,_,_,_,_⟩:=hSw; go_simp; all_goals first | with_reducible rfl | rw [zI])
    simp only [zA,zB,zC,Act.put,zD,zE,zF]
    refine zT 11 ?_ rfl (Or.inl ⟨by rfl,?_⟩) bC.out ?_
    rotate_left
    ·(intro wq hSw; obtain ⟨_,_,_,_,_,_,_,_⟩:=hSw; go_simp; all_goals first | with_reducible rfl | rw [zI])
    simp only [zA,zB,zC,Act.put,zD,zE,zF]
    refine zO 12 fun K hK => ?_
    go_simp
    have hcall:=ih c (.agg #[.int .i64 c.kind,.int .i64 c.sort,.string ⟨c.name.toArray⟩,.slice A1 n1 p1,.slice A2 n2 p2]) wr.drew hcm.1 hcm.2.1 ((mJ vT.out rP.out).keep (Below.refl wr.heap.size wr).drew) hcm.2.2
    unfold au at hcall
    refine hcall.mono ?_; clear hcall; rw [HT.out]; rintro e w1 ⟨rfl,hq⟩
    have hb1 : Below wr.heap.size wr w1:=chain (Below.refl wr.heap.size wr).drew hq
    clear hq
    refine hK.out _ _ (fun _ => jE.out _ hb1) ?_
    clear hK K
    try simp only [zA,zB,zC,Act.put,zD,zE,zF]
    refine zT 13 ?_ rfl (Or.inl ⟨by rfl,?_⟩) (jE.out _ hb1) ?_
    rotate_left
    ·(intro wq hSw; obtain ⟨_,_,_,_,_,_,_,_⟩:=hSw; go_simp; all_goals first | with_reducible rfl | rw [zI])
    simp only [zA,zB,zC,Act.put,zD,zE,zF]
    refine zT 14 ?_ rfl (Or.inl ⟨by rfl,?_⟩) (jE.out _ hb1) ?_
    rotate_left
    ·(intro wq hSw; obtain ⟨_,_,_,_,_,_,_,_⟩:=hSw; go_simp; all_goals first | with_reducible rfl | rw [zI])
    simp only [zA,zB,zC,Act.put,zD,zE,zF]
    refine zO 15 fun K hK => ?_
    go_simp
    refine hK.out _ _ (fun h => absurd h (by decide)) ?_
    clear hK K
    try simp only [zA,zB,zC,Act.put,zD,zE,zF]
    refine bf (by kernel_rfl) ?_
    go_wp2_with fail
    go_roundw
    case rel =>
     refine ⟨k + 1,by omega,by go_num,?_,ae x3 hb1,ae x4 hb1,chain hb hb1⟩
     rw [mV.out,HG.out]
     simp [LX.out]
    case measure => simp [intOf]; omega
   ·have hk0 : ((k : Int) == 0) = false:=by simp; omega
    have LX:=zH h0
    clear h0
    go_wp2_with fail
    refine aC 15 (fun w' : World => w'.cell? ⟨w.heap.size,3,none⟩ = some (.slice (some ⟨lb,vH,none⟩) L p0) ∧ w'.cell? ⟨w.heap.size,4,none⟩ = some (.slice (some ⟨b,off,none⟩) L cap) ∧ w'.cell? ⟨lb,vH + k,none⟩ = some (.string ⟨l.toArray⟩) ∧ w'.cell? ⟨b,off + k * 5,none⟩ = some (.int .i64 c.kind) ∧ w'.cell? ⟨b,off + k * 5 + 1,none⟩ = some (.int .i64 c.sort) ∧ w'.cell? ⟨b,off + k * 5 + 2,none⟩ = some (.string ⟨c.name.toArray⟩) ∧ w'.cell? ⟨b,off + k * 5 + 3,none⟩ = some (.slice A1 n1 p1) ∧ w'.cell? ⟨b,off + k * 5 + 4,none⟩ = some (.slice A2 n2 p2)) (by kernel_rfl) ?_
    refine zT 0 ?_ rfl (Or.inl ⟨by rfl,?_⟩) bC.out ?_
    rotate_left
    ·(intro wq hSw; obtain ⟨_,_,_,_,_,_,_,_⟩:=hSw; go_simp; all_goals first | with_reducible rfl | rw [zI])
    simp only [zA,zB,zC,Act.put,zD,zE,zF]
    refine zT 1 ?_ rfl (Or.inl ⟨by rfl,?_⟩) bC.out ?_
    rotate_left
    ·(intro wq hSw; obtain ⟨_,_,_,_,_,_,_,_⟩:=hSw; go_simp; all_goals first | with_reducible rfl | rw [zI])
    simp only [zA,zB,zC,Act.put,zD,zE,zF]
    refine zT 2 ?_ rfl (Or.inl ⟨by rfl,?_⟩) bC.out ?_
    rotate_left
    ·(intro wq hSw; obtain ⟨_,_,_,_,_,_,_,_⟩:=hSw; go_simp; all_goals first | with_reducible rfl | rw [zI])
    simp only [zA,zB,zC,Act.put,zD,zE,zF]
    refine zT 3 ?_ rfl (Or.inl ⟨by rfl,?_⟩) bC.out ?_
    rotate_left
    ·(intro wq hSw; obtain ⟨_,_,_,_,_,_,_,_⟩:=hSw; go_simp; all_goals first | with_reducible rfl | rw [zI])
    simp only [zA,zB,zC,Act.put,zD,zE,zF]
    refine zT 4 ?_ rfl (Or.inl ⟨by rfl,?_⟩) bC.out ?_
    rotate_left
    ·(intro wq hSw; obtain ⟨_,_,_,_,_,_,_,_⟩:=hSw; go_simp; all_goals first | with_reducible rfl | rw [zI])
    simp only [zA,zB,zC,Act.put,zD,zE,zF]
    refine zT 5 ?_ rfl (Or.inl ⟨by rfl,?_⟩) bC.out ?_
    rotate_left
    ·(intro wq hSw; obtain ⟨_,_,_,_,_,_,_,_⟩:=hSw; go_simp; all_goals first | with_reducible rfl | rw [zI])
    simp only [zA,zB,zC,Act.put,zD,zE,zF]
    refine zT 6 ?_ rfl (Or.inl ⟨by rfl,?_⟩) bC.out ?_
    rotate_left
    ·(intro wq hSw; obtain ⟨_,_,_,_,_,_,_,_⟩:=hSw; go_simp; all_goals first | with_reducible rfl | rw [zI])
    simp only [zA,zB,zC,Act.put,zD,zE,zF]
    refine zT 7 ?_ rfl (Or.inl ⟨by rfl,?_⟩) bC.out ?_
    rotate_left
    ·(intro wq hSw; obtain ⟨_,_,_,_,_,_,_,_⟩:=hSw; go_simp; all_goals first | with_reducible rfl | rw [zI])
    simp only [zA,zB,zC,Act.put,zD,zE,zF]
    refine zT 8 ?_ rfl (Or.inl ⟨by rfl,?_⟩) bC.out ?_
    rotate_left
    ·(intro wq hSw; obtain ⟨_,_,_,_,_,_,_,_⟩:=hSw; go_simp; all_goals first | with_reducible rfl | rw [zI])
    simp only [zA,zB,zC,Act.put,zD,zE,zF]
    refine zT 9 ?_ rfl (Or.inl ⟨by rfl,?_⟩) bC.out ?_
    rotate_left
    ·(intro wq hSw; obtain ⟨_,_,_,_,_,_,_,_⟩:=hSw; go_simp; all_goals first | with_reducible rfl | rw [zI])
    simp only [zA,zB,zC,Act.put,zD,zE,zF]
    refine zT 10 ?_ rfl (Or.inl ⟨by rfl,?_⟩) bC.out ?_
    rotate_left
    ·(intro wq hSw; obtain ⟨_,_,_,_,_,_,_,_⟩:=hSw; go_simp; all_goals first | with_reducible rfl | rw [zI])
    simp only [zA,zB,zC,Act.put,zD,zE,zF]
    refine zT 11 ?_ rfl (Or.inl ⟨by rfl,?_⟩) bC.out ?_
    rotate_left
    ·(intro wq hSw; obtain ⟨_,_,_,_,_,_,_,_⟩:=hSw; go_simp; all_goals first | with_reducible rfl | rw [zI])
    simp only [zA,zB,zC,Act.put,zD,zE,zF]
    refine zO 12 fun K hK => ?_
    go_simp
    have hcall:=ih c (.agg #[.int .i64 c.kind,.int .i64 c.sort,.string ⟨c.name.toArray⟩,.slice A1 n1 p1,.slice A2 n2 p2]) wr.drew hcm.1 hcm.2.1 ((mJ vT.out rP.out).keep (Below.refl wr.heap.size wr).drew) hcm.2.2
    unfold au at hcall
    refine hcall.mono ?_; clear hcall; rw [HT.out]; rintro e w1 ⟨rfl,hq⟩
    have hb1 : Below wr.heap.size wr w1:=chain (Below.refl wr.heap.size wr).drew hq
    clear hq
    refine hK.out _ _ (fun _ => jE.out _ hb1) ?_
    clear hK K
    try simp only [zA,zB,zC,Act.put,zD,zE,zF]
    refine zT 13 ?_ rfl (Or.inl ⟨by rfl,?_⟩) (jE.out _ hb1) ?_
    rotate_left
    ·(intro wq hSw; obtain ⟨_,_,_,_,_,_,_,_⟩:=hSw; go_simp; all_goals first | with_reducible rfl | rw [zI])
    simp only [zA,zB,zC,Act.put,zD,zE,zF]
    refine zT 14 ?_ rfl (Or.inl ⟨by rfl,?_⟩) (jE.out _ hb1) ?_
    rotate_left
    ·(intro wq hSw; obtain ⟨_,_,_,_,_,_,_,_⟩:=hSw; go_simp; all_goals first | with_reducible rfl | rw [zI])
    simp only [zA,zB,zC,Act.put,zD,zE,zF]
    refine zO 15 fun K hK => ?_
    go_simp
    refine hK.out _ _ (fun h => absurd h (by decide)) ?_
    clear hK K
    try simp only [zA,zB,zC,Act.put,zD,zE,zF]
    refine bf (by kernel_rfl) ?_
    go_wp2_with fail
    go_roundw
    case rel =>
     refine ⟨k + 1,by omega,by go_num,?_,ae x3 hb1,ae x4 hb1,chain hb hb1⟩
     rw [mV.out,HG.out]
     simp [LX.out]
    case measure => simp [intOf]; omega
  ·have OB : k = L:=by omega
   subst OB
   clear hlt
   go_wp2_with fail
   go_ret
   exact ⟨rfl,hb⟩

theorem text_7 (m : Nat) (ih : ∀ (t : Ty) (v : Value) (w : World),parts t ≤ m → parts t ≤ 60 → ny w v t → Good t → au 28 t v w)
  (ls : List Str) (ks : List Ty) (v : Value) (w : World) (hks : ∀ c ∈ ks,parts c ≤ m ∧ parts c ≤ 60 ∧ Good c) (hl6 : ls.length ≤ 6) (hl1 : 1 ≤ ls.length) (hls : ∀ l ∈ ls,l.length ≤ 8) (hlen : ks.length = ls.length) (hv : ny w v (.mk 7 0 [] ls ks)) : au 28 (.mk 7 0 [] ls ks) v w:=by
 unfold au
 obtain ⟨lv,kv,rfl,hs1,hs2⟩:=hv
 simp only [Ty.kind,Ty.sort,Ty.name,Ty.labels,Ty.kids] at hs1 hs2 ⊢
 have Gl:=zH hs1
 obtain ⟨A0,p0,rfl,-,-⟩:=hs1
 have HK:=zH hs2
 obtain ⟨A,cap,rfl,-,-⟩:=hs2
 obtain ⟨P,hP⟩ : ∃ x,pairs ls (sG ks) = x:=⟨_,rfl⟩
 have hPl : P.length = ls.length:=by rw [← hP,rJ (by rw [uJ,hlen])]
 have Iw : ∀ x ∈ P,x.length ≤ 6009:=by
  rw [← hP]
  refine xP hls fun t ht => ?_
  obtain ⟨c,hc,rfl⟩:=xW ht
  have h1:=lH c (hks c hc).2.2
  have h2:=(hks c hc).2.1
  omega
 have hans : txt (.mk 7 0 [] ls ks) = grow 38 P ls.length ++ [125]:=by
  unfold grow
  rw [if_neg (by omega),List.take_of_length_le (by omega),← hP]
  simp [txt,qJ]
 rw [hans]
 clear hans
 have PQ:=zH Iw; have NZ:=zH hP; have zZ:=zH hks; have Gj:=zH hls
 obtain ⟨L,hL⟩ : ∃ x,ls.length = x:=⟨_,rfl⟩
 have Bl:=zH hL; have HL2:=zH (hlen.trans hL); have Hq:=zH (hPl.trans hL)
 rw [hlen] at HK ⊢
 rw [hL] at HK Gl hl6 hl1 ⊢
 clear hL hlen hPl Iw hP hks hls
 go_enter Tryz.func28,Tryz.ntmps28
 go_wp2_with fail
 go_loopw [3,4] (fun s i wr => ∃ k : Nat,k ≤ L ∧ i = .int .i64 k ∧ s = .string ⟨(grow 38 P k).toArray⟩ ∧ wr.cell? ⟨w.heap.size,3,none⟩ = some (.slice A0 L p0) ∧ wr.cell? ⟨w.heap.size,4,none⟩ = some (.slice A L cap) ∧ Below w.heap.size w wr) (fun _ i _ => L - (intOf i).toNat)
 case atStart => exact ⟨0,by omega,rfl,rfl,by simp [go_sem],by simp [go_sem],by go_grown⟩
 case round =>
  obtain ⟨k,hk,rfl,rfl,x3,x4,hb⟩:=hrel
  have hgl : (grow 38 P k).length ≤ 40000:=by have:=zy (sg:=38) PQ.out (k:=k) (by rw [Hq.out]; exact hk); omega
  by_cases hlt : k < L
  ·obtain ⟨c,hc⟩ : ∃ x,ks[k]? = some x:=⟨_,List.getElem?_eq_getElem (by rw [HL2.out]; exact hlt)⟩
   obtain ⟨l,hl⟩ : ∃ x,ls[k]? = some x:=⟨_,List.getElem?_eq_getElem (by rw [Bl.out]; exact hlt)⟩
   have HC:=zH hc; have Io:=zH hl
   obtain ⟨-,-,b,off,A1,n1,p1,A2,n2,p2,rfl,c0,c1,c2,c3,c4,hl',hk'⟩:=nT (HK.out.keep hb) hc
   obtain ⟨lA,lp,el,hlc,hlr⟩:=Gl.out.keep hb
   obtain ⟨lb,vH,rfl,wB⟩:=hlr (by rw [Bl.out]; omega)
   injection el with el1 el2 el3
   subst el1 el3
   clear el2
   have GK:=wB k l hl
   have vT:=zH hl'; have rP:=zH hk'; clear hl' hk' hc hl
   have hcm:=zZ.out c (az HC.out)
   have hll:=Gj.out l (az Io.out)
   have htl : (txt c).length ≤ 6000:=by have h1:=lH c hcm.2.2; have h2:=hcm.2.1; omega
   have hnext:=grow_step (sg:=38) (P:=P) (k:=k) (by rw [← NZ.out]; exact xO Io.out (zW HC.out))
   obtain ⟨T,hT⟩ : ∃ y,txt c = y:=⟨_,rfl⟩
   have HT:=zH hT
   rw [hT] at htl hnext
   have mV:=zH hnext
   clear hT hnext
   have hS : ∀ w' : World,Below wr.heap.size wr w' → (fun w' : World => w'.cell? ⟨w.heap.size,3,none⟩ = some (.slice (some ⟨lb,vH,none⟩) L p0) ∧ w'.cell? ⟨w.heap.size,4,none⟩ = some (.slice (some ⟨b,off,none⟩) L cap) ∧ w'.cell? ⟨lb,vH + k,none⟩ = some (.string ⟨l.toArray⟩) ∧ w'.cell? ⟨b,off + k * 5,none⟩ = some (.int .i64 c.kind) ∧ w'.cell? ⟨b,off + k * 5 + 1,none⟩ = some (.int .i64 c.sort) ∧ w'.cell? ⟨b,off + k * 5 + 2,none⟩ = some (.string ⟨c.name.toArray⟩) ∧ w'.cell? ⟨b,off + k * 5 + 3,none⟩ = some (.slice A1 n1 p1) ∧ w'.cell? ⟨b,off + k * 5 + 4,none⟩ = some (.slice A2 n2 p2)) w':=fun w' h => ⟨ae x3 h,ae x4 h,ae GK h,ae c0 h,ae c1 h,ae c2 h,ae c3 h,ae c4 h⟩
   have bC:=zH (hS wr.drew (Below.refl _ _).drew)
   have jE:=zH hS; clear hS
   obtain ⟨G,hG⟩ : ∃ x,grow 38 P k = x:=⟨_,rfl⟩
   rw [hG] at hgl
   have HG:=zH hG
   rw [hG]
   clear hG
   by_cases h0 : k = 0
   ·have hk0 : ((k : Int) == 0) = true:=by simp [h0]
    have LX:=zH h0
    clear h0
    go_wp2_with fail
    refine aC 15 (fun w' : World => w'.cell? ⟨w.heap.size,3,none⟩ = some (.slice (some ⟨lb,vH,none⟩) L p0) ∧ w'.cell? ⟨w.heap.size,4,none⟩ = some (.slice (some ⟨b,off,none⟩) L cap) ∧ w'.cell? ⟨lb,vH + k,none⟩ = some (.string ⟨l.toArray⟩) ∧ w'.cell? ⟨b,off + k * 5,none⟩ = some (.int .i64 c.kind) ∧ w'.cell? ⟨b,off + k * 5 + 1,none⟩ = some (.int .i64 c.sort) ∧ w'.cell? ⟨b,off + k * 5 + 2,none⟩ = some (.string ⟨c.name.toArray⟩) ∧ w'.cell? ⟨b,off + k * 5 + 3,none⟩ = some (.slice A1 n1 p1) ∧ w'.cell? ⟨b,off + k * 5 + 4,none⟩ = some (.slice A2 n2 p2)) (by kernel_rfl) ?_
    refine zT 0 ?_ rfl (Or.inl ⟨by rfl,?_⟩) bC.out ?_
    rotate_left
    ·(intro wq hSw; obtain ⟨_,_,_,_,_,_,_,_⟩:=hSw; go_simp; all_goals first | with_reducible rfl | rw [zI])
    simp only [zA,zB,zC,Act.put,zD,zE,zF]
    refine zT 1 ?_ rfl (Or.inl ⟨by rfl,?_⟩) bC.out ?_
    rotate_left
    ·(intro wq hSw; obtain ⟨_,_,_,_,_,_,_,_⟩:=hSw; go_simp; all_goals first | with_reducible rfl | rw [zI])
    simp only [zA,zB,zC,Act.put,zD,zE,zF]
    refine zT 2 ?_ rfl (Or.inl ⟨by rfl,?_⟩) bC.out ?_
    rotate_left
    ·(intro wq hSw; obtain ⟨_,_,_,_,_,_,_,_⟩:=hSw; go_simp; all_goals first | with_reducible rfl | rw [zI])
    simp only [zA,zB,zC,Act.put,zD,zE,zF]
    refine zT 3 ?_ rfl (Or.inl ⟨by rfl,?_⟩) bC.out ?_
    rotate_left
    ·(intro wq hSw; obtain ⟨_,_,_,_,_,_,_,_⟩:=hSw; go_simp; all_goals first | with_reducible rfl | rw [zI])
    simp only [zA,zB,zC,Act.put,zD,zE,zF]
    refine zT 4 ?_ rfl (Or.inl ⟨by rfl,?_⟩) bC.out ?_
    rotate_left
    ·(intro wq hSw; obtain ⟨_,_,_,_,_,_,_,_⟩:=hSw; go_simp; all_goals first | with_reducible rfl | rw [zI])
    simp only [zA,zB,zC,Act.put,zD,zE,zF]
    refine zT 5 ?_ rfl (Or.inl ⟨by rfl,?_⟩) bC.out ?_
    rotate_left
    ·(intro wq hSw; obtain ⟨_,_,_,_,_,_,_,_⟩:=hSw; go_simp; all_goals first | with_reducible rfl | rw [zI])
    simp only [zA,zB,zC,Act.put,zD,zE,zF]
    refine zT 6 ?_ rfl (Or.inl ⟨by rfl,?_⟩) bC.out ?_
    rotate_left
    ·(intro wq hSw; obtain ⟨_,_,_,_,_,_,_,_⟩:=hSw; go_simp; all_goals first | with_reducible rfl | rw [zI])
    simp only [zA,zB,zC,Act.put,zD,zE,zF]
    refine zT 7 ?_ rfl (Or.inl ⟨by rfl,?_⟩) bC.out ?_
    rotate_left
    ·(intro wq hSw; obtain ⟨_,_,_,_,_,_,_,_⟩:=hSw; go_simp; all_goals first | with_reducible rfl | rw [zI])
    simp only [zA,zB,zC,Act.put,zD,zE,zF]
    refine zT 8 ?_ rfl (Or.inl ⟨by rfl,?_⟩) bC.out ?_
    rotate_left
    ·(intro wq hSw; obtain ⟨_,_,_,_,_,_,_,_⟩:=hSw; go_simp; all_goals first | with_reducible rfl | rw [zI])
    simp only [zA,zB,zC,Act.put,zD,zE,zF]
    refine zT 9 ?_ rfl (Or.inl ⟨by rfl,?_⟩) bC.out ?_
    rotate_left
    ·(intro wq hSw; obtain ⟨_,_,_,_,_,_,_,_⟩:=hSw; go_simp; all_goals first | with_reducible rfl | rw [zI])
    simp only [zA,zB,zC,Act.put,zD,zE,zF]
    refine zT 10 ?_ rfl (Or.inl ⟨by rfl,?_⟩) bC.out ?_
    rotate_left
    ·(intro wq hSw; obtain ⟨_,_,_,_,_,_,_,_⟩:=hSw; go_simp; all_goals first | with_reducible rfl | rw [zI])
    simp only [zA,zB,zC,Act.put,zD,zE,zF]
    refine zT 11 ?_ rfl (Or.inl ⟨by rfl,?_⟩) bC.out ?_
    rotate_left
    ·(intro wq hSw; obtain ⟨_,_,_,_,_,_,_,_⟩:=hSw; go_simp; all_goals first | with_reducible rfl | rw [zI])
    simp only [zA,zB,zC,Act.put,zD,zE,zF]
    refine zO 12 fun K hK => ?_
    go_simp
    have hcall:=ih c (.agg #[.int .i64 c.kind,.int .i64 c.sort,.string ⟨c.name.toArray⟩,.slice A1 n1 p1,.slice A2 n2 p2]) wr.drew hcm.1 hcm.2.1 ((mJ vT.out rP.out).keep (Below.refl wr.heap.size wr).drew) hcm.2.2
    unfold au at hcall
    refine hcall.mono ?_; clear hcall; rw [HT.out]; rintro e w1 ⟨rfl,hq⟩
    have hb1 : Below wr.heap.size wr w1:=chain (Below.refl wr.heap.size wr).drew hq
    clear hq
    refine hK.out _ _ (fun _ => jE.out _ hb1) ?_
    clear hK K
    try simp only [zA,zB,zC,Act.put,zD,zE,zF]
    refine zT 13 ?_ rfl (Or.inl ⟨by rfl,?_⟩) (jE.out _ hb1) ?_
    rotate_left
    ·(intro wq hSw; obtain ⟨_,_,_,_,_,_,_,_⟩:=hSw; go_simp; all_goals first | with_reducible rfl | rw [zI])
    simp only [zA,zB,zC,Act.put,zD,zE,zF]
    refine zT 14 ?_ rfl (Or.inl ⟨by rfl,?_⟩) (jE.out _ hb1) ?_
    rotate_left
    ·(intro wq hSw; obtain ⟨_,_,_,_,_,_,_,_⟩:=hSw; go_simp; all_goals first | with_reducible rfl | rw [zI])
    simp only [zA,zB,zC,Act.put,zD,zE,zF]
    refine zO 15 fun K hK => ?_
    go_simp
    refine hK.out _ _ (fun h => absurd h (by decide)) ?_
    clear hK K
    try simp only [zA,zB,zC,Act.put,zD,zE,zF]
    refine bf (by kernel_rfl) ?_
    go_wp2_with fail
    go_roundw
    case rel =>
     refine ⟨k + 1,by omega,by go_num,?_,ae x3 hb1,ae x4 hb1,chain hb hb1⟩
     rw [mV.out,HG.out]
     simp [LX.out]
    case measure => simp [intOf]; omega
   ·have hk0 : ((k : Int) == 0) = false:=by simp; omega
    have LX:=zH h0
    clear h0
    go_wp2_with fail
    refine aC 15 (fun w' : World => w'.cell? ⟨w.heap.size,3,none⟩ = some (.slice (some ⟨lb,vH,none⟩) L p0) ∧ w'.cell? ⟨w.heap.size,4,none⟩ = some (.slice (some ⟨b,off,none⟩) L cap) ∧ w'.cell? ⟨lb,vH + k,none⟩ = some (.string ⟨l.toArray⟩) ∧ w'.cell? ⟨b,off + k * 5,none⟩ = some (.int .i64 c.kind) ∧ w'.cell? ⟨b,off + k * 5 + 1,none⟩ = some (.int .i64 c.sort) ∧ w'.cell? ⟨b,off + k * 5 + 2,none⟩ = some (.string ⟨c.name.toArray⟩) ∧ w'.cell? ⟨b,off + k * 5 + 3,none⟩ = some (.slice A1 n1 p1) ∧ w'.cell? ⟨b,off + k * 5 + 4,none⟩ = some (.slice A2 n2 p2)) (by kernel_rfl) ?_
    refine zT 0 ?_ rfl (Or.inl ⟨by rfl,?_⟩) bC.out ?_
    rotate_left
    ·(intro wq hSw; obtain ⟨_,_,_,_,_,_,_,_⟩:=hSw; go_simp; all_goals first | with_reducible rfl | rw [zI])
    simp only [zA,zB,zC,Act.put,zD,zE,zF]
    refine zT 1 ?_ rfl (Or.inl ⟨by rfl,?_⟩) bC.out ?_
    rotate_left
    ·(intro wq hSw; obtain ⟨_,_,_,_,_,_,_,_⟩:=hSw; go_simp; all_goals first | with_reducible rfl | rw [zI])
    simp only [zA,zB,zC,Act.put,zD,zE,zF]
    refine zT 2 ?_ rfl (Or.inl ⟨by rfl,?_⟩) bC.out ?_
    rotate_left
    ·(intro wq hSw; obtain ⟨_,_,_,_,_,_,_,_⟩:=hSw; go_simp; all_goals first | with_reducible rfl | rw [zI])
    simp only [zA,zB,zC,Act.put,zD,zE,zF]
    refine zT 3 ?_ rfl (Or.inl ⟨by rfl,?_⟩) bC.out ?_
    rotate_left
    ·(intro wq hSw; obtain ⟨_,_,_,_,_,_,_,_⟩:=hSw; go_simp; all_goals first | with_reducible rfl | rw [zI])
    simp only [zA,zB,zC,Act.put,zD,zE,zF]
    refine zT 4 ?_ rfl (Or.inl ⟨by rfl,?_⟩) bC.out ?_
    rotate_left
    ·(intro wq hSw; obtain ⟨_,_,_,_,_,_,_,_⟩:=hSw; go_simp; all_goals first | with_reducible rfl | rw [zI])
    simp only [zA,zB,zC,Act.put,zD,zE,zF]
    refine zT 5 ?_ rfl (Or.inl ⟨by rfl,?_⟩) bC.out ?_
    rotate_left
    ·(intro wq hSw; obtain ⟨_,_,_,_,_,_,_,_⟩:=hSw; go_simp; all_goals first | with_reducible rfl | rw [zI])
    simp only [zA,zB,zC,Act.put,zD,zE,zF]
    refine zT 6 ?_ rfl (Or.inl ⟨by rfl,?_⟩) bC.out ?_
    rotate_left
    ·(intro wq hSw; obtain ⟨_,_,_,_,_,_,_,_⟩:=hSw; go_simp; all_goals first | with_reducible rfl | rw [zI])
    simp only [zA,zB,zC,Act.put,zD,zE,zF]
    refine zT 7 ?_ rfl (Or.inl ⟨by rfl,?_⟩) bC.out ?_
    rotate_left
    ·(intro wq hSw; obtain ⟨_,_,_,_,_,_,_,_⟩:=hSw; go_simp; all_goals first | with_reducible rfl | rw [zI])
    simp only [zA,zB,zC,Act.put,zD,zE,zF]
    refine zT 8 ?_ rfl (Or.inl ⟨by rfl,?_⟩) bC.out ?_
    rotate_left
    ·(intro wq hSw; obtain ⟨_,_,_,_,_,_,_,_⟩:=hSw; go_simp; all_goals first | with_reducible rfl | rw [zI])
    simp only [zA,zB,zC,Act.put,zD,zE,zF]
    refine zT 9 ?_ rfl (Or.inl ⟨by rfl,?_⟩) bC.out ?_
    rotate_left
    ·(intro wq hSw; obtain ⟨_,_,_,_,_,_,_,_⟩:=hSw; go_simp; all_goals first | with_reducible rfl | rw [zI])
    simp only [zA,zB,zC,Act.put,zD,zE,zF]
    refine zT 10 ?_ rfl (Or.inl ⟨by rfl,?_⟩) bC.out ?_
    rotate_left
    ·(intro wq hSw; obtain ⟨_,_,_,_,_,_,_,_⟩:=hSw; go_simp; all_goals first | with_reducible rfl | rw [zI])
    simp only [zA,zB,zC,Act.put,zD,zE,zF]
    refine zT 11 ?_ rfl (Or.inl ⟨by rfl,?_⟩) bC.out ?_
    rotate_left
    ·(intro wq hSw; obtain ⟨_,_,_,_,_,_,_,_⟩:=hSw; go_simp; all_goals first | with_reducible rfl | rw [zI])
    simp only [zA,zB,zC,Act.put,zD,zE,zF]
    refine zO 12 fun K hK => ?_
    go_simp
    have hcall:=ih c (.agg #[.int .i64 c.kind,.int .i64 c.sort,.string ⟨c.name.toArray⟩,.slice A1 n1 p1,.slice A2 n2 p2]) wr.drew hcm.1 hcm.2.1 ((mJ vT.out rP.out).keep (Below.refl wr.heap.size wr).drew) hcm.2.2
    unfold au at hcall
    refine hcall.mono ?_; clear hcall; rw [HT.out]; rintro e w1 ⟨rfl,hq⟩
    have hb1 : Below wr.heap.size wr w1:=chain (Below.refl wr.heap.size wr).drew hq
    clear hq
    refine hK.out _ _ (fun _ => jE.out _ hb1) ?_
    clear hK K
    try simp only [zA,zB,zC,Act.put,zD,zE,zF]
    refine zT 13 ?_ rfl (Or.inl ⟨by rfl,?_⟩) (jE.out _ hb1) ?_
    rotate_left
    ·(intro wq hSw; obtain ⟨_,_,_,_,_,_,_,_⟩:=hSw; go_simp; all_goals first | with_reducible rfl | rw [zI])
    simp only [zA,zB,zC,Act.put,zD,zE,zF]
    refine zT 14 ?_ rfl (Or.inl ⟨by rfl,?_⟩) (jE.out _ hb1) ?_
    rotate_left
    ·(intro wq hSw; obtain ⟨_,_,_,_,_,_,_,_⟩:=hSw; go_simp; all_goals first | with_reducible rfl | rw [zI])
    simp only [zA,zB,zC,Act.put,zD,zE,zF]
    refine zO 15 fun K hK => ?_
    go_simp
    refine hK.out _ _ (fun h => absurd h (by decide)) ?_
    clear hK K
    try simp only [zA,zB,zC,Act.put,zD,zE,zF]
    refine bf (by kernel_rfl) ?_
    go_wp2_with fail
    go_roundw
    case rel =>
     refine ⟨k + 1,by omega,by go_num,?_,ae x3 hb1,ae x4 hb1,chain hb hb1⟩
     rw [mV.out,HG.out]
     simp [LX.out]
    case measure => simp [intOf]; omega
  ·have OB : k = L:=by omega
   subst OB
   clear hlt
   go_wp2_with fail
   go_ret
   exact ⟨rfl,hb⟩

theorem refText_any : ∀ (m : Nat) (t : Ty) (v : Value) (w : World),parts t ≤ m → parts t ≤ 60 → ny w v t → Good t → au 28 t v w:=by
 intro m
 induction m with
 | zero => intro t v w h; cases t; simp only [parts] at h; omega
 | succ m ih =>
 intro t v w hm h60 hv hg
 obtain ⟨k,s,n,ls,ks⟩:=t
 have hsh:=qy hg.shape
 have hkids:=hg.kid
 simp only [Ty.kind,Ty.sort,Ty.name,Ty.labels,Ty.kids] at hsh hkids
 simp only [parts] at hm h60
 have hp : ∀ c ∈ ks,parts c ≤ m ∧ parts c ≤ 60 ∧ Good c:=fun c hc => by
  have:=pV hc
  exact ⟨by omega,by omega,hkids c hc⟩
 obtain ⟨kl,hkl⟩ : ∃ x,ks.length = x:=⟨_,rfl⟩
 rw [hkl] at hsh
 cases hsh with
 | fin =>
  obtain rfl:=List.eq_nil_of_length_eq_zero hkl
  exact text_1 m ih v w hv
 | value k s hk h1 h3 =>
  obtain ⟨c,rfl⟩ : ∃ c,ks = [c]:=by match ks,hkl with | [c],_ => exact ⟨c,rfl⟩
  obtain ⟨a1,a2,a3⟩:=hp c (by simp)
  rcases hk with rfl | rfl
  ·exact text_2 m ih s c v w a1 a2 hv a3 h1 h3
  ·exact text_3 m ih s c v w a1 a2 hv a3 h1 h3
 | channel k hk =>
  obtain ⟨c,d,rfl⟩ : ∃ c d,ks = [c,d]:=by match ks,hkl with | [c,d],_ => exact ⟨c,d,rfl⟩
  obtain ⟨a1,a2,a3⟩:=hp c (by simp)
  obtain ⟨b1,b2,b3⟩:=hp d (by simp)
  rcases hk with rfl | rfl
  ·exact text_4 m ih c d v w a1 a2 a3 b1 b2 b3 hv
  ·exact text_5 m ih c d v w a1 a2 a3 b1 b2 b3 hv
 | choice k hk ls h =>
  obtain ⟨h1,h6,h8⟩:=rE h
  rcases hk with rfl | rfl
  ·exact text_6 m ih ls ks v w hp h6 h1 h8 hkl hv
  ·exact text_7 m ih ls ks v w hp h6 h1 h8 hkl hv
 | loop n h =>
  obtain ⟨c,rfl⟩ : ∃ c,ks = [c]:=by match ks,hkl with | [c],_ => exact ⟨c,rfl⟩
  obtain ⟨a1,a2,a3⟩:=hp c (by simp)
  exact text_8 m ih n c v w a1 a2 a3 hv (wC h).2
 | var n h =>
  obtain rfl:=List.eq_nil_of_length_eq_zero hkl
  exact text_9 m ih n v w hv
def oN (w : World) : Prop:=∃ b o c,w.cell? ⟨2,0,none⟩ = some (.slice (some ⟨b,o,none⟩) 4 c) ∧ 4 ≤ c ∧ vF w b o [[],[105,110,116],[98,111,111,108],[116,101,120,116]]
theorem oN.keep {w w' : World} (h : oN w) (hb : Below w.heap.size w w') : oN w':=by
 obtain ⟨b,o,c,h1,h2,h3⟩:=h
 exact ⟨b,o,c,ae h1 hb,h2,h3.keep hb⟩

end Go.Proofs.YtpidjanngbaiiaaGreatDoor
