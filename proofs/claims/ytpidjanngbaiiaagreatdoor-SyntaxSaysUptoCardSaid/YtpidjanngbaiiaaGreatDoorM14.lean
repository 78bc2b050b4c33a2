/-
  TyY TyY2 TyZ PrV0
-/
import Derived.Test.YtpidjanngbaiiaaGreatDoorM13
import Derived.Test.YtpidjanngbaiiaaGreatDoorM8
import Derived.Test.YtpidjanngbaiiaaGreatDoorM12
import Derived.Test.YtpidjanngbaiiaaGreatDoorM6
import Derived.Test.YtpidjanngbaiiaaGreatDoorM7
namespace Go.Proofs.YtpidjanngbaiiaaGreatDoor
open Go.RowKit Go.Proofs
set_option maxRecDepth 100000
set_option maxHeartbeats 32000000

theorem FZ {w : World} {b o : Nat} (h : vF w b o [[],[105,110,116],[98,111,111,108],[116,101,120,116]]) {s : Nat} (h1 : 1 ≤ s) (h3 : s ≤ 3) : w.cell? ⟨b,o + s,none⟩ = some (.string ⟨(pX (s : Int)).toArray⟩):=by
 refine h s _ ?_
 obtain rfl | rfl | rfl : s = 1 ∨ s = 2 ∨ s = 3:=by omega
 all_goals rfl

theorem write_2 (m : Nat) (ih : ∀ (t : Ty) (v : Value) (w : World),parts t ≤ m → parts t ≤ 60 → ny w v t → Good t → oN w → au 67 t v w)
  (s : Nat) (c : Ty) (v : Value) (w : World) (hmc : parts c ≤ m) (h60c : parts c ≤ 60) (hgc : Good c) (hv : ny w v (.mk 2 s [] [] [c])) (hsw : oN w) (h1 : 1 ≤ s) (h3 : s ≤ 3) : au 67 (.mk 2 s [] [] [c]) v w:=by
 unfold au
 obtain ⟨lv,kv,rfl,hs1,hs2⟩:=hv
 simp only [Ty.kind,Ty.sort,Ty.name,Ty.labels,Ty.kids] at hs1 hs2 ⊢
 obtain ⟨A0,p0,rfl,-,-⟩:=hs1
 have HK:=zH hs2
 obtain ⟨A,cap,rfl,-,-⟩:=hs2
 simp only [List.length_nil,List.length_cons] at HK ⊢
 have E5:=zH hsw
 obtain ⟨gb,go,gc,g0,g4,grow⟩:=hsw
 have g1:=FZ grow h1 h3
 have hs4 : s < 4:=by omega
 have hs4i : (s : Int) < 4:=by omega
 have OI:=rO (s : Int)
 obtain ⟨U,hU⟩ : ∃ y,pX (s : Int) = y:=⟨_,rfl⟩
 have HU:=zH hU
 rw [hU] at OI g1
 clear hU grow
 obtain ⟨-,-,b,off,cA,cn,cp,cB,cm,cq,rfl,c0,c1,c2,c3,c4,hl',hk'⟩:=nT (i:=0) (t:=c) HK.out rfl
 simp only [Nat.zero_mul,Nat.one_mul,Nat.add_zero] at c0 c1 c2 c3 c4
 have Gx:=zH hl'; have Gw:=zH hk'; clear hl' hk'
 have hlc : (txt c).length ≤ 6000:=by have:=lH c hgc; omega
 obtain ⟨Tc,hTc⟩ : ∃ y,txt c = y:=⟨_,rfl⟩
 have HTc:=zH hTc
 rw [hTc] at hlc
 clear hTc
 obtain ⟨ANS,hA⟩ : ∃ x,txt (.mk 2 s [] [] [c]) = x:=⟨_,rfl⟩
 have HA:=zH hA; rw [hA]; clear hA
 go_enter Tryz.func67,Tryz.ntmps67
 go_wp2_with fail
 obtain ⟨W,hW⟩ : ∃ W,w.alloc (.cells #[.int .i64 2,.int .i64 s,.string ⟨#[]⟩,.slice A0 0 p0,.slice (some ⟨b,off,none⟩) 1 cap] 30) = W:=⟨_,rfl⟩
 have hbW : Below w.heap.size w W:=by subst hW; go_grown
 have x1 : W.cell? ⟨w.heap.size,1,none⟩ = some (.int .i64 s):=by subst hW; simp [go_sem]
 have x4 : W.cell? ⟨w.heap.size,4,none⟩ = some (.slice (some ⟨b,off,none⟩) 1 cap):=by subst hW; simp [go_sem]
 try rw [hW]
 clear hW
 have GM:=ae c0 hbW; have GN:=ae c1 hbW; have GR:=ae c2 hbW; have GU:=ae c3 hbW; have GV:=ae c4 hbW
 have TK:=ae g0 hbW; have TL:=ae g1 hbW
 clear g0 g1
 have hS : ∀ w' : World,Below W.heap.size W w' → (fun w' : World => w'.cell? ⟨w.heap.size,1,none⟩ = some (.int .i64 s) ∧ w'.cell? ⟨w.heap.size,4,none⟩ = some (.slice (some ⟨b,off,none⟩) 1 cap) ∧ w'.cell? ⟨2,0,none⟩ = some (.slice (some ⟨gb,go,none⟩) 4 gc) ∧ w'.cell? ⟨gb,go + s,none⟩ = some (.string ⟨U.toArray⟩) ∧ w'.cell? ⟨b,off,none⟩ = some (.int .i64 c.kind) ∧ w'.cell? ⟨b,off + 1,none⟩ = some (.int .i64 c.sort) ∧ w'.cell? ⟨b,off + 2,none⟩ = some (.string ⟨c.name.toArray⟩) ∧ w'.cell? ⟨b,off + 3,none⟩ = some (.slice cA cn cp) ∧ w'.cell? ⟨b,off + 4,none⟩ = some (.slice cB cm cq)) w':=fun w' h => ⟨ae x1 h,ae x4 h,ae TK h,ae TL h,ae GM h,ae GN h,ae GR h,ae GU h,ae GV h⟩
 have bC:=zH (hS W.drew (Below.refl _ _).drew)
 have jE:=zH hS; clear hS
 refine aC 13 (fun w' : World => w'.cell? ⟨w.heap.size,1,none⟩ = some (.int .i64 s) ∧ w'.cell? ⟨w.heap.size,4,none⟩ = some (.slice (some ⟨b,off,none⟩) 1 cap) ∧ w'.cell? ⟨2,0,none⟩ = some (.slice (some ⟨gb,go,none⟩) 4 gc) ∧ w'.cell? ⟨gb,go + s,none⟩ = some (.string ⟨U.toArray⟩) ∧ w'.cell? ⟨b,off,none⟩ = some (.int .i64 c.kind) ∧ w'.cell? ⟨b,off + 1,none⟩ = some (.int .i64 c.sort) ∧ w'.cell? ⟨b,off + 2,none⟩ = some (.string ⟨c.name.toArray⟩) ∧ w'.cell? ⟨b,off + 3,none⟩ = some (.slice cA cn cp) ∧ w'.cell? ⟨b,off + 4,none⟩ = some (.slice cB cm cq)) (by kernel_rfl) ?_
 refine zT 0 ?_ rfl (Or.inl ⟨by rfl,?_⟩) bC.out ?_
 rotate_left
 ·(intro wq hSw; obtain ⟨_,_,_,_,_,_,_,_,_⟩:=hSw; go_simp; all_goals first | with_reducible rfl | rw [zI])
 simp only [zA,zB,zC,Act.put,zD,zE,zF]
 refine zT 1 ?_ rfl (Or.inl ⟨by rfl,?_⟩) bC.out ?_
 rotate_left
 ·(intro wq hSw; obtain ⟨_,_,_,_,_,_,_,_,_⟩:=hSw; go_simp; all_goals first | with_reducible rfl | rw [zI])
 simp only [zA,zB,zC,Act.put,zD,zE,zF]
 refine zT 2 ?_ rfl (Or.inl ⟨by rfl,?_⟩) bC.out ?_
 rotate_left
 ·(intro wq hSw; obtain ⟨_,_,_,_,_,_,_,_,_⟩:=hSw; go_simp; all_goals first | with_reducible rfl | rw [zI])
 simp only [zA,zB,zC,Act.put,zD,zE,zF]
 refine zT 3 ?_ rfl (Or.inl ⟨by rfl,?_⟩) bC.out ?_
 rotate_left
 ·(intro wq hSw; obtain ⟨_,_,_,_,_,_,_,_,_⟩:=hSw; go_simp; all_goals first | with_reducible rfl | rw [zI])
 simp only [zA,zB,zC,Act.put,zD,zE,zF]
 refine zT 4 ?_ rfl (Or.inl ⟨by rfl,?_⟩) bC.out ?_
 rotate_left
 ·(intro wq hSw; obtain ⟨_,_,_,_,_,_,_,_,_⟩:=hSw; go_simp; all_goals first | with_reducible rfl | rw [zI])
 simp only [zA,zB,zC,Act.put,zD,zE,zF]
 refine zT 5 ?_ rfl (Or.inl ⟨by rfl,?_⟩) bC.out ?_
 rotate_left
 ·(intro wq hSw; obtain ⟨_,_,_,_,_,_,_,_,_⟩:=hSw; go_simp; all_goals first | with_reducible rfl | rw [zI])
 simp only [zA,zB,zC,Act.put,zD,zE,zF]
 refine zT 6 ?_ rfl (Or.inl ⟨by rfl,?_⟩) bC.out ?_
 rotate_left
 ·(intro wq hSw; obtain ⟨_,_,_,_,_,_,_,_,_⟩:=hSw; go_simp; all_goals first | with_reducible rfl | rw [zI])
 simp only [zA,zB,zC,Act.put,zD,zE,zF]
 refine zT 7 ?_ rfl (Or.inl ⟨by rfl,?_⟩) bC.out ?_
 rotate_left
 ·(intro wq hSw; obtain ⟨_,_,_,_,_,_,_,_,_⟩:=hSw; go_simp; all_goals first | with_reducible rfl | rw [zI])
 simp only [zA,zB,zC,Act.put,zD,zE,zF]
 refine zT 8 ?_ rfl (Or.inl ⟨by rfl,?_⟩) bC.out ?_
 rotate_left
 ·(intro wq hSw; obtain ⟨_,_,_,_,_,_,_,_,_⟩:=hSw; go_simp; all_goals first | with_reducible rfl | rw [zI])
 simp only [zA,zB,zC,Act.put,zD,zE,zF]
 refine zT 9 ?_ rfl (Or.inl ⟨by rfl,?_⟩) bC.out ?_
 rotate_left
 ·(intro wq hSw; obtain ⟨_,_,_,_,_,_,_,_,_⟩:=hSw; go_simp; all_goals first | with_reducible rfl | rw [zI])
 simp only [zA,zB,zC,Act.put,zD,zE,zF]
 refine zT 10 ?_ rfl (Or.inl ⟨by rfl,?_⟩) bC.out ?_
 rotate_left
 ·(intro wq hSw; obtain ⟨_,_,_,_,_,_,_,_,_⟩:=hSw; go_simp; all_goals first | with_reducible rfl | rw [zI])
 simp only [zA,zB,zC,Act.put,zD,zE,zF]
 refine zO 11 fun K hK => ?_
 go_simp
 have hcall:=ih c (.agg #[.int .i64 c.kind,.int .i64 c.sort,.string ⟨c.name.toArray⟩,.slice cA cn cp,.slice cB cm cq]) W.drew hmc h60c (mJ ((Gx.out.keep hbW).keep (Below.refl W.heap.size W).drew) ((Gw.out.keep hbW).keep (Below.refl W.heap.size W).drew)) hgc ((E5.out.keep hbW).keep (Below.refl W.heap.size W).drew)
 unfold au at hcall
 refine hcall.mono ?_; clear hcall; rw [HTc.out]; rintro e w1 ⟨rfl,hq⟩
 have hb1:=chain (Below.refl W.heap.size W).drew hq
 clear hq
 refine hK.out _ _ (fun _ => jE.out _ hb1) ?_
 clear hK K
 try simp only [zA,zB,zC,Act.put,zD,zE,zF]
 refine zT 12 ?_ rfl (Or.inl ⟨by rfl,?_⟩) (jE.out _ hb1) ?_
 rotate_left
 ·(intro wq hSw; obtain ⟨_,_,_,_,_,_,_,_,_⟩:=hSw; go_simp; all_goals first | with_reducible rfl | rw [zI])
 simp only [zA,zB,zC,Act.put,zD,zE,zF]
 refine zO 13 fun K hK => ?_
 go_simp
 refine hK.out _ _ (fun h => absurd h (by decide)) ?_
 clear hK K
 try simp only [zA,zB,zC,Act.put,zD,zE,zF]
 refine bf (by kernel_rfl) ?_
 go_wp2_with fail
 go_ret
 refine ⟨?_,chain hbW hb1⟩
 rw [← HA.out]
 simp [txt,qJ,sG,HTc.out,HU.out]

theorem write_3 (m : Nat) (ih : ∀ (t : Ty) (v : Value) (w : World),parts t ≤ m → parts t ≤ 60 → ny w v t → Good t → oN w → au 67 t v w)
  (s : Nat) (c : Ty) (v : Value) (w : World) (hmc : parts c ≤ m) (h60c : parts c ≤ 60) (hgc : Good c) (hv : ny w v (.mk 3 s [] [] [c])) (hsw : oN w) (h1 : 1 ≤ s) (h3 : s ≤ 3) : au 67 (.mk 3 s [] [] [c]) v w:=by
 unfold au
 obtain ⟨lv,kv,rfl,hs1,hs2⟩:=hv
 simp only [Ty.kind,Ty.sort,Ty.name,Ty.labels,Ty.kids] at hs1 hs2 ⊢
 obtain ⟨A0,p0,rfl,-,-⟩:=hs1
 have HK:=zH hs2
 obtain ⟨A,cap,rfl,-,-⟩:=hs2
 simp only [List.length_nil,List.length_cons] at HK ⊢
 have E5:=zH hsw
 obtain ⟨gb,go,gc,g0,g4,grow⟩:=hsw
 have g1:=FZ grow h1 h3
 have hs4 : s < 4:=by omega
 have hs4i : (s : Int) < 4:=by omega
 have OI:=rO (s : Int)
 obtain ⟨U,hU⟩ : ∃ y,pX (s : Int) = y:=⟨_,rfl⟩
 have HU:=zH hU
 rw [hU] at OI g1
 clear hU grow
 obtain ⟨-,-,b,off,cA,cn,cp,cB,cm,cq,rfl,c0,c1,c2,c3,c4,hl',hk'⟩:=nT (i:=0) (t:=c) HK.out rfl
 simp only [Nat.zero_mul,Nat.one_mul,Nat.add_zero] at c0 c1 c2 c3 c4
 have Gx:=zH hl'; have Gw:=zH hk'; clear hl' hk'
 have hlc : (txt c).length ≤ 6000:=by have:=lH c hgc; omega
 obtain ⟨Tc,hTc⟩ : ∃ y,txt c = y:=⟨_,rfl⟩
 have HTc:=zH hTc
 rw [hTc] at hlc
 clear hTc
 obtain ⟨ANS,hA⟩ : ∃ x,txt (.mk 3 s [] [] [c]) = x:=⟨_,rfl⟩
 have HA:=zH hA; rw [hA]; clear hA
 go_enter Tryz.func67,Tryz.ntmps67
 go_wp2_with fail
 obtain ⟨W,hW⟩ : ∃ W,w.alloc (.cells #[.int .i64 3,.int .i64 s,.string ⟨#[]⟩,.slice A0 0 p0,.slice (some ⟨b,off,none⟩) 1 cap] 30) = W:=⟨_,rfl⟩
 have hbW : Below w.heap.size w W:=by subst hW; go_grown
 have x1 : W.cell? ⟨w.heap.size,1,none⟩ = some (.int .i64 s):=by subst hW; simp [go_sem]
 have x4 : W.cell? ⟨w.heap.size,4,none⟩ = some (.slice (some ⟨b,off,none⟩) 1 cap):=by subst hW; simp [go_sem]
 try rw [hW]
 clear hW
 have GM:=ae c0 hbW; have GN:=ae c1 hbW; have GR:=ae c2 hbW; have GU:=ae c3 hbW; have GV:=ae c4 hbW
 have TK:=ae g0 hbW; have TL:=ae g1 hbW
 clear g0 g1
 have hS : ∀ w' : World,Below W.heap.size W w' → (fun w' : World => w'.cell? ⟨w.heap.size,1,none⟩ = some (.int .i64 s) ∧ w'.cell? ⟨w.heap.size,4,none⟩ = some (.slice (some ⟨b,off,none⟩) 1 cap) ∧ w'.cell? ⟨2,0,none⟩ = some (.slice (some ⟨gb,go,none⟩) 4 gc) ∧ w'.cell? ⟨gb,go + s,none⟩ = some (.string ⟨U.toArray⟩) ∧ w'.cell? ⟨b,off,none⟩ = some (.int .i64 c.kind) ∧ w'.cell? ⟨b,off + 1,none⟩ = some (.int .i64 c.sort) ∧ w'.cell? ⟨b,off + 2,none⟩ = some (.string ⟨c.name.toArray⟩) ∧ w'.cell? ⟨b,off + 3,none⟩ = some (.slice cA cn cp) ∧ w'.cell? ⟨b,off + 4,none⟩ = some (.slice cB cm cq)) w':=fun w' h => ⟨ae x1 h,ae x4 h,ae TK h,ae TL h,ae GM h,ae GN h,ae GR h,ae GU h,ae GV h⟩
 have bC:=zH (hS W.drew (Below.refl _ _).drew)
 have jE:=zH hS; clear hS
 refine aC 13 (fun w' : World => w'.cell? ⟨w.heap.size,1,none⟩ = some (.int .i64 s) ∧ w'.cell? ⟨w.heap.size,4,none⟩ = some (.slice (some ⟨b,off,none⟩) 1 cap) ∧ w'.cell? ⟨2,0,none⟩ = some (.slice (some ⟨gb,go,none⟩) 4 gc) ∧ w'.cell? ⟨gb,go + s,none⟩ = some (.string ⟨U.toArray⟩) ∧ w'.cell? ⟨b,off,none⟩ = some (.int .i64 c.kind) ∧ w'.cell? ⟨b,off + 1,none⟩ = some (.int .i64 c.sort) ∧ w'.cell? ⟨b,off + 2,none⟩ = some (.string ⟨c.name.toArray⟩) ∧ w'.cell? ⟨b,off + 3,none⟩ = some (.slice cA cn cp) ∧ w'.cell? ⟨b,off + 4,none⟩ = some (.slice cB cm cq)) (by kernel_rfl) ?_
 refine zT 0 ?_ rfl (Or.inl ⟨by rfl,?_⟩) bC.out ?_
 rotate_left
 ·(intro wq hSw; obtain ⟨_,_,_,_,_,_,_,_,_⟩:=hSw; go_simp; all_goals first | with_reducible rfl | rw [zI])
 simp only [zA,zB,zC,Act.put,zD,zE,zF]
 refine zT 1 ?_ rfl (Or.inl ⟨by rfl,?_⟩) bC.out ?_
 rotate_left
 ·(intro wq hSw; obtain ⟨_,_,_,_,_,_,_,_,_⟩:=hSw; go_simp; all_goals first | with_reducible rfl | rw [zI])
 simp only [zA,zB,zC,Act.put,zD,zE,zF]
 refine zT 2 ?_ rfl (Or.inl ⟨by rfl,?_⟩) bC.out ?_
 rotate_left
 ·(intro wq hSw; obtain ⟨_,_,_,_,_,_,_,_,_⟩:=hSw; go_simp; all_goals first | with_reducible rfl | rw [zI])
 simp only [zA,zB,zC,Act.put,zD,zE,zF]
 refine zT 3 ?_ rfl (Or.inl ⟨by rfl,?_⟩) bC.out ?_
 rotate_left
 ·(intro wq hSw; obtain ⟨_,_,_,_,_,_,_,_,_⟩:=hSw; go_simp; all_goals first | with_reducible rfl | rw [zI])
 simp only [zA,zB,zC,Act.put,zD,zE,zF]
 refine zT 4 ?_ rfl (Or.inl ⟨by rfl,?_⟩) bC.out ?_
 rotate_left
 ·(intro wq hSw; obtain ⟨_,_,_,_,_,_,_,_,_⟩:=hSw; go_simp; all_goals first | with_reducible rfl | rw [zI])
 simp only [zA,zB,zC,Act.put,zD,zE,zF]
 refine zT 5 ?_ rfl (Or.inl ⟨by rfl,?_⟩) bC.out ?_
 rotate_left
 ·(intro wq hSw; obtain ⟨_,_,_,_,_,_,_,_,_⟩:=hSw; go_simp; all_goals first | with_reducible rfl | rw [zI])
 simp only [zA,zB,zC,Act.put,zD,zE,zF]
 refine zT 6 ?_ rfl (Or.inl ⟨by rfl,?_⟩) bC.out ?_
 rotate_left
 ·(intro wq hSw; obtain ⟨_,_,_,_,_,_,_,_,_⟩:=hSw; go_simp; all_goals first | with_reducible rfl | rw [zI])
 simp only [zA,zB,zC,Act.put,zD,zE,zF]
 refine zT 7 ?_ rfl (Or.inl ⟨by rfl,?_⟩) bC.out ?_
 rotate_left
 ·(intro wq hSw; obtain ⟨_,_,_,_,_,_,_,_,_⟩:=hSw; go_simp; all_goals first | with_reducible rfl | rw [zI])
 simp only [zA,zB,zC,Act.put,zD,zE,zF]
 refine zT 8 ?_ rfl (Or.inl ⟨by rfl,?_⟩) bC.out ?_
 rotate_left
 ·(intro wq hSw; obtain ⟨_,_,_,_,_,_,_,_,_⟩:=hSw; go_simp; all_goals first | with_reducible rfl | rw [zI])
 simp only [zA,zB,zC,Act.put,zD,zE,zF]
 refine zT 9 ?_ rfl (Or.inl ⟨by rfl,?_⟩) bC.out ?_
 rotate_left
 ·(intro wq hSw; obtain ⟨_,_,_,_,_,_,_,_,_⟩:=hSw; go_simp; all_goals first | with_reducible rfl | rw [zI])
 simp only [zA,zB,zC,Act.put,zD,zE,zF]
 refine zT 10 ?_ rfl (Or.inl ⟨by rfl,?_⟩) bC.out ?_
 rotate_left
 ·(intro wq hSw; obtain ⟨_,_,_,_,_,_,_,_,_⟩:=hSw; go_simp; all_goals first | with_reducible rfl | rw [zI])
 simp only [zA,zB,zC,Act.put,zD,zE,zF]
 refine zO 11 fun K hK => ?_
 go_simp
 have hcall:=ih c (.agg #[.int .i64 c.kind,.int .i64 c.sort,.string ⟨c.name.toArray⟩,.slice cA cn cp,.slice cB cm cq]) W.drew hmc h60c (mJ ((Gx.out.keep hbW).keep (Below.refl W.heap.size W).drew) ((Gw.out.keep hbW).keep (Below.refl W.heap.size W).drew)) hgc ((E5.out.keep hbW).keep (Below.refl W.heap.size W).drew)
 unfold au at hcall
 refine hcall.mono ?_; clear hcall; rw [HTc.out]; rintro e w1 ⟨rfl,hq⟩
 have hb1:=chain (Below.refl W.heap.size W).drew hq
 clear hq
 refine hK.out _ _ (fun _ => jE.out _ hb1) ?_
 clear hK K
 try simp only [zA,zB,zC,Act.put,zD,zE,zF]
 refine zT 12 ?_ rfl (Or.inl ⟨by rfl,?_⟩) (jE.out _ hb1) ?_
 rotate_left
 ·(intro wq hSw; obtain ⟨_,_,_,_,_,_,_,_,_⟩:=hSw; go_simp; all_goals first | with_reducible rfl | rw [zI])
 simp only [zA,zB,zC,Act.put,zD,zE,zF]
 refine zO 13 fun K hK => ?_
 go_simp
 refine hK.out _ _ (fun h => absurd h (by decide)) ?_
 clear hK K
 try simp only [zA,zB,zC,Act.put,zD,zE,zF]
 refine bf (by kernel_rfl) ?_
 go_wp2_with fail
 go_ret
 refine ⟨?_,chain hbW hb1⟩
 rw [← HA.out]
 simp [txt,qJ,sG,HTc.out,HU.out]

theorem write_8 (m : Nat) (ih : ∀ (t : Ty) (v : Value) (w : World),parts t ≤ m → parts t ≤ 60 → ny w v t → Good t → oN w → au 67 t v w)
  (n : Str) (c : Ty) (v : Value) (w : World) (hmc : parts c ≤ m) (h60c : parts c ≤ 60) (hgc : Good c) (hv : ny w v (.mk 8 0 n [] [c])) (hsw : oN w) (hn : n.length ≤ 8) : au 67 (.mk 8 0 n [] [c]) v w:=by
 unfold au
 obtain ⟨lv,kv,rfl,hs1,hs2⟩:=hv
 simp only [Ty.kind,Ty.sort,Ty.name,Ty.labels,Ty.kids] at hs1 hs2 ⊢
 obtain ⟨A0,p0,rfl,-,-⟩:=hs1
 have HK:=zH hs2
 obtain ⟨A,cap,rfl,-,-⟩:=hs2
 simp only [List.length_nil,List.length_cons] at HK ⊢
 have E5:=zH hsw
 clear hsw
 obtain ⟨-,-,b,off,cA,cn,cp,cB,cm,cq,rfl,c0,c1,c2,c3,c4,hl',hk'⟩:=nT (i:=0) (t:=c) HK.out rfl
 simp only [Nat.zero_mul,Nat.one_mul,Nat.add_zero] at c0 c1 c2 c3 c4
 have Gx:=zH hl'; have Gw:=zH hk'; clear hl' hk'
 have hlc : (txt c).length ≤ 6000:=by have:=lH c hgc; omega
 obtain ⟨Tc,hTc⟩ : ∃ y,txt c = y:=⟨_,rfl⟩
 have HTc:=zH hTc
 rw [hTc] at hlc
 clear hTc
 obtain ⟨ANS,hA⟩ : ∃ x,txt (.mk 8 0 n [] [c]) = x:=⟨_,rfl⟩
 have HA:=zH hA; rw [hA]; clear hA
 go_enter Tryz.func67,Tryz.ntmps67
 go_wp2_with fail
 obtain ⟨W,hW⟩ : ∃ W,w.alloc (.cells #[.int .i64 8,.int .i64 0,.string ⟨n.toArray⟩,.slice A0 0 p0,.slice (some ⟨b,off,none⟩) 1 cap] 30) = W:=⟨_,rfl⟩
 have hbW : Below w.heap.size w W:=by subst hW; go_grown
 have x2 : W.cell? ⟨w.heap.size,2,none⟩ = some (.string ⟨n.toArray⟩):=by subst hW; simp [go_sem]
 have x4 : W.cell? ⟨w.heap.size,4,none⟩ = some (.slice (some ⟨b,off,none⟩) 1 cap):=by subst hW; simp [go_sem]
 try rw [hW]
 clear hW
 have GM:=ae c0 hbW; have GN:=ae c1 hbW; have GR:=ae c2 hbW; have GU:=ae c3 hbW; have GV:=ae c4 hbW
 have hS : ∀ w' : World,Below W.heap.size W w' → (fun w' : World => w'.cell? ⟨w.heap.size,2,none⟩ = some (.string ⟨n.toArray⟩) ∧ w'.cell? ⟨w.heap.size,4,none⟩ = some (.slice (some ⟨b,off,none⟩) 1 cap) ∧ w'.cell? ⟨b,off,none⟩ = some (.int .i64 c.kind) ∧ w'.cell? ⟨b,off + 1,none⟩ = some (.int .i64 c.sort) ∧ w'.cell? ⟨b,off + 2,none⟩ = some (.string ⟨c.name.toArray⟩) ∧ w'.cell? ⟨b,off + 3,none⟩ = some (.slice cA cn cp) ∧ w'.cell? ⟨b,off + 4,none⟩ = some (.slice cB cm cq)) w':=fun w' h => ⟨ae x2 h,ae x4 h,ae GM h,ae GN h,ae GR h,ae GU h,ae GV h⟩
 have bC:=zH (hS W.drew (Below.refl _ _).drew)
 have jE:=zH hS; clear hS
 refine aC 10 (fun w' : World => w'.cell? ⟨w.heap.size,2,none⟩ = some (.string ⟨n.toArray⟩) ∧ w'.cell? ⟨w.heap.size,4,none⟩ = some (.slice (some ⟨b,off,none⟩) 1 cap) ∧ w'.cell? ⟨b,off,none⟩ = some (.int .i64 c.kind) ∧ w'.cell? ⟨b,off + 1,none⟩ = some (.int .i64 c.sort) ∧ w'.cell? ⟨b,off + 2,none⟩ = some (.string ⟨c.name.toArray⟩) ∧ w'.cell? ⟨b,off + 3,none⟩ = some (.slice cA cn cp) ∧ w'.cell? ⟨b,off + 4,none⟩ = some (.slice cB cm cq)) (by kernel_rfl) ?_
 refine zT 0 ?_ rfl (Or.inl ⟨by rfl,?_⟩) bC.out ?_
 rotate_left
 ·(intro wq hSw; obtain ⟨_,_,_,_,_,_,_⟩:=hSw; go_simp; all_goals first | with_reducible rfl | rw [zI])
 simp only [zA,zB,zC,Act.put,zD,zE,zF]
 refine zT 1 ?_ rfl (Or.inl ⟨by rfl,?_⟩) bC.out ?_
 rotate_left
 ·(intro wq hSw; obtain ⟨_,_,_,_,_,_,_⟩:=hSw; go_simp; all_goals first | with_reducible rfl | rw [zI])
 simp only [zA,zB,zC,Act.put,zD,zE,zF]
 refine zT 2 ?_ rfl (Or.inl ⟨by rfl,?_⟩) bC.out ?_
 rotate_left
 ·(intro wq hSw; obtain ⟨_,_,_,_,_,_,_⟩:=hSw; go_simp; all_goals first | with_reducible rfl | rw [zI])
 simp only [zA,zB,zC,Act.put,zD,zE,zF]
 refine zT 3 ?_ rfl (Or.inl ⟨by rfl,?_⟩) bC.out ?_
 rotate_left
 ·(intro wq hSw; obtain ⟨_,_,_,_,_,_,_⟩:=hSw; go_simp; all_goals first | with_reducible rfl | rw [zI])
 simp only [zA,zB,zC,Act.put,zD,zE,zF]
 refine zT 4 ?_ rfl (Or.inl ⟨by rfl,?_⟩) bC.out ?_
 rotate_left
 ·(intro wq hSw; obtain ⟨_,_,_,_,_,_,_⟩:=hSw; go_simp; all_goals first | with_reducible rfl | rw [zI])
 simp only [zA,zB,zC,Act.put,zD,zE,zF]
 refine zT 5 ?_ rfl (Or.inl ⟨by rfl,?_⟩) bC.out ?_
 rotate_left
 ·(intro wq hSw; obtain ⟨_,_,_,_,_,_,_⟩:=hSw; go_simp; all_goals first | with_reducible rfl | rw [zI])
 simp only [zA,zB,zC,Act.put,zD,zE,zF]
 refine zT 6 ?_ rfl (Or.inl ⟨by rfl,?_⟩) bC.out ?_
 rotate_left
 ·(intro wq hSw; obtain ⟨_,_,_,_,_,_,_⟩:=hSw; go_simp; all_goals first | with_reducible rfl | rw [zI])
 simp only [zA,zB,zC,Act.put,zD,zE,zF]
 refine zT 7 ?_ rfl (Or.inl ⟨by rfl,?_⟩) bC.out ?_
 rotate_left
 ·(intro wq hSw; obtain ⟨_,_,_,_,_,_,_⟩:=hSw; go_simp; all_goals first | with_reducible rfl | rw [zI])
 simp only [zA,zB,zC,Act.put,zD,zE,zF]
 refine zO 8 fun K hK => ?_
 go_simp
 have hcall:=ih c (.agg #[.int .i64 c.kind,.int .i64 c.sort,.string ⟨c.name.toArray⟩,.slice cA cn cp,.slice cB cm cq]) W.drew hmc h60c (mJ ((Gx.out.keep hbW).keep (Below.refl W.heap.size W).drew) ((Gw.out.keep hbW).keep (Below.refl W.heap.size W).drew)) hgc ((E5.out.keep hbW).keep (Below.refl W.heap.size W).drew)
 unfold au at hcall
 refine hcall.mono ?_; clear hcall; rw [HTc.out]; rintro e w1 ⟨rfl,hq⟩
 have hb1:=chain (Below.refl W.heap.size W).drew hq
 clear hq
 refine hK.out _ _ (fun _ => jE.out _ hb1) ?_
 clear hK K
 try simp only [zA,zB,zC,Act.put,zD,zE,zF]
 refine zT 9 ?_ rfl (Or.inl ⟨by rfl,?_⟩) (jE.out _ hb1) ?_
 rotate_left
 ·(intro wq hSw; obtain ⟨_,_,_,_,_,_,_⟩:=hSw; go_simp; all_goals first | with_reducible rfl | rw [zI])
 simp only [zA,zB,zC,Act.put,zD,zE,zF]
 refine zO 10 fun K hK => ?_
 go_simp
 refine hK.out _ _ (fun h => absurd h (by decide)) ?_
 clear hK K
 try simp only [zA,zB,zC,Act.put,zD,zE,zF]
 refine bf (by kernel_rfl) ?_
 go_wp2_with fail
 go_ret
 refine ⟨?_,chain hbW hb1⟩
 rw [← HA.out]
 simp [txt,qJ,sG,HTc.out]

theorem write_4 (m : Nat) (ih : ∀ (t : Ty) (v : Value) (w : World),parts t ≤ m → parts t ≤ 60 → ny w v t → Good t → oN w → au 67 t v w)
  (c d : Ty) (v : Value) (w : World) (hmc : parts c ≤ m) (h60c : parts c ≤ 60) (hgc : Good c) (hmd : parts d ≤ m) (h60d : parts d ≤ 60) (hgd : Good d) (hv : ny w v (.mk 4 0 [] [] [c,d])) (hsw : oN w)  : au 67 (.mk 4 0 [] [] [c,d]) v w:=by
 unfold au
 obtain ⟨lv,kv,rfl,hs1,hs2⟩:=hv
 simp only [Ty.kind,Ty.sort,Ty.name,Ty.labels,Ty.kids] at hs1 hs2 ⊢
 obtain ⟨A0,p0,rfl,-,-⟩:=hs1
 have HK:=zH hs2
 obtain ⟨A,cap,rfl,-,-⟩:=hs2
 simp only [List.length_nil,List.length_cons] at HK ⊢
 have E5:=zH hsw
 clear hsw
 obtain ⟨-,-,b,off,cA,cn,cp,cB,cm,cq,rfl,c0,c1,c2,c3,c4,hl',hk'⟩:=nT (i:=0) (t:=c) HK.out rfl
 simp only [Nat.zero_mul,Nat.one_mul,Nat.add_zero] at c0 c1 c2 c3 c4
 have Gx:=zH hl'; have Gw:=zH hk'; clear hl' hk'
 have hlc : (txt c).length ≤ 6000:=by have:=lH c hgc; omega
 obtain ⟨Tc,hTc⟩ : ∃ y,txt c = y:=⟨_,rfl⟩
 have HTc:=zH hTc
 rw [hTc] at hlc
 clear hTc
 obtain ⟨-,-,b2,JF,dA,dn,dp,dB,dm,dq,eA,d0,d1,d2,d3,d4,hl',hk'⟩:=nT (i:=1) (t:=d) HK.out rfl
 cases eA
 simp only [Nat.zero_mul,Nat.one_mul,Nat.add_zero] at d0 d1 d2 d3 d4
 have NS:=zH hl'; have NR:=zH hk'; clear hl' hk'
 have hld : (txt d).length ≤ 6000:=by have:=lH d hgd; omega
 obtain ⟨Td,hTd⟩ : ∃ y,txt d = y:=⟨_,rfl⟩
 have Jc:=zH hTd
 rw [hTd] at hld
 clear hTd
 obtain ⟨ANS,hA⟩ : ∃ x,txt (.mk 4 0 [] [] [c,d]) = x:=⟨_,rfl⟩
 have HA:=zH hA; rw [hA]; clear hA
 go_enter Tryz.func67,Tryz.ntmps67
 go_wp2_with fail
 obtain ⟨W,hW⟩ : ∃ W,w.alloc (.cells #[.int .i64 4,.int .i64 0,.string ⟨#[]⟩,.slice A0 0 p0,.slice (some ⟨b,off,none⟩) 2 cap] 30) = W:=⟨_,rfl⟩
 have hbW : Below w.heap.size w W:=by subst hW; go_grown
 have x4 : W.cell? ⟨w.heap.size,4,none⟩ = some (.slice (some ⟨b,off,none⟩) 2 cap):=by subst hW; simp [go_sem]
 try rw [hW]
 clear hW
 have GM:=ae c0 hbW; have GN:=ae c1 hbW; have GR:=ae c2 hbW; have GU:=ae c3 hbW; have GV:=ae c4 hbW
 have Oh:=ae d0 hbW; have Oi:=ae d1 hbW; have Oj:=ae d2 hbW; have Ol:=ae d3 hbW; have Om:=ae d4 hbW
 have hS : ∀ w' : World,Below W.heap.size W w' → (fun w' : World => w'.cell? ⟨w.heap.size,4,none⟩ = some (.slice (some ⟨b,off,none⟩) 2 cap) ∧ w'.cell? ⟨b,off,none⟩ = some (.int .i64 c.kind) ∧ w'.cell? ⟨b,off + 1,none⟩ = some (.int .i64 c.sort) ∧ w'.cell? ⟨b,off + 2,none⟩ = some (.string ⟨c.name.toArray⟩) ∧ w'.cell? ⟨b,off + 3,none⟩ = some (.slice cA cn cp) ∧ w'.cell? ⟨b,off + 4,none⟩ = some (.slice cB cm cq) ∧ w'.cell? ⟨b,off + 5,none⟩ = some (.int .i64 d.kind) ∧ w'.cell? ⟨b,off + 5 + 1,none⟩ = some (.int .i64 d.sort) ∧ w'.cell? ⟨b,off + 5 + 2,none⟩ = some (.string ⟨d.name.toArray⟩) ∧ w'.cell? ⟨b,off + 5 + 3,none⟩ = some (.slice dA dn dp) ∧ w'.cell? ⟨b,off + 5 + 4,none⟩ = some (.slice dB dm dq)) w':=fun w' h => ⟨ae x4 h,ae GM h,ae GN h,ae GR h,ae GU h,ae GV h,ae Oh h,ae Oi h,ae Oj h,ae Ol h,ae Om h⟩
 have bC:=zH (hS W.drew (Below.refl _ _).drew)
 have jE:=zH hS; clear hS
 refine aC 13 (fun w' : World => w'.cell? ⟨w.heap.size,4,none⟩ = some (.slice (some ⟨b,off,none⟩) 2 cap) ∧ w'.cell? ⟨b,off,none⟩ = some (.int .i64 c.kind) ∧ w'.cell? ⟨b,off + 1,none⟩ = some (.int .i64 c.sort) ∧ w'.cell? ⟨b,off + 2,none⟩ = some (.string ⟨c.name.toArray⟩) ∧ w'.cell? ⟨b,off + 3,none⟩ = some (.slice cA cn cp) ∧ w'.cell? ⟨b,off + 4,none⟩ = some (.slice cB cm cq) ∧ w'.cell? ⟨b,off + 5,none⟩ = some (.int .i64 d.kind) ∧ w'.cell? ⟨b,off + 5 + 1,none⟩ = some (.int .i64 d.sort) ∧ w'.cell? ⟨b,off + 5 + 2,none⟩ = some (.string ⟨d.name.toArray⟩) ∧ w'.cell? ⟨b,off + 5 + 3,none⟩ = some (.slice dA dn dp) ∧ w'.cell? ⟨b,off + 5 + 4,none⟩ = some (.slice dB dm dq)) (by kernel_rfl) ?_
 refine zT 0 ?_ rfl (Or.inl ⟨by rfl,?_⟩) bC.out ?_
 rotate_left
 ·(intro wq hSw; obtain ⟨_,_,_,_,_,_,_,_,_,_,_⟩:=hSw; go_simp; all_goals first | with_reducible rfl | rw [zI])
 simp only [zA,zB,zC,Act.put,zD,zE,zF]
 refine zT 1 ?_ rfl (Or.inl ⟨by rfl,?_⟩) bC.out ?_
 rotate_left
 ·(intro wq hSw; obtain ⟨_,_,_,_,_,_,_,_,_,_,_⟩:=hSw; go_simp; all_goals first | with_reducible rfl | rw [zI])
 simp only [zA,zB,zC,Act.put,zD,zE,zF]
 refine zT 2 ?_ rfl (Or.inl ⟨by rfl,?_⟩) bC.out ?_
 rotate_left
 ·(intro wq hSw; obtain ⟨_,_,_,_,_,_,_,_,_,_,_⟩:=hSw; go_simp; all_goals first | with_reducible rfl | rw [zI])
 simp only [zA,zB,zC,Act.put,zD,zE,zF]
 refine zT 3 ?_ rfl (Or.inl ⟨by rfl,?_⟩) bC.out ?_
 rotate_left
 ·(intro wq hSw; obtain ⟨_,_,_,_,_,_,_,_,_,_,_⟩:=hSw; go_simp; all_goals first | with_reducible rfl | rw [zI])
 simp only [zA,zB,zC,Act.put,zD,zE,zF]
 refine zT 7 ?_ rfl (Or.inl ⟨by rfl,?_⟩) bC.out ?_
 rotate_left
 ·(intro wq hSw; obtain ⟨_,_,_,_,_,_,_,_,_,_,_⟩:=hSw; go_simp; all_goals first | with_reducible rfl | rw [zI])
 simp only [zA,zB,zC,Act.put,zD,zE,zF]
 refine zT 8 ?_ rfl (Or.inl ⟨by rfl,?_⟩) bC.out ?_
 rotate_left
 ·(intro wq hSw; obtain ⟨_,_,_,_,_,_,_,_,_,_,_⟩:=hSw; go_simp; all_goals first | with_reducible rfl | rw [zI])
 simp only [zA,zB,zC,Act.put,zD,zE,zF]
 refine zT 9 ?_ rfl (Or.inl ⟨by rfl,?_⟩) bC.out ?_
 rotate_left
 ·(intro wq hSw; obtain ⟨_,_,_,_,_,_,_,_,_,_,_⟩:=hSw; go_simp; all_goals first | with_reducible rfl | rw [zI])
 simp only [zA,zB,zC,Act.put,zD,zE,zF]
 refine zT 10 ?_ rfl (Or.inl ⟨by rfl,?_⟩) bC.out ?_
 rotate_left
 ·(intro wq hSw; obtain ⟨_,_,_,_,_,_,_,_,_,_,_⟩:=hSw; go_simp; all_goals first | with_reducible rfl | rw [zI])
 simp only [zA,zB,zC,Act.put,zD,zE,zF]
 refine zO 4 fun K hK => ?_
 go_simp
 have hcall:=ih c (.agg #[.int .i64 c.kind,.int .i64 c.sort,.string ⟨c.name.toArray⟩,.slice cA cn cp,.slice cB cm cq]) W.drew hmc h60c (mJ ((Gx.out.keep hbW).keep (Below.refl W.heap.size W).drew) ((Gw.out.keep hbW).keep (Below.refl W.heap.size W).drew)) hgc ((E5.out.keep hbW).keep (Below.refl W.heap.size W).drew)
 unfold au at hcall
 refine hcall.mono ?_; clear hcall; rw [HTc.out]; rintro e w1 ⟨rfl,hq⟩
 have hb1:=chain (Below.refl W.heap.size W).drew hq
 clear hq
 refine hK.out _ _ (fun _ => jE.out _ hb1) ?_
 clear hK K
 try simp only [zA,zB,zC,Act.put,zD,zE,zF]
 refine zT 5 ?_ rfl (Or.inl ⟨by rfl,?_⟩) (jE.out _ hb1) ?_
 rotate_left
 ·(intro wq hSw; obtain ⟨_,_,_,_,_,_,_,_,_,_,_⟩:=hSw; go_simp; all_goals first | with_reducible rfl | rw [zI])
 simp only [zA,zB,zC,Act.put,zD,zE,zF]
 refine zT 6 ?_ rfl (Or.inl ⟨by rfl,?_⟩) (jE.out _ hb1) ?_
 rotate_left
 ·(intro wq hSw; obtain ⟨_,_,_,_,_,_,_,_,_,_,_⟩:=hSw; go_simp; all_goals first | with_reducible rfl | rw [zI])
 simp only [zA,zB,zC,Act.put,zD,zE,zF]
 refine zO 11 fun K hK => ?_
 go_simp
 have hcall:=ih d (.agg #[.int .i64 d.kind,.int .i64 d.sort,.string ⟨d.name.toArray⟩,.slice dA dn dp,.slice dB dm dq]) w1 hmd h60d (mJ ((NS.out.keep hbW).keep hb1) ((NR.out.keep hbW).keep hb1)) hgd ((E5.out.keep hbW).keep hb1)
 unfold au at hcall
 refine hcall.mono ?_; clear hcall; rw [Jc.out]; rintro e w2 ⟨rfl,hq⟩
 have hb2:=chain hb1 hq
 clear hq
 refine hK.out _ _ (fun _ => jE.out _ hb2) ?_
 clear hK K
 try simp only [zA,zB,zC,Act.put,zD,zE,zF]
 refine zT 12 ?_ rfl (Or.inl ⟨by rfl,?_⟩) (jE.out _ hb2) ?_
 rotate_left
 ·(intro wq hSw; obtain ⟨_,_,_,_,_,_,_,_,_,_,_⟩:=hSw; go_simp; all_goals first | with_reducible rfl | rw [zI])
 simp only [zA,zB,zC,Act.put,zD,zE,zF]
 refine zO 13 fun K hK => ?_
 go_simp
 refine hK.out _ _ (fun h => absurd h (by decide)) ?_
 clear hK K
 try simp only [zA,zB,zC,Act.put,zD,zE,zF]
 refine bf (by kernel_rfl) ?_
 go_wp2_with fail
 go_ret
 refine ⟨?_,chain hbW hb2⟩
 rw [← HA.out]
 simp [txt,qJ,sG,HTc.out,Jc.out]

theorem write_5 (m : Nat) (ih : ∀ (t : Ty) (v : Value) (w : World),parts t ≤ m → parts t ≤ 60 → ny w v t → Good t → oN w → au 67 t v w)
  (c d : Ty) (v : Value) (w : World) (hmc : parts c ≤ m) (h60c : parts c ≤ 60) (hgc : Good c) (hmd : parts d ≤ m) (h60d : parts d ≤ 60) (hgd : Good d) (hv : ny w v (.mk 5 0 [] [] [c,d])) (hsw : oN w)  : au 67 (.mk 5 0 [] [] [c,d]) v w:=by
 unfold au
 obtain ⟨lv,kv,rfl,hs1,hs2⟩:=hv
 simp only [Ty.kind,Ty.sort,Ty.name,Ty.labels,Ty.kids] at hs1 hs2 ⊢
 obtain ⟨A0,p0,rfl,-,-⟩:=hs1
 have HK:=zH hs2
 obtain ⟨A,cap,rfl,-,-⟩:=hs2
 simp only [List.length_nil,List.length_cons] at HK ⊢
 have E5:=zH hsw
 clear hsw
 obtain ⟨-,-,b,off,cA,cn,cp,cB,cm,cq,rfl,c0,c1,c2,c3,c4,hl',hk'⟩:=nT (i:=0) (t:=c) HK.out rfl
 simp only [Nat.zero_mul,Nat.one_mul,Nat.add_zero] at c0 c1 c2 c3 c4
 have Gx:=zH hl'; have Gw:=zH hk'; clear hl' hk'
 have hlc : (txt c).length ≤ 6000:=by have:=lH c hgc; omega
 obtain ⟨Tc,hTc⟩ : ∃ y,txt c = y:=⟨_,rfl⟩
 have HTc:=zH hTc
 rw [hTc] at hlc
 clear hTc
 obtain ⟨-,-,b2,JF,dA,dn,dp,dB,dm,dq,eA,d0,d1,d2,d3,d4,hl',hk'⟩:=nT (i:=1) (t:=d) HK.out rfl
 cases eA
 simp only [Nat.zero_mul,Nat.one_mul,Nat.add_zero] at d0 d1 d2 d3 d4
 have NS:=zH hl'; have NR:=zH hk'; clear hl' hk'
 have hld : (txt d).length ≤ 6000:=by have:=lH d hgd; omega
 obtain ⟨Td,hTd⟩ : ∃ y,txt d = y:=⟨_,rfl⟩
 have Jc:=zH hTd
 rw [hTd] at hld
 clear hTd
 obtain ⟨ANS,hA⟩ : ∃ x,txt (.mk 5 0 [] [] [c,d]) = x:=⟨_,rfl⟩
 have HA:=zH hA; rw [hA]; clear hA
 go_enter Tryz.func67,Tryz.ntmps67
 go_wp2_with fail
 obtain ⟨W,hW⟩ : ∃ W,w.alloc (.cells #[.int .i64 5,.int .i64 0,.string ⟨#[]⟩,.slice A0 0 p0,.slice (some ⟨b,off,none⟩) 2 cap] 30) = W:=⟨_,rfl⟩
 have hbW : Below w.heap.size w W:=by subst hW; go_grown
 have x4 : W.cell? ⟨w.heap.size,4,none⟩ = some (.slice (some ⟨b,off,none⟩) 2 cap):=by subst hW; simp [go_sem]
 try rw [hW]
 clear hW
 have GM:=ae c0 hbW; have GN:=ae c1 hbW; have GR:=ae c2 hbW; have GU:=ae c3 hbW; have GV:=ae c4 hbW
 have Oh:=ae d0 hbW; have Oi:=ae d1 hbW; have Oj:=ae d2 hbW; have Ol:=ae d3 hbW; have Om:=ae d4 hbW
 have hS : ∀ w' : World,Below W.heap.size W w' → (fun w' : World => w'.cell? ⟨w.heap.size,4,none⟩ = some (.slice (some ⟨b,off,none⟩) 2 cap) ∧ w'.cell? ⟨b,off,none⟩ = some (.int .i64 c.kind) ∧ w'.cell? ⟨b,off + 1,none⟩ = some (.int .i64 c.sort) ∧ w'.cell? ⟨b,off + 2,none⟩ = some (.string ⟨c.name.toArray⟩) ∧ w'.cell? ⟨b,off + 3,none⟩ = some (.slice cA cn cp) ∧ w'.cell? ⟨b,off + 4,none⟩ = some (.slice cB cm cq) ∧ w'.cell? ⟨b,off + 5,none⟩ = some (.int .i64 d.kind) ∧ w'.cell? ⟨b,off + 5 + 1,none⟩ = some (.int .i64 d.sort) ∧ w'.cell? ⟨b,off + 5 + 2,none⟩ = some (.string ⟨d.name.toArray⟩) ∧ w'.cell? ⟨b,off + 5 + 3,none⟩ = some (.slice dA dn dp) ∧ w'.cell? ⟨b,off + 5 + 4,none⟩ = some (.slice dB dm dq)) w':=fun w' h => ⟨ae x4 h,ae GM h,ae GN h,ae GR h,ae GU h,ae GV h,ae Oh h,ae Oi h,ae Oj h,ae Ol h,ae Om h⟩
 have bC:=zH (hS W.drew (Below.refl _ _).drew)
 have jE:=zH hS; clear hS
 refine aC 13 (fun w' : World => w'.cell? ⟨w.heap.size,4,none⟩ = some (.slice (some ⟨b,off,none⟩) 2 cap) ∧ w'.cell? ⟨b,off,none⟩ = some (.int .i64 c.kind) ∧ w'.cell? ⟨b,off + 1,none⟩ = some (.int .i64 c.sort) ∧ w'.cell? ⟨b,off + 2,none⟩ = some (.string ⟨c.name.toArray⟩) ∧ w'.cell? ⟨b,off + 3,none⟩ = some (.slice cA cn cp) ∧ w'.cell? ⟨b,off + 4,none⟩ = some (.slice cB cm cq) ∧ w'.cell? ⟨b,off + 5,none⟩ = some (.int .i64 d.kind) ∧ w'.cell? ⟨b,off + 5 + 1,none⟩ = some (.int .i64 d.sort) ∧ w'.cell? ⟨b,off + 5 + 2,none⟩ = some (.string ⟨d.name.toArray⟩) ∧ w'.cell? ⟨b,off + 5 + 3,none⟩ = some (.slice dA dn dp) ∧ w'.cell? ⟨b,off + 5 + 4,none⟩ = some (.slice dB dm dq)) (by kernel_rfl) ?_
 refine zT 0 ?_ rfl (Or.inl ⟨by rfl,?_⟩) bC.out ?_
 rotate_left
 ·(intro wq hSw; obtain ⟨_,_,_,_,_,_,_,_,_,_,_⟩:=hSw; go_simp; all_goals first | with_reducible rfl | rw [zI])
 simp only [zA,zB,zC,Act.put,zD,zE,zF]
 refine zT 1 ?_ rfl (Or.inl ⟨by rfl,?_⟩) bC.out ?_
 rotate_left
 ·(intro wq hSw; obtain ⟨_,_,_,_,_,_,_,_,_,_,_⟩:=hSw; go_simp; all_goals first | with_reducible rfl | rw [zI])
 simp only [zA,zB,zC,Act.put,zD,zE,zF]
 refine zT 2 ?_ rfl (Or.inl ⟨by rfl,?_⟩) bC.out ?_
 rotate_left
 ·(intro wq hSw; obtain ⟨_,_,_,_,_,_,_,_,_,_,_⟩:=hSw; go_simp; all_goals first | with_reducible rfl | rw [zI])
 simp only [zA,zB,zC,Act.put,zD,zE,zF]
 refine zT 3 ?_ rfl (Or.inl ⟨by rfl,?_⟩) bC.out ?_
 rotate_left
 ·(intro wq hSw; obtain ⟨_,_,_,_,_,_,_,_,_,_,_⟩:=hSw; go_simp; all_goals first | with_reducible rfl | rw [zI])
 simp only [zA,zB,zC,Act.put,zD,zE,zF]
 refine zT 7 ?_ rfl (Or.inl ⟨by rfl,?_⟩) bC.out ?_
 rotate_left
 ·(intro wq hSw; obtain ⟨_,_,_,_,_,_,_,_,_,_,_⟩:=hSw; go_simp; all_goals first | with_reducible rfl | rw [zI])
 simp only [zA,zB,zC,Act.put,zD,zE,zF]
 refine zT 8 ?_ rfl (Or.inl ⟨by rfl,?_⟩) bC.out ?_
 rotate_left
 ·(intro wq hSw; obtain ⟨_,_,_,_,_,_,_,_,_,_,_⟩:=hSw; go_simp; all_goals first | with_reducible rfl | rw [zI])
 simp only [zA,zB,zC,Act.put,zD,zE,zF]
 refine zT 9 ?_ rfl (Or.inl ⟨by rfl,?_⟩) bC.out ?_
 rotate_left
 ·(intro wq hSw; obtain ⟨_,_,_,_,_,_,_,_,_,_,_⟩:=hSw; go_simp; all_goals first | with_reducible rfl | rw [zI])
 simp only [zA,zB,zC,Act.put,zD,zE,zF]
 refine zT 10 ?_ rfl (Or.inl ⟨by rfl,?_⟩) bC.out ?_
 rotate_left
 ·(intro wq hSw; obtain ⟨_,_,_,_,_,_,_,_,_,_,_⟩:=hSw; go_simp; all_goals first | with_reducible rfl | rw [zI])
 simp only [zA,zB,zC,Act.put,zD,zE,zF]
 refine zO 4 fun K hK => ?_
 go_simp
 have hcall:=ih c (.agg #[.int .i64 c.kind,.int .i64 c.sort,.string ⟨c.name.toArray⟩,.slice cA cn cp,.slice cB cm cq]) W.drew hmc h60c (mJ ((Gx.out.keep hbW).keep (Below.refl W.heap.size W).drew) ((Gw.out.keep hbW).keep (Below.refl W.heap.size W).drew)) hgc ((E5.out.keep hbW).keep (Below.refl W.heap.size W).drew)
 unfold au at hcall
 refine hcall.mono ?_; clear hcall; rw [HTc.out]; rintro e w1 ⟨rfl,hq⟩
 have hb1:=chain (Below.refl W.heap.size W).drew hq
 clear hq
 refine hK.out _ _ (fun _ => jE.out _ hb1) ?_
 clear hK K
 try simp only [zA,zB,zC,Act.put,zD,zE,zF]
 refine zT 5 ?_ rfl (Or.inl ⟨by rfl,?_⟩) (jE.out _ hb1) ?_
 rotate_left
 ·(intro wq hSw; obtain ⟨_,_,_,_,_,_,_,_,_,_,_⟩:=hSw; go_simp; all_goals first | with_reducible rfl | rw [zI])
 simp only [zA,zB,zC,Act.put,zD,zE,zF]
 refine zT 6 ?_ rfl (Or.inl ⟨by rfl,?_⟩) (jE.out _ hb1) ?_
 rotate_left
 ·(intro wq hSw; obtain ⟨_,_,_,_,_,_,_,_,_,_,_⟩:=hSw; go_simp; all_goals first | with_reducible rfl | rw [zI])
 simp only [zA,zB,zC,Act.put,zD,zE,zF]
 refine zO 11 fun K hK => ?_
 go_simp
 have hcall:=ih d (.agg #[.int .i64 d.kind,.int .i64 d.sort,.string ⟨d.name.toArray⟩,.slice dA dn dp,.slice dB dm dq]) w1 hmd h60d (mJ ((NS.out.keep hbW).keep hb1) ((NR.out.keep hbW).keep hb1)) hgd ((E5.out.keep hbW).keep hb1)
 unfold au at hcall
 refine hcall.mono ?_; clear hcall; rw [Jc.out]; rintro e w2 ⟨rfl,hq⟩
 have hb2:=chain hb1 hq
 clear hq
 refine hK.out _ _ (fun _ => jE.out _ hb2) ?_
 clear hK K
 try simp only [zA,zB,zC,Act.put,zD,zE,zF]
 refine zT 12 ?_ rfl (Or.inl ⟨by rfl,?_⟩) (jE.out _ hb2) ?_
 rotate_left
 ·(intro wq hSw; obtain ⟨_,_,_,_,_,_,_,_,_,_,_⟩:=hSw; go_simp; all_goals first | with_reducible rfl | rw [zI])
 simp only [zA,zB,zC,Act.put,zD,zE,zF]
 refine zO 13 fun K hK => ?_
 go_simp
 refine hK.out _ _ (fun h => absurd h (by decide)) ?_
 clear hK K
 try simp only [zA,zB,zC,Act.put,zD,zE,zF]
 refine bf (by kernel_rfl) ?_
 go_wp2_with fail
 go_ret
 refine ⟨?_,chain hbW hb2⟩
 rw [← HA.out]
 simp [txt,qJ,sG,HTc.out,Jc.out]

theorem write_1 (m : Nat) (ih : ∀ (t : Ty) (v : Value) (w : World),parts t ≤ m → parts t ≤ 60 → ny w v t → Good t → oN w → au 67 t v w)
     (v : Value) (w : World)  (hv : ny w v (.mk 1 0 [] [] [])) (hsw : oN w)  : au 67 (.mk 1 0 [] [] []) v w:=by
  unfold au
  obtain ⟨lv,kv,rfl,hs1,hs2⟩:=hv
  simp only [Ty.kind,Ty.sort,Ty.name,Ty.labels,Ty.kids] at hs1 hs2 ⊢
  obtain ⟨A0,p0,rfl,-,-⟩:=hs1
  have HK:=zH hs2
  obtain ⟨A,cap,rfl,-,-⟩:=hs2
  simp only [List.length_nil,List.length_cons] at HK ⊢
  have E5:=zH hsw
  clear hsw
  obtain ⟨ANS,hA⟩ : ∃ x,txt (.mk 1 0 [] [] []) = x:=⟨_,rfl⟩
  have HA:=zH hA; rw [hA]; clear hA
  go_enter Tryz.func67,Tryz.ntmps67
  go_wp2_with fail
  go_ret
  refine ⟨?_,by go_grown⟩
  rw [← HA.out]
  simp [txt,qJ]

theorem write_9 (m : Nat) (ih : ∀ (t : Ty) (v : Value) (w : World),parts t ≤ m → parts t ≤ 60 → ny w v t → Good t → oN w → au 67 t v w)
  (n : Str) (v : Value) (w : World)  (hv : ny w v (.mk 9 0 n [] [])) (hsw : oN w)  : au 67 (.mk 9 0 n [] []) v w:=by
 unfold au
 obtain ⟨lv,kv,rfl,hs1,hs2⟩:=hv
 simp only [Ty.kind,Ty.sort,Ty.name,Ty.labels,Ty.kids] at hs1 hs2 ⊢
 obtain ⟨A0,p0,rfl,-,-⟩:=hs1
 have HK:=zH hs2
 obtain ⟨A,cap,rfl,-,-⟩:=hs2
 simp only [List.length_nil,List.length_cons] at HK ⊢
 have E5:=zH hsw
 clear hsw
 obtain ⟨ANS,hA⟩ : ∃ x,txt (.mk 9 0 n [] []) = x:=⟨_,rfl⟩
 have HA:=zH hA; rw [hA]; clear hA
 go_enter Tryz.func67,Tryz.ntmps67
 go_wp2_with fail
 go_ret
 refine ⟨?_,by go_grown⟩
 rw [← HA.out]
 simp [txt,qJ]
theorem zM : ∀ (l : List Str),Lib.join l [44] = joined l
 | [] => by simp [Lib.join,joined,List.intercalate]
 | [a] => by simp [Lib.join,joined,List.intercalate]
 | a :: b :: r => by
  have:=zM (b :: r)
  simp only [Lib.join,List.intercalate,joined] at this ⊢
  rw [← this]
  simp [List.intersperse]

theorem write_6 (m : Nat) (ih : ∀ (t : Ty) (v : Value) (w : World),parts t ≤ m → parts t ≤ 60 → ny w v t → Good t → oN w → au 67 t v w)
  (ls : List Str) (ks : List Ty) (v : Value) (w : World) (hks : ∀ c ∈ ks,parts c ≤ m ∧ parts c ≤ 60 ∧ Good c) (hl6 : ls.length ≤ 6) (hl1 : 1 ≤ ls.length) (hls : ∀ l ∈ ls,l.length ≤ 8) (hlen : ks.length = ls.length) (hv : ny w v (.mk 6 0 [] ls ks)) (hsw : oN w) : au 67 (.mk 6 0 [] ls ks) v w:=by
 unfold au
 obtain ⟨lv,kv,rfl,hs1,hs2⟩:=hv
 simp only [Ty.kind,Ty.sort,Ty.name,Ty.labels,Ty.kids] at hs1 hs2 ⊢
 have Gl:=zH hs1
 obtain ⟨A0,p0,rfl,-,-⟩:=hs1
 have HK:=zH hs2
 obtain ⟨A,cap,rfl,-,-⟩:=hs2
 have E5:=zH hsw; clear hsw
 obtain ⟨P,hP⟩ : ∃ x,pairs ls (sG ks) = x:=⟨_,rfl⟩
 have hPl : P.length = ls.length:=by rw [← hP,rJ (by rw [uJ,hlen])]
 have Iw : ∀ x ∈ P,x.length ≤ 6009:=by
  rw [← hP]
  refine xP hls fun t ht => ?_
  obtain ⟨c,hc,rfl⟩:=xW ht
  have h1:=lH c (hks c hc).2.2
  have h2:=(hks c hc).2.1
  omega
 have hjl : (joined P).length ≤ 40000:=by
  have h1:=zy (sg:=43) Iw (k:=P.length) (Nat.le_refl _)
  unfold grow at h1
  rw [if_neg (by omega),List.take_length] at h1
  simp only [zG,zJ,zK] at h1
  omega
 have hans : txt (.mk 6 0 [] ls ks) = [43,123] ++ joined P ++ [125]:=by
  rw [← hP]
  simp [txt,qJ]
 rw [hans]
 clear hans
 have PQ:=zH Iw; have NZ:=zH hP; have zZ:=zH hks; have Gj:=zH hls
 obtain ⟨L,hL⟩ : ∃ x,ls.length = x:=⟨_,rfl⟩
 have Bl:=zH hL; have HL2:=zH (hlen.trans hL); have Hq:=zH (hPl.trans hL)
 rw [hlen] at HK ⊢
 rw [hL] at HK Gl hl6 hl1 ⊢
 clear hL hlen hPl Iw hP hks hls
 go_enter Tryz.func67,Tryz.ntmps67
 go_wp2_with fail
 obtain ⟨W,hW⟩ : ∃ W,w.alloc (.cells #[.int .i64 6,.int .i64 0,.string ⟨#[]⟩,.slice A0 L p0,.slice A L cap] 30) = W:=⟨_,rfl⟩
 have hbW : Below w.heap.size w W:=by subst hW; go_grown
 have hWs : W.heap.size = w.heap.size + 1:=by subst hW; simp
 have X0 : W.cell? ⟨w.heap.size,0,none⟩ = some (.int .i64 6):=by subst hW; simp [go_sem]
 have X3 : W.cell? ⟨w.heap.size,3,none⟩ = some (.slice A0 L p0):=by subst hW; simp [go_sem]
 try rw [hW]
 clear hW
 obtain ⟨N,hN⟩ : ∃ x,W.heap.size = x:=⟨_,rfl⟩
 go_loopw [3,90] (fun lv i wr => ∃ k : Nat,k ≤ L ∧ i = .int .i64 k ∧ wr.ownsRow N 9 1 lv k ((P.take k).map fun s => .string ⟨s.toArray⟩) ∧ Below N W wr) (fun _ i _ => L - (intOf i).toNat)
 case atStart => exact ⟨0,by omega,rfl,World.ownsRow_nil _ _ _ _,Below.refl _ _⟩
 case round =>
  obtain ⟨k,hk,rfl,hown,hbN⟩:=hrel
  have hbr : Below W.heap.size W wr:=by rw [hN]; exact hbN
  have MC : N ≤ wr.heap.size:=by rw [← hN]; exact hbr.size
  have x3:=ae X3 hbr
  have x0:=ae X0 hbr
  obtain ⟨Av,wL,rfl⟩:=bg hown
  by_cases hlt : k < L
  ·obtain ⟨c,hc⟩ : ∃ x,ks[k]? = some x:=⟨_,List.getElem?_eq_getElem (by rw [HL2.out]; exact hlt)⟩
   obtain ⟨l,hl⟩ : ∃ x,ls[k]? = some x:=⟨_,List.getElem?_eq_getElem (by rw [Bl.out]; exact hlt)⟩
   have HC:=zH hc; have Io:=zH hl
   obtain ⟨-,-,b,off,A1,n1,p1,A2,n2,p2,rfl,c0,c1,c2,c3,c4,hl',hk'⟩:=nT ((HK.out.keep hbW).keep hbr) hc
   obtain ⟨lA,lp,el,hlc,hlr⟩:=(Gl.out.keep hbW).keep hbr
   obtain ⟨lb,vH,rfl,wB⟩:=hlr (by rw [Bl.out]; omega)
   injection el with el1 el2 el3
   subst el1 el3
   clear el2
   have GK:=wB k l hl
   have vT:=zH hl'; have rP:=zH hk'; clear hl' hk' hc hl
   have hcm:=zZ.out c (az HC.out)
   have hll:=Gj.out l (az Io.out)
   have htl : (txt c).length ≤ 6000:=by have h1:=lH c hcm.2.2; have h2:=hcm.2.1; omega
   have CV : P[k]? = some (l ++ [58] ++ txt c):=by rw [← NZ.out]; exact xO Io.out (zW HC.out)
   obtain ⟨T,hT⟩ : ∃ y,txt c = y:=⟨_,rfl⟩
   have HT:=zH hT
   rw [hT] at htl CV
   have Tu:=zH CV
   clear hT CV
   have OG : lb < N:=by
    obtain ⟨_,_,e,_,hr⟩:=Gl.out.keep hbW
    obtain ⟨b2,o2,e2,hrow2⟩:=hr (by rw [Bl.out]; omega)
    injection e with e1
    rw [e2] at e1
    obtain rfl : lb = b2:=by injection e1 with e1; injection e1
    rw [← hN]
    exact cell_lt (hrow2 k l Io.out)
   obtain ⟨wa,mQ⟩ : ∃ y,wr.alloc (.cells #[.int .i64 c.kind,.int .i64 c.sort,.string ⟨c.name.toArray⟩,.slice A1 n1 p1,.slice A2 n2 p2] 30) = y:=⟨_,rfl⟩
   have hba : Below wr.heap.size wr wa:=by subst mQ; exact (Below.refl _ _).alloc (Nat.le_refl _) _
   have hsa : wa.heap.size = wr.heap.size + 1:=by subst mQ; simp
   have hkb : pz wa wr.heap.size c (.slice A1 n1 p1) (.slice A2 n2 p2):=by subst mQ; exact ⟨by simp [go_sem],by simp [go_sem],by simp [go_sem],by simp [go_sem],by simp [go_sem],fun j => by simp [go_sem],by simp⟩
   obtain ⟨k0,k1,k2,k3,k4,k5,k6⟩:=id hkb
   have hBN : w.heap.size < N:=by omega
   have hS : ∀ w' : World,Same (fun b => b < N ∨ b = wr.heap.size) wa w' → (fun w' : World => w'.cell? ⟨w.heap.size,3,none⟩ = some (.slice (some ⟨lb,vH,none⟩) L p0) ∧ w'.cell? ⟨lb,vH + k,none⟩ = some (.string ⟨l.toArray⟩) ∧ w'.cell? ⟨wr.heap.size,0,none⟩ = some (.int .i64 c.kind) ∧ w'.cell? ⟨wr.heap.size,1,none⟩ = some (.int .i64 c.sort) ∧ w'.cell? ⟨wr.heap.size,2,none⟩ = some (.string ⟨c.name.toArray⟩) ∧ w'.cell? ⟨wr.heap.size,3,none⟩ = some (.slice A1 n1 p1) ∧ w'.cell? ⟨wr.heap.size,4,none⟩ = some (.slice A2 n2 p2)) w':=fun w' h => ⟨h.cell (by first | (left; omega) | (right; rfl)) (ae x3 hba),h.cell (by first | (left; omega) | (right; rfl)) (ae GK hba),h.cell (by first | (left; omega) | (right; rfl)) k0,h.cell (by first | (left; omega) | (right; rfl)) k1,h.cell (by first | (left; omega) | (right; rfl)) k2,h.cell (by first | (left; omega) | (right; rfl)) k3,h.cell (by first | (left; omega) | (right; rfl)) k4⟩
   have bC:=zH (hS wa.drew (fun _ _ _ => rfl))
   have jE:=zH hS; clear hS
   have hne : ∀ q,q < N ∨ q = wr.heap.size → some q ≠ (Value.slice Av k wL).ownBlock:=fun q hq e => by
    obtain ⟨h1,h2⟩:=hown.lt q e.symm
    omega
   go_wp2_with fail
   try rw [mQ]
   clear mQ
   refine aC 12 (fun w' : World => w'.cell? ⟨w.heap.size,3,none⟩ = some (.slice (some ⟨lb,vH,none⟩) L p0) ∧ w'.cell? ⟨lb,vH + k,none⟩ = some (.string ⟨l.toArray⟩) ∧ w'.cell? ⟨wr.heap.size,0,none⟩ = some (.int .i64 c.kind) ∧ w'.cell? ⟨wr.heap.size,1,none⟩ = some (.int .i64 c.sort) ∧ w'.cell? ⟨wr.heap.size,2,none⟩ = some (.string ⟨c.name.toArray⟩) ∧ w'.cell? ⟨wr.heap.size,3,none⟩ = some (.slice A1 n1 p1) ∧ w'.cell? ⟨wr.heap.size,4,none⟩ = some (.slice A2 n2 p2)) (by kernel_rfl) ?_
   refine zT 0 ?_ rfl (Or.inl ⟨by rfl,?_⟩) bC.out ?_
   rotate_left
   ·(intro wq hSw; obtain ⟨_,_,_,_,_,_,_⟩:=hSw; go_simp; all_goals first | with_reducible rfl | rw [zI])
   simp only [zA,zB,zC,Act.put,zD,zE,zF]
   refine zT 1 ?_ rfl (Or.inl ⟨by rfl,?_⟩) bC.out ?_
   rotate_left
   ·(intro wq hSw; obtain ⟨_,_,_,_,_,_,_⟩:=hSw; go_simp; all_goals first | with_reducible rfl | rw [zI])
   simp only [zA,zB,zC,Act.put,zD,zE,zF]
   refine zT 2 ?_ rfl (Or.inl ⟨by rfl,?_⟩) bC.out ?_
   rotate_left
   ·(intro wq hSw; obtain ⟨_,_,_,_,_,_,_⟩:=hSw; go_simp; all_goals first | with_reducible rfl | rw [zI])
   simp only [zA,zB,zC,Act.put,zD,zE,zF]
   refine zT 3 ?_ rfl (Or.inl ⟨by rfl,?_⟩) bC.out ?_
   rotate_left
   ·(intro wq hSw; obtain ⟨_,_,_,_,_,_,_⟩:=hSw; go_simp; all_goals first | with_reducible rfl | rw [zI])
   simp only [zA,zB,zC,Act.put,zD,zE,zF]
   refine zT 4 ?_ rfl (Or.inl ⟨by rfl,?_⟩) bC.out ?_
   rotate_left
   ·(intro wq hSw; obtain ⟨_,_,_,_,_,_,_⟩:=hSw; go_simp; all_goals first | with_reducible rfl | rw [zI])
   simp only [zA,zB,zC,Act.put,zD,zE,zF]
   refine zT 5 ?_ rfl (Or.inl ⟨by rfl,?_⟩) bC.out ?_
   rotate_left
   ·(intro wq hSw; obtain ⟨_,_,_,_,_,_,_⟩:=hSw; go_simp; all_goals first | with_reducible rfl | rw [zI])
   simp only [zA,zB,zC,Act.put,zD,zE,zF]
   refine zT 6 ?_ rfl (Or.inl ⟨by rfl,?_⟩) bC.out ?_
   rotate_left
   ·(intro wq hSw; obtain ⟨_,_,_,_,_,_,_⟩:=hSw; go_simp; all_goals first | with_reducible rfl | rw [zI])
   simp only [zA,zB,zC,Act.put,zD,zE,zF]
   refine zT 7 ?_ rfl (Or.inl ⟨by rfl,?_⟩) bC.out ?_
   rotate_left
   ·(intro wq hSw; obtain ⟨_,_,_,_,_,_,_⟩:=hSw; go_simp; all_goals first | with_reducible rfl | rw [zI])
   simp only [zA,zB,zC,Act.put,zD,zE,zF]
   refine zO 8 fun K hK => ?_
   go_simp
   have hcall:=ih c (.agg #[.int .i64 c.kind,.int .i64 c.sort,.string ⟨c.name.toArray⟩,.slice A1 n1 p1,.slice A2 n2 p2]) wa.drew hcm.1 hcm.2.1 (((mJ vT.out rP.out).keep hba).keep (Below.refl wa.heap.size wa).drew) hcm.2.2 ((((E5.out.keep hbW).keep hbr).keep hba).keep (Below.refl wa.heap.size wa).drew)
   unfold au at hcall
   refine hcall.mono ?_; clear hcall; rw [HT.out]; rintro e w1 ⟨rfl,hq⟩
   have xE : Below wa.heap.size wa w1:=chain (Below.refl wa.heap.size wa).drew hq
   have hb1 : Below wr.heap.size wr w1:=chain hba xE
   have hs1:=hb1.size
   have hs2:=xE.size
   clear hq
   refine hK.out _ _ (fun _ => jE.out _ (Same.below xE)) ?_
   clear hK K
   try simp only [zA,zB,zC,Act.put,zD,zE,zF]
   refine zT 9 ?_ rfl (Or.inl ⟨by rfl,?_⟩) (jE.out _ (Same.below xE)) ?_
   rotate_left
   ·(intro wq hSw; obtain ⟨_,_,_,_,_,_,_⟩:=hSw; go_simp; all_goals first | with_reducible rfl | rw [zI])
   simp only [zA,zB,zC,Act.put,zD,zE,zF]
   refine zO 10 fun K hK => ?_
   go_simp
   have hsA:=Below.trans xE ((Below.refl _ w1).alloc hs2 (.cells #[.string ⟨(l ++ 58 :: T).toArray⟩] 9))
   have Bz : Below N wr (w1.alloc (.cells #[.string ⟨(l ++ 58 :: T).toArray⟩] 9)):=(hb1.mono MC).alloc (by omega) _
   refine hK.out _ _ (fun _ => jE.out _ (Same.below hsA)) ?_
   clear hK K
   try simp only [zA,zB,zC,Act.put,zD,zE,zF]
   refine zO 11 fun K hK => ?_
   refine o5 nO rfl (.tmp 95) (.tmp 105) rfl N (.slice Av k wL) k _ rfl ((qI hown hb1 (Nat.le_refl _)).alloc _) ⟨w1.heap.size,0,none⟩ 1 1 [.string ⟨(l ++ 58 :: T).toArray⟩] rfl rfl (cell_one_new _ _ _) (by simp [Value.oneCell']) (by unfold maxLen; omega) (by omega) (by rw [World.size_alloc]; omega) (fun v' w3 n1' n2' n3' n4' => ?_)
   obtain ⟨Aw,Ir,rfl⟩:=bg n1'
   have hb3:=Bz.trans n4'
   refine hK.out _ _ (fun _ => jE.out _ (Same.trans (Same.below hsA) hsA.size (Same.grown n2' hne))) ?_
   clear hK K
   try simp only [zA,zB,zC,Act.put,zD,zE,zF]
   refine zO 12 fun K hK => ?_
   go_simp
   refine hK.out _ _ (fun h => absurd h (by decide)) ?_
   clear hK K
   try simp only [zA,zB,zC,Act.put,zD,zE,zF]
   refine bf (by kernel_rfl) ?_
   have hown3 : w3.ownsRow N 9 1 (.slice Aw (k + 1) Ir) (k + 1) ((P.take (k + 1)).map fun s => .string ⟨s.toArray⟩):=by
    rw [List.take_add_one,Tu.out]
    simpa using n1'
   have Ox:=hbN.trans hb3
   clear jE bC n1' n2' n3' n4' hb3
   go_wp2_with fail
   go_roundw
   case rel => exact ⟨k + 1,by omega,by go_num,hown3,Ox⟩
   case measure => simp [intOf]; omega
  ·have OB : k = L:=by omega
   subst OB
   clear hlt
   have htk : P.take k = P:=List.take_of_length_le (by rw [Hq.out]; exact Nat.le_refl _)
   rw [htk] at hown
   have hcs:=fun g => hown.cells (g:=g)
   rcases id hown.2 with ⟨e,h0⟩ | ⟨g,cap',cur,e,hg,_,hn,_⟩
   ·omega
   ·injection e with e1 e2 e3
    subst e1 e3
    have hcells : ∀ (j : Nat) x,(P.map fun s => (⟨s.toArray⟩ : ByteArray))[j]? = some x → wr.cell? ⟨g,0 + j,none⟩ = some (.string x):=fun j x hx => by
     rw [List.getElem?_map] at hx
     obtain ⟨s,hs,rfl⟩:=Option.map_eq_some_iff.1 hx
     have:=hcs g rfl j (.string ⟨s.toArray⟩) (by rw [List.getElem?_map,hs]; rfl)
     rw [Go.WideShapes.add_plain] at this
     exact this
    have hgl : g < wr.heap.size:=(hown.lt g rfl).2
    have hmm : (P.map fun s => (⟨s.toArray⟩ : ByteArray)).map (·.data.toList) = P:=by rw [List.map_map]; exact (List.map_congr_left (fun s _ => rfl)).trans (List.map_id P)
    have xH:=Tryz.strings_Join g 0 wL (P.map fun s => ⟨s.toArray⟩) ⟨#[44]⟩ wr hcells hgl (by rw [List.length_map,Hq.out]; omega) (by rw [List.length_map,Hq.out]; exact hn) (by rw [hmm]; show (Lib.join P [44]).length ≤ _; rw [zM]; omega)
    rw [hmm,List.length_map,Hq.out] at xH
    have hj2 : Lib.join P (⟨#[44]⟩ : ByteArray).data.toList = joined P:=zM P
    rw [hj2] at xH
    obtain ⟨J,hJ⟩ : ∃ x,joined P = x:=⟨_,rfl⟩
    rw [hJ] at xH hjl
    have HJ:=zH hJ
    have LW:=zH xH
    clear xH hJ hj2 hcells hcs hown
    go_wp2_with fail
    refine LW.out.mono ?_; rintro e w1 ⟨rfl,hb1⟩
    go_wp2_with fail
    go_ret
    exact ⟨by rw [HJ.out]; simp,chain hbW (chain hbr hb1)⟩

theorem write_7 (m : Nat) (ih : ∀ (t : Ty) (v : Value) (w : World),parts t ≤ m → parts t ≤ 60 → ny w v t → Good t → oN w → au 67 t v w)
  (ls : List Str) (ks : List Ty) (v : Value) (w : World) (hks : ∀ c ∈ ks,parts c ≤ m ∧ parts c ≤ 60 ∧ Good c) (hl6 : ls.length ≤ 6) (hl1 : 1 ≤ ls.length) (hls : ∀ l ∈ ls,l.length ≤ 8) (hlen : ks.length = ls.length) (hv : ny w v (.mk 7 0 [] ls ks)) (hsw : oN w) : au 67 (.mk 7 0 [] ls ks) v w:=by
 unfold au
 obtain ⟨lv,kv,rfl,hs1,hs2⟩:=hv
 simp only [Ty.kind,Ty.sort,Ty.name,Ty.labels,Ty.kids] at hs1 hs2 ⊢
 have Gl:=zH hs1
 obtain ⟨A0,p0,rfl,-,-⟩:=hs1
 have HK:=zH hs2
 obtain ⟨A,cap,rfl,-,-⟩:=hs2
 have E5:=zH hsw; clear hsw
 obtain ⟨P,hP⟩ : ∃ x,pairs ls (sG ks) = x:=⟨_,rfl⟩
 have hPl : P.length = ls.length:=by rw [← hP,rJ (by rw [uJ,hlen])]
 have Iw : ∀ x ∈ P,x.length ≤ 6009:=by
  rw [← hP]
  refine xP hls fun t ht => ?_
  obtain ⟨c,hc,rfl⟩:=xW ht
  have h1:=lH c (hks c hc).2.2
  have h2:=(hks c hc).2.1
  omega
 have hjl : (joined P).length ≤ 40000:=by
  have h1:=zy (sg:=43) Iw (k:=P.length) (Nat.le_refl _)
  unfold grow at h1
  rw [if_neg (by omega),List.take_length] at h1
  simp only [zG,zJ,zK] at h1
  omega
 have hans : txt (.mk 7 0 [] ls ks) = [38,123] ++ joined P ++ [125]:=by
  rw [← hP]
  simp [txt,qJ]
 rw [hans]
 clear hans
 have PQ:=zH Iw; have NZ:=zH hP; have zZ:=zH hks; have Gj:=zH hls
 obtain ⟨L,hL⟩ : ∃ x,ls.length = x:=⟨_,rfl⟩
 have Bl:=zH hL; have HL2:=zH (hlen.trans hL); have Hq:=zH (hPl.trans hL)
 rw [hlen] at HK ⊢
 rw [hL] at HK Gl hl6 hl1 ⊢
 clear hL hlen hPl Iw hP hks hls
 go_enter Tryz.func67,Tryz.ntmps67
 go_wp2_with fail
 obtain ⟨W,hW⟩ : ∃ W,w.alloc (.cells #[.int .i64 7,.int .i64 0,.string ⟨#[]⟩,.slice A0 L p0,.slice A L cap] 30) = W:=⟨_,rfl⟩
 have hbW : Below w.heap.size w W:=by subst hW; go_grown
 have hWs : W.heap.size = w.heap.size + 1:=by subst hW; simp
 have X0 : W.cell? ⟨w.heap.size,0,none⟩ = some (.int .i64 7):=by subst hW; simp [go_sem]
 have X3 : W.cell? ⟨w.heap.size,3,none⟩ = some (.slice A0 L p0):=by subst hW; simp [go_sem]
 try rw [hW]
 clear hW
 obtain ⟨N,hN⟩ : ∃ x,W.heap.size = x:=⟨_,rfl⟩
 go_loopw [3,90] (fun lv i wr => ∃ k : Nat,k ≤ L ∧ i = .int .i64 k ∧ wr.ownsRow N 9 1 lv k ((P.take k).map fun s => .string ⟨s.toArray⟩) ∧ Below N W wr) (fun _ i _ => L - (intOf i).toNat)
 case atStart => exact ⟨0,by omega,rfl,World.ownsRow_nil _ _ _ _,Below.refl _ _⟩
 case round =>
  obtain ⟨k,hk,rfl,hown,hbN⟩:=hrel
  have hbr : Below W.heap.size W wr:=by rw [hN]; exact hbN
  have MC : N ≤ wr.heap.size:=by rw [← hN]; exact hbr.size
  have x3:=ae X3 hbr
  have x0:=ae X0 hbr
  obtain ⟨Av,wL,rfl⟩:=bg hown
  by_cases hlt : k < L
  ·obtain ⟨c,hc⟩ : ∃ x,ks[k]? = some x:=⟨_,List.getElem?_eq_getElem (by rw [HL2.out]; exact hlt)⟩
   obtain ⟨l,hl⟩ : ∃ x,ls[k]? = some x:=⟨_,List.getElem?_eq_getElem (by rw [Bl.out]; exact hlt)⟩
   have HC:=zH hc; have Io:=zH hl
   obtain ⟨-,-,b,off,A1,n1,p1,A2,n2,p2,rfl,c0,c1,c2,c3,c4,hl',hk'⟩:=nT ((HK.out.keep hbW).keep hbr) hc
   obtain ⟨lA,lp,el,hlc,hlr⟩:=(Gl.out.keep hbW).keep hbr
   obtain ⟨lb,vH,rfl,wB⟩:=hlr (by rw [Bl.out]; omega)
   injection el with el1 el2 el3
   subst el1 el3
   clear el2
   have GK:=wB k l hl
   have vT:=zH hl'; have rP:=zH hk'; clear hl' hk' hc hl
   have hcm:=zZ.out c (az HC.out)
   have hll:=Gj.out l (az Io.out)
   have htl : (txt c).length ≤ 6000:=by have h1:=lH c hcm.2.2; have h2:=hcm.2.1; omega
   have CV : P[k]? = some (l ++ [58] ++ txt c):=by rw [← NZ.out]; exact xO Io.out (zW HC.out)
   obtain ⟨T,hT⟩ : ∃ y,txt c = y:=⟨_,rfl⟩
   have HT:=zH hT
   rw [hT] at htl CV
   have Tu:=zH CV
   clear hT CV
   have OG : lb < N:=by
    obtain ⟨_,_,e,_,hr⟩:=Gl.out.keep hbW
    obtain ⟨b2,o2,e2,hrow2⟩:=hr (by rw [Bl.out]; omega)
    injection e with e1
    rw [e2] at e1
    obtain rfl : lb = b2:=by injection e1 with e1; injection e1
    rw [← hN]
    exact cell_lt (hrow2 k l Io.out)
   obtain ⟨wa,mQ⟩ : ∃ y,wr.alloc (.cells #[.int .i64 c.kind,.int .i64 c.sort,.string ⟨c.name.toArray⟩,.slice A1 n1 p1,.slice A2 n2 p2] 30) = y:=⟨_,rfl⟩
   have hba : Below wr.heap.size wr wa:=by subst mQ; exact (Below.refl _ _).alloc (Nat.le_refl _) _
   have hsa : wa.heap.size = wr.heap.size + 1:=by subst mQ; simp
   have hkb : pz wa wr.heap.size c (.slice A1 n1 p1) (.slice A2 n2 p2):=by subst mQ; exact ⟨by simp [go_sem],by simp [go_sem],by simp [go_sem],by simp [go_sem],by simp [go_sem],fun j => by simp [go_sem],by simp⟩
   obtain ⟨k0,k1,k2,k3,k4,k5,k6⟩:=id hkb
   have hBN : w.heap.size < N:=by omega
   have hS : ∀ w' : World,Same (fun b => b < N ∨ b = wr.heap.size) wa w' → (fun w' : World => w'.cell? ⟨w.heap.size,3,none⟩ = some (.slice (some ⟨lb,vH,none⟩) L p0) ∧ w'.cell? ⟨lb,vH + k,none⟩ = some (.string ⟨l.toArray⟩) ∧ w'.cell? ⟨wr.heap.size,0,none⟩ = some (.int .i64 c.kind) ∧ w'.cell? ⟨wr.heap.size,1,none⟩ = some (.int .i64 c.sort) ∧ w'.cell? ⟨wr.heap.size,2,none⟩ = some (.string ⟨c.name.toArray⟩) ∧ w'.cell? ⟨wr.heap.size,3,none⟩ = some (.slice A1 n1 p1) ∧ w'.cell? ⟨wr.heap.size,4,none⟩ = some (.slice A2 n2 p2)) w':=fun w' h => ⟨h.cell (by first | (left; omega) | (right; rfl)) (ae x3 hba),h.cell (by first | (left; omega) | (right; rfl)) (ae GK hba),h.cell (by first | (left; omega) | (right; rfl)) k0,h.cell (by first | (left; omega) | (right; rfl)) k1,h.cell (by first | (left; omega) | (right; rfl)) k2,h.cell (by first | (left; omega) | (right; rfl)) k3,h.cell (by first | (left; omega) | (right; rfl)) k4⟩
   have bC:=zH (hS wa.drew (fun _ _ _ => rfl))
   have jE:=zH hS; clear hS
   have hne : ∀ q,q < N ∨ q = wr.heap.size → some q ≠ (Value.slice Av k wL).ownBlock:=fun q hq e => by
    obtain ⟨h1,h2⟩:=hown.lt q e.symm
    omega
   go_wp2_with fail
   try rw [mQ]
   clear mQ
   refine aC 12 (fun w' : World => w'.cell? ⟨w.heap.size,3,none⟩ = some (.slice (some ⟨lb,vH,none⟩) L p0) ∧ w'.cell? ⟨lb,vH + k,none⟩ = some (.string ⟨l.toArray⟩) ∧ w'.cell? ⟨wr.heap.size,0,none⟩ = some (.int .i64 c.kind) ∧ w'.cell? ⟨wr.heap.size,1,none⟩ = some (.int .i64 c.sort) ∧ w'.cell? ⟨wr.heap.size,2,none⟩ = some (.string ⟨c.name.toArray⟩) ∧ w'.cell? ⟨wr.heap.size,3,none⟩ = some (.slice A1 n1 p1) ∧ w'.cell? ⟨wr.heap.size,4,none⟩ = some (.slice A2 n2 p2)) (by kernel_rfl) ?_
   refine zT 0 ?_ rfl (Or.inl ⟨by rfl,?_⟩) bC.out ?_
   rotate_left
   ·(intro wq hSw; obtain ⟨_,_,_,_,_,_,_⟩:=hSw; go_simp; all_goals first | with_reducible rfl | rw [zI])
   simp only [zA,zB,zC,Act.put,zD,zE,zF]
   refine zT 1 ?_ rfl (Or.inl ⟨by rfl,?_⟩) bC.out ?_
   rotate_left
   ·(intro wq hSw; obtain ⟨_,_,_,_,_,_,_⟩:=hSw; go_simp; all_goals first | with_reducible rfl | rw [zI])
   simp only [zA,zB,zC,Act.put,zD,zE,zF]
   refine zT 2 ?_ rfl (Or.inl ⟨by rfl,?_⟩) bC.out ?_
   rotate_left
   ·(intro wq hSw; obtain ⟨_,_,_,_,_,_,_⟩:=hSw; go_simp; all_goals first | with_reducible rfl | rw [zI])
   simp only [zA,zB,zC,Act.put,zD,zE,zF]
   refine zT 3 ?_ rfl (Or.inl ⟨by rfl,?_⟩) bC.out ?_
   rotate_left
   ·(intro wq hSw; obtain ⟨_,_,_,_,_,_,_⟩:=hSw; go_simp; all_goals first | with_reducible rfl | rw [zI])
   simp only [zA,zB,zC,Act.put,zD,zE,zF]
   refine zT 4 ?_ rfl (Or.inl ⟨by rfl,?_⟩) bC.out ?_
   rotate_left
   ·(intro wq hSw; obtain ⟨_,_,_,_,_,_,_⟩:=hSw; go_simp; all_goals first | with_reducible rfl | rw [zI])
   simp only [zA,zB,zC,Act.put,zD,zE,zF]
   refine zT 5 ?_ rfl (Or.inl ⟨by rfl,?_⟩) bC.out ?_
   rotate_left
   ·(intro wq hSw; obtain ⟨_,_,_,_,_,_,_⟩:=hSw; go_simp; all_goals first | with_reducible rfl | rw [zI])
   simp only [zA,zB,zC,Act.put,zD,zE,zF]
   refine zT 6 ?_ rfl (Or.inl ⟨by rfl,?_⟩) bC.out ?_
   rotate_left
   ·(intro wq hSw; obtain ⟨_,_,_,_,_,_,_⟩:=hSw; go_simp; all_goals first | with_reducible rfl | rw [zI])
   simp only [zA,zB,zC,Act.put,zD,zE,zF]
   refine zT 7 ?_ rfl (Or.inl ⟨by rfl,?_⟩) bC.out ?_
   rotate_left
   ·(intro wq hSw; obtain ⟨_,_,_,_,_,_,_⟩:=hSw; go_simp; all_goals first | with_reducible rfl | rw [zI])
   simp only [zA,zB,zC,Act.put,zD,zE,zF]
   refine zO 8 fun K hK => ?_
   go_simp
   have hcall:=ih c (.agg #[.int .i64 c.kind,.int .i64 c.sort,.string ⟨c.name.toArray⟩,.slice A1 n1 p1,.slice A2 n2 p2]) wa.drew hcm.1 hcm.2.1 (((mJ vT.out rP.out).keep hba).keep (Below.refl wa.heap.size wa).drew) hcm.2.2 ((((E5.out.keep hbW).keep hbr).keep hba).keep (Below.refl wa.heap.size wa).drew)
   unfold au at hcall
   refine hcall.mono ?_; clear hcall; rw [HT.out]; rintro e w1 ⟨rfl,hq⟩
   have xE : Below wa.heap.size wa w1:=chain (Below.refl wa.heap.size wa).drew hq
   have hb1 : Below wr.heap.size wr w1:=chain hba xE
   have hs1:=hb1.size
   have hs2:=xE.size
   clear hq
   refine hK.out _ _ (fun _ => jE.out _ (Same.below xE)) ?_
   clear hK K
   try simp only [zA,zB,zC,Act.put,zD,zE,zF]
   refine zT 9 ?_ rfl (Or.inl ⟨by rfl,?_⟩) (jE.out _ (Same.below xE)) ?_
   rotate_left
   ·(intro wq hSw; obtain ⟨_,_,_,_,_,_,_⟩:=hSw; go_simp; all_goals first | with_reducible rfl | rw [zI])
   simp only [zA,zB,zC,Act.put,zD,zE,zF]
   refine zO 10 fun K hK => ?_
   go_simp
   have hsA:=Below.trans xE ((Below.refl _ w1).alloc hs2 (.cells #[.string ⟨(l ++ 58 :: T).toArray⟩] 9))
   have Bz : Below N wr (w1.alloc (.cells #[.string ⟨(l ++ 58 :: T).toArray⟩] 9)):=(hb1.mono MC).alloc (by omega) _
   refine hK.out _ _ (fun _ => jE.out _ (Same.below hsA)) ?_
   clear hK K
   try simp only [zA,zB,zC,Act.put,zD,zE,zF]
   refine zO 11 fun K hK => ?_
   refine o5 nO rfl (.tmp 95) (.tmp 105) rfl N (.slice Av k wL) k _ rfl ((qI hown hb1 (Nat.le_refl _)).alloc _) ⟨w1.heap.size,0,none⟩ 1 1 [.string ⟨(l ++ 58 :: T).toArray⟩] rfl rfl (cell_one_new _ _ _) (by simp [Value.oneCell']) (by unfold maxLen; omega) (by omega) (by rw [World.size_alloc]; omega) (fun v' w3 n1' n2' n3' n4' => ?_)
   obtain ⟨Aw,Ir,rfl⟩:=bg n1'
   have hb3:=Bz.trans n4'
   refine hK.out _ _ (fun _ => jE.out _ (Same.trans (Same.below hsA) hsA.size (Same.grown n2' hne))) ?_
   clear hK K
   try simp only [zA,zB,zC,Act.put,zD,zE,zF]
   refine zO 12 fun K hK => ?_
   go_simp
   refine hK.out _ _ (fun h => absurd h (by decide)) ?_
   clear hK K
   try simp only [zA,zB,zC,Act.put,zD,zE,zF]
   refine bf (by kernel_rfl) ?_
   have hown3 : w3.ownsRow N 9 1 (.slice Aw (k + 1) Ir) (k + 1) ((P.take (k + 1)).map fun s => .string ⟨s.toArray⟩):=by
    rw [List.take_add_one,Tu.out]
    simpa using n1'
   have Ox:=hbN.trans hb3
   clear jE bC n1' n2' n3' n4' hb3
   go_wp2_with fail
   go_roundw
   case rel => exact ⟨k + 1,by omega,by go_num,hown3,Ox⟩
   case measure => simp [intOf]; omega
  ·have OB : k = L:=by omega
   subst OB
   clear hlt
   have htk : P.take k = P:=List.take_of_length_le (by rw [Hq.out]; exact Nat.le_refl _)
   rw [htk] at hown
   have hcs:=fun g => hown.cells (g:=g)
   rcases id hown.2 with ⟨e,h0⟩ | ⟨g,cap',cur,e,hg,_,hn,_⟩
   ·omega
   ·injection e with e1 e2 e3
    subst e1 e3
    have hcells : ∀ (j : Nat) x,(P.map fun s => (⟨s.toArray⟩ : ByteArray))[j]? = some x → wr.cell? ⟨g,0 + j,none⟩ = some (.string x):=fun j x hx => by
     rw [List.getElem?_map] at hx
     obtain ⟨s,hs,rfl⟩:=Option.map_eq_some_iff.1 hx
     have:=hcs g rfl j (.string ⟨s.toArray⟩) (by rw [List.getElem?_map,hs]; rfl)
     rw [Go.WideShapes.add_plain] at this
     exact this
    have hgl : g < wr.heap.size:=(hown.lt g rfl).2
    have hmm : (P.map fun s => (⟨s.toArray⟩ : ByteArray)).map (·.data.toList) = P:=by rw [List.map_map]; exact (List.map_congr_left (fun s _ => rfl)).trans (List.map_id P)
    have xH:=Tryz.strings_Join g 0 wL (P.map fun s => ⟨s.toArray⟩) ⟨#[44]⟩ wr hcells hgl (by rw [List.length_map,Hq.out]; omega) (by rw [List.length_map,Hq.out]; exact hn) (by rw [hmm]; show (Lib.join P [44]).length ≤ _; rw [zM]; omega)
    rw [hmm,List.length_map,Hq.out] at xH
    have hj2 : Lib.join P (⟨#[44]⟩ : ByteArray).data.toList = joined P:=zM P
    rw [hj2] at xH
    obtain ⟨J,hJ⟩ : ∃ x,joined P = x:=⟨_,rfl⟩
    rw [hJ] at xH hjl
    have HJ:=zH hJ
    have LW:=zH xH
    clear xH hJ hj2 hcells hcs hown
    go_wp2_with fail
    refine LW.out.mono ?_; rintro e w1 ⟨rfl,hb1⟩
    go_wp2_with fail
    go_ret
    exact ⟨by rw [HJ.out]; simp,chain hbW (chain hbr hb1)⟩

theorem write_any : ∀ (m : Nat) (t : Ty) (v : Value) (w : World),parts t ≤ m → parts t ≤ 60 → ny w v t → Good t → oN w → au 67 t v w:=by
 intro m
 induction m with
 | zero => intro t v w h; cases t; simp only [parts] at h; omega
 | succ m ih =>
 intro t v w hm h60 hv hg hsw
 obtain ⟨k,s,n,ls,ks⟩:=t
 have hsh:=qy hg.shape
 have hkids:=hg.kid
 simp only [Ty.kind,Ty.sort,Ty.name,Ty.labels,Ty.kids] at hsh hkids
 simp only [parts] at hm h60
 have hp : ∀ c ∈ ks,parts c ≤ m ∧ parts c ≤ 60 ∧ Good c:=fun c hc => by
  have:=pV hc
  exact ⟨by omega,by omega,hkids c hc⟩
 obtain ⟨kl,hkl⟩ : ∃ x,ks.length = x:=⟨_,rfl⟩
 rw [hkl] at hsh
 cases hsh with
 | fin =>
  obtain rfl:=List.eq_nil_of_length_eq_zero hkl
  exact write_1 m ih v w hv hsw
 | value k s hk h1 h3 =>
  obtain ⟨c,rfl⟩ : ∃ c,ks = [c]:=by match ks,hkl with | [c],_ => exact ⟨c,rfl⟩
  obtain ⟨a1,a2,a3⟩:=hp c (by simp)
  obtain ⟨n,rfl⟩ : ∃ n : Nat,s = n:=⟨s.toNat,by omega⟩
  rcases hk with rfl | rfl
  ·exact write_2 m ih n c v w a1 a2 a3 hv hsw (by omega) (by omega)
  ·exact write_3 m ih n c v w a1 a2 a3 hv hsw (by omega) (by omega)
 | channel k hk =>
  obtain ⟨c,d,rfl⟩ : ∃ c d,ks = [c,d]:=by match ks,hkl with | [c,d],_ => exact ⟨c,d,rfl⟩
  obtain ⟨a1,a2,a3⟩:=hp c (by simp)
  obtain ⟨b1,b2,b3⟩:=hp d (by simp)
  rcases hk with rfl | rfl
  ·exact write_4 m ih c d v w a1 a2 a3 b1 b2 b3 hv hsw
  ·exact write_5 m ih c d v w a1 a2 a3 b1 b2 b3 hv hsw
 | choice k hk ls h =>
  obtain ⟨h1,h6,h8⟩:=rE h
  rcases hk with rfl | rfl
  ·exact write_6 m ih ls ks v w hp h6 h1 h8 hkl hv hsw
  ·exact write_7 m ih ls ks v w hp h6 h1 h8 hkl hv hsw
 | loop n h =>
  obtain ⟨c,rfl⟩ : ∃ c,ks = [c]:=by match ks,hkl with | [c],_ => exact ⟨c,rfl⟩
  obtain ⟨a1,a2,a3⟩:=hp c (by simp)
  exact write_8 m ih n c v w a1 a2 a3 hv hsw (wC h).2
 | var n h =>
  obtain rfl:=List.eq_nil_of_length_eq_zero hkl
  exact write_9 m ih n v w hv hsw
theorem Fg (t : Ty) (v : Value) (w : World) (hv : ny w v t) (hf : Fit t) (hE : pg t = 0) (hsw : oN w) :
  Calls Tryz.prog 32 #[v] w fun e w' => e = .returned (.tuple #[.string ⟨(txt t).toArray⟩,.int .i64 0]) ∧ Below w.heap.size w w':=by
 have HZ:=zH hv
 obtain ⟨lv,kv,rfl,h1,h2⟩:=hv
 obtain ⟨A0,p0,rfl,-,-⟩:=h1
 obtain ⟨A,cap,rfl,-,-⟩:=h2
 have HE:=zH hE
 have hg:=vN t [] 60 hE
 have hp:=Di hE
 clear hE
 go_enter Tryz.func32,Tryz.ntmps32
 go_wp2_with fail
 have hbx : pz (w.alloc (.cells #[.int .i64 t.kind,.int .i64 t.sort,.string ⟨t.name.toArray⟩,.slice A0 t.labels.length p0,.slice A t.kids.length cap] 30)) w.heap.size t (.slice A0 t.labels.length p0) (.slice A t.kids.length cap):=⟨by simp [go_sem],by simp [go_sem],by simp [go_sem],by simp [go_sem],by simp [go_sem],fun j => by simp [go_sem],by simp⟩
 have hb0 : Below w.heap.size w (w.alloc (.cells #[.int .i64 t.kind,.int .i64 t.sort,.string ⟨t.name.toArray⟩,.slice A0 t.labels.length p0,.slice A t.kids.length cap] 30)):=by go_grown
 refine (xZ t _ _ (HZ.out.keep (by go_grown)) hf).mono ?_; rw [HE.out]; rintro e w1 ⟨rfl,hb1⟩
 obtain ⟨b0,b1,b2,b3,b4,b5,b6⟩:=hbx.keep hb1 hbx.lt
 have hb2:=chain hb0 hb1
 clear hbx
 go_wp2_with fail
 have hwr:=write_any (parts t) t (.agg #[.int .i64 t.kind,.int .i64 t.sort,.string ⟨t.name.toArray⟩,.slice A0 t.labels.length p0,.slice A t.kids.length cap]) w1 (Nat.le_refl _) hp (HZ.out.keep hb2) hg (hsw.keep hb2)
 unfold au at hwr
 clear hsw
 refine hwr.mono ?_; clear hwr; rintro e w2 ⟨rfl,hb3⟩
 go_wp2_with fail
 exact bodyPost_ret (v:=.tuple #[.string ⟨(txt t).toArray⟩,.int .i64 0]) (by simp [results,Tryz.results32,go_sem]) rfl ⟨rfl,chain hb2 hb3⟩
noncomputable def ni : Code:=bH (bH (bH (Tryz.f43.body.getD .skip)))
structure Pm (w wz : World) (b : Nat) (p : Pr) (v v1 v2 v3 v4 v5 v6 v7 : Value) : Prop where
 bx : nK wz b p v1 v2 v3 v4 v5 v6 v7
 bl : Below w.heap.size w wz
 pv : zn All wz v p
 tb : Tabs wz
 pw : ql wz
 so : oN wz
theorem Pm.next {w w1 w2 : World} {b : Nat} {p : Pr} {v v1 v2 v3 v4 v5 v6 v7 : Value} (h : Pm w w1 b p v v1 v2 v3 v4 v5 v6 v7) (hb : Below w1.heap.size w1 w2) : Pm w w2 b p v v1 v2 v3 v4 v5 v6 v7 :=
 ⟨h.bx.kept hb,chain h.bl hb,h.pv.below hb,h.tb.below hb,h.pw.below hb,h.so.keep hb⟩
abbrev Hy (kind : Int) (chan name label : Str) (xk : Int) (xn : Str) (xs xv : Int) (xt : Str) (af exprs : List Ex) (names : List Str) (tk ts : Int) (tn : Str) (tl : List Str) (ag : List Ty) (labels : List Str) (kids : List Pr) (A1 : Option Addr) (n1 c1 : Nat) (A2 : Option Addr) (n2 c2 : Nat) (A3 : Option Addr) (n3 c3 : Nat) (A4 : Option Addr) (n4 c4 : Nat) (A5 : Option Addr) (n5 c5 : Nat) (A6 : Option Addr) (n6 c6 : Nat) (A7 : Option Addr) (n7 c7 : Nat) (w wz : World) (b : Nat) : Prop:=Pm w wz b (.mk kind chan name label xk xn xs xv xt af exprs names tk ts tn tl ag labels kids) (.agg #[.int .i64 kind,.string ⟨chan.toArray⟩,.string ⟨name.toArray⟩,.string ⟨label.toArray⟩,.int .i64 xk,.string ⟨xn.toArray⟩,.int .i64 xs,.int .i64 xv,.string ⟨xt.toArray⟩,.slice A1 n1 c1,.slice A2 n2 c2,.slice A3 n3 c3,.int .i64 tk,.int .i64 ts,.string ⟨tn.toArray⟩,.slice A4 n4 c4,.slice A5 n5 c5,.slice A6 n6 c6,.slice A7 n7 c7]) (.slice A1 n1 c1) (.slice A2 n2 c2) (.slice A3 n3 c3) (.slice A4 n4 c4) (.slice A5 n5 c5) (.slice A6 n6 c6) (.slice A7 n7 c7)
def GI (f : Nat) (t : Pr) (v : Value) (w : World) : Prop:=Calls Tryz.prog f #[v] w fun e w' => e = .returned (.string ⟨(lC t).toArray⟩) ∧ Below w.heap.size w w'
abbrev Jg (m : Nat) : Prop:=∀ (t : Pr) (v : Value) (w : World),bG t ≤ m → bG t ≤ 200 → zn All w v t → bF 1048576 t → pq t → Tabs w → ql w → oN w → GI 43 t v w
end Go.Proofs.YtpidjanngbaiiaaGreatDoor
