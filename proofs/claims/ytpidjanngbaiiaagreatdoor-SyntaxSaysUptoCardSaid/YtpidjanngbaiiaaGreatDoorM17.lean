/-
  Held2 PrQ9 PrQ8 PrQ7 PrSh24 PrSh17 PrSh11 PrSh9 PrSh8 PrSh PrQ
-/
import Derived.Test.YtpidjanngbaiiaaGreatDoorM7
import Derived.Test.YtpidjanngbaiiaaGreatDoorM16
import Derived.Test.YtpidjanngbaiiaaGreatDoorM11
namespace Go.Proofs.YtpidjanngbaiiaaGreatDoor
open Go.RowKit Go.Proofs
set_option maxRecDepth 100000
set_option maxHeartbeats 32000000

section
variable {P : Program} {ops : Array Oper} {Q : Exit → Act → World → Prop} {md : Region.Mode} {S : World → Prop} {n : Nat}
def Closed (md : Region.Mode) (ops : Array Oper) (L : Array Bool) : Prop:=∀ j o,ops[j]? = some o → L.getD j false = true → ∀ e ∈ o.after,Region.binds md e = true → L.getD e.on false = true
def H9 (md : Region.Mode) (ops : Array Oper) (L : Array Bool) : Bool:=(List.range ops.size).all fun j => match ops[j]? with | some o => !(L.getD j false) || o.after.all fun e => !Region.binds md e || L.getD e.on false | none => true
theorem closed_of {L : Array Bool} (h : H9 md ops L = true) : Closed md ops L:=by
 intro j o ho hj e he hb
 have hjs : j < ops.size:=(Array.getElem?_eq_some_iff.1 ho).1
 have h1:=List.all_eq_true.1 h j (List.mem_range.2 hjs)
 simp only [ho,hj,Bool.not_true,Bool.false_or] at h1
 obtain ⟨k,hk,rfl⟩:=Array.mem_iff_getElem.1 he
 have h2:=Array.all_eq_true.1 h1 k hk
 simpa [hb] using h2
theorem closed_step {L : Array Bool} (h : Closed md ops L) {i : Nat} (hi : i ∈ Region.ready md ops L) : Closed md ops (L.setIfInBounds i true):=by
 intro j o ho hj e he hb
 obtain ⟨_,o',ho',hall⟩:=mem_ready.1 hi
 by_cases hij : i = j
 ·subst hij
  rw [ho] at ho'
  obtain rfl:=Option.some.inj ho'
  exact getD_set_true (hall e he hb)
 ·rw [getD_set_ne false hij] at hj
  exact getD_set_true (h j o ho hj e he hb)
def AQ (md : Region.Mode) (ops : Array Oper) (i : Nat) : Nat → Nat → Bool
 | 0,_ => false
 | f + 1,k => match ops[k]? with
  | some o => o.after.any fun e => Region.binds md e && (e.on == i || AQ md ops i f e.on)
  | none => false
theorem waitsT_no {L : Array Bool} (h : Closed md ops L) {i : Nat} (hi : L.getD i false = false) : ∀ (f k : Nat),AQ md ops i f k = true → L.getD k false = false:=by
 intro f
 induction f with
 | zero => intro k hk; simp [AQ] at hk
 | succ f ih =>
  intro k hk
  cases hL : L.getD k false with
  | false => rfl
  | true =>
   unfold AQ at hk
   split at hk
   ·rename_i o ho
    obtain ⟨x,hx,he⟩:=Array.any_eq_true.1 hk
    simp only [Bool.and_eq_true,Bool.or_eq_true,beq_iff_eq] at he
    have h1:=h k o ho hL _ (Array.getElem_mem hx) he.1
    rcases he.2 with e | e
    ·rw [e,hi] at h1; cases h1
    ·rw [ih _ e] at h1; cases h1
   ·cases hk
def zk (md : Region.Mode) (ops : Array Oper) (n i : Nat) : Bool:=(List.range ops.size).all fun j => decide (j < n) || AQ md ops i ops.size j
theorem tailT_lt {i j : Nat} {L : Array Bool} (hc : Closed md ops L) (h : zk md ops n i = true) (hi : L.getD i true = false) (hj : j ∈ Region.ready md ops L) : j < n:=by
 have hif : L.getD i false = false:=by
  rcases Nat.lt_or_ge i L.size with h' | h'
  ·simp only [Array.getD,h',dite_true] at hi ⊢; exact hi
  ·simp [Array.getD,Nat.not_lt.2 h'] at hi
 obtain ⟨hu,o,ho,hall⟩:=mem_ready.1 hj
 have hjs : j < ops.size:=(Array.getElem?_eq_some_iff.1 ho).1
 have h1:=List.all_eq_true.1 h j (List.mem_range.2 hjs)
 simp only [Bool.or_eq_true,decide_eq_true_eq] at h1
 rcases h1 with h1 | h1
 ·exact h1
 ·exfalso
  obtain ⟨f,hf⟩ : ∃ f,ops.size = f + 1:=⟨ops.size - 1,by omega⟩
  rw [hf] at h1
  unfold AQ at h1
  rw [ho] at h1
  obtain ⟨x,hx,he⟩:=Array.any_eq_true.1 h1
  simp only [Bool.and_eq_true,Bool.or_eq_true,beq_iff_eq] at he
  have h2:=hall _ (Array.getElem_mem hx) he.1
  rcases he.2 with e | e
  ·rw [e,hif] at h2; cases h2
  ·rw [waitsT_no hc hif _ _ e] at h2; cases h2
theorem wpT_firstT {i : Nat} {oi : Oper} {v : Value} (hi : ops[i]? = some oi) (hsel : ∀ (j : Nat) (o : Oper) cs b,ops[j]? = some o → o.op ≠ .select cs b) (htail : zk md ops n i = true)
  (hQ : ∀ c a w,Q (.panic c) (a.put oi.dst v) w → Q (.panic c) a w) :
  ∀ (g : Nat) (L : Array Bool) (a : Act) (w : World),Closed md ops L →
   (∀ j oj,ops[j]? = some oj → j ≠ i → L.getD j true = false → (∀ e ∈ oj.after,Region.binds md e = true → e.on ≠ i) → oi.apart ops oj = true) →
   i ∈ Region.ready md ops L → YieldsIf P ops S oi v a → S w → wZ P md ops Q S n g (L.setIfInBounds i true) (a.put oi.dst v) w → wZ P md ops Q S n (g + 1) L a w:=by
 intro g
 induction g with
 | zero =>
  intro L a w _ _ hr hy hS H
  refine ⟨fun h => (by rw [h] at hr; cases hr),fun j hj => ?_⟩
  by_cases hji : j = i
  ·subst hji
   exact hy.wpOp hi hS ⟨fun _ => hS,H⟩
  ·have h1:=ready_mono hj hji
   rw [H.1] at h1
   cases h1
 | succ g ih =>
  intro L a w hc hfree hr hy hS H
  refine ⟨fun h => (by rw [h] at hr; cases hr),fun j hj => ?_⟩
  by_cases hji : j = i
  ·subst hji
   exact hy.wpOp hi hS ⟨fun _ => hS,H⟩
  have hiL:=(mem_ready.1 hr).1
  have hjn : j < n:=tailT_lt hc htail hiL hj
  have h1:=H.2 j (ready_mono hj hji)
  obtain ⟨QC,oj,hoj,hall⟩:=mem_ready.1 hj
  have hno : ∀ e ∈ oj.after,Region.binds md e = true → e.on ≠ i:=by
   intro e he hb TS
   have h2:=hall e he hb
   rw [TS] at h2
   rcases Nat.lt_or_ge i L.size with h' | h'
   ·simp only [Array.getD,h',dite_true] at hiL h2
    exact absurd (hiL.symm.trans h2) (by simp)
   ·simp [Array.getD,Nat.not_lt.2 h'] at hiL
  have h2:=wpOp_putIf hoj (hfree j oj hoj hji QC hno) (fun cs b => hsel i oi cs b hi) (fun cs b => hsel j oj cs b hoj) hQ hy h1
  refine wpOp_mono (fun a' w' h3 => ⟨h3.2.1,?_⟩) h2
  refine ih (L.setIfInBounds j true) a' w' (closed_step hc hj) (fun k ok hk hki hun hno' => ?_) (ready_mono hr (Ne.symm hji)) h3.1 (h3.2.1 hjn) ?_
  ·refine hfree k ok hk hki ?_ hno'
   by_cases hjk : j = k
   ·subst hjk; exact QC
   ·rw [getD_set_ne true hjk] at hun; exact hun
  ·rw [Array.setIfInBounds_comm _ _ hji]
   exact h3.2.2
theorem gY {i : Nat} {oi : Oper} {v : Value} {g : Nat} {L : Array Bool} {a : Act} {w : World} (hi : ops[i]? = some oi)
  (hs : Region.noSelect ops = true) (hf : Region.free md ops L i = true) (hr : (Region.ready md ops L).contains i = true) (ht : zk md ops n i = true) (hc : H9 md ops L = true)
  (hQ : ∀ c a w,Q (.panic c) (a.put oi.dst v) w → Q (.panic c) a w) (hy : YieldsIf P ops S oi v a) (hS : S w)
  (h : wZ P md ops Q S n g (L.setIfInBounds i true) (a.put oi.dst v) w) : wZ P md ops Q S n (g + 1) L a w :=
 wpT_firstT hi (Region.noSelect_spec hs) ht hQ g L a w (closed_of hc) (Region.free_spec hi hf) (by simpa using hr) hy hS h
end
end Go.Proofs.YtpidjanngbaiiaaGreatDoor
namespace Go.Proofs.YtpidjanngbaiiaaGreatDoor
open Go.RowKit Go.Proofs
set_option maxRecDepth 100000
set_option maxHeartbeats 32000000

theorem sort_cell {w : World} {b o : Nat} (h : vF w b o [[],[105,110,116],[98,111,111,108],[116,101,120,116]]) {s : Nat} (h1 : 1 ≤ s) (h3 : s ≤ 3) : w.cell? ⟨b,o + s,none⟩ = some (.string ⟨(uU (s : Int)).toArray⟩):=by
 rcases (by omega : s = 1 ∨ s = 2 ∨ s = 3) with rfl | rfl | rfl
 ·exact h 1 _ rfl
 ·exact h 2 _ rfl
 ·exact h 3 _ rfl
theorem qw_9 (l : List Df) (j : Nat) (A : Option Addr) (c : Nat) (w wz : World) (b : Nat) (S S' : Str) (q : Nat) (cs : List Value) (d : Df) {u0 u1 u2 u3 u4 u6 u8 u9 jI jJ jk jl iW iY u16 jc jd je jM jB jG jH jQ jR jS jT jU u32 jV jW jX jY jZ ku kw kz kC kD kE kF kG kH kJ kK kL kM kN kP kQ kR kS kT kU kV kW kX kY kZ lg u64 lh lm lq lu lJ lK lL lM lN lQ lS lT lU lV lW lX lY lZ l9 mf mg mi mr mD mF lD lw : Value} (N : Act → World → Prop) (Qx : Exit → Act → World → Prop) (hin : Pj w A c l) (hw : QS w wz b S) (hd : QD wz b q cs) (hc : Gh All w cs d) (hf : oh 1048576 d) (hg : o7 d) (hsl : S.length ≤ 5800000000000) (hS : Hid (S ++ (bn comma (gX d) ++ ((if d.chans.length = 0 then [] else ([59,32] : Str) ++ bn comma (fM d)) ++ (([41,32,61,32] : Str) ++ lC d.body ++ [10]))) = S')) (hN : Fb u0 u1 u2 u3 u4 u6 iW iY u16 jc jd je jM lD lw l j A c w b S' N) (hP : ∀ c (a : Act) i (v : Value) w,Qx (Exit.panic c) (a.put i v) w → Qx (Exit.panic c) a w) :
  Code.wp Tryz.prog OZ (Exit.then N Qx) { tmps:=#[u0,u1,u2,u3,u4,.pointer (some ⟨b,0,none⟩),u6,.pointer (some ⟨q,0,none⟩),u8,u9,jI,jJ,jk,jl,iW,iY,u16,jc,jd,je,.slice A l.length c,.int .i64 l.length,.int .i64 j,jM,jB,jG,jH,jQ,jR,jS,jT,jU,u32,jV,jW,jX,jY,jZ,ku,kw,kz,kC,kD,kE,kF,kG,kH,kJ,kK,kL,kM,kN,kP,kQ,kR,kS,kT,kU,kV,kW,kX,kY,kZ,lg,u64,lh,lm,lq,lu,lJ,lK,lL,lM,lN,lQ,lS,lT,lU,lV,lW,lX,lY,lZ,l9,mf,mg,mi,mr,mD,mF,lD,lw],defers:=[] } wz:=by
 have h : OZ = Code.seq _ _:=rfl
 rw [h]
 clear h
 have HN:=zH hN
 have HP:=zH hP
 have HW:=zH hw
 have HF:=zH hf
 have HG:=zH hg
 have Gi:=zH hin
 have HD:=zH hd
 have HC:=zH hc
 clear hN hP hw hf hg hin hd hc
 obtain ⟨v1,v2,v3,v4,ps,rfl,g1,g2,g3,g4,g5⟩:=id HC.out
 obtain ⟨e1,p1,rfl,hp1,-⟩:=id g1
 obtain ⟨e2,p2,rfl,hp2,-⟩:=id g2
 obtain ⟨n,hn⟩ : ∃ n,d.vals.length = n:=⟨_,rfl⟩
 have hn2 : d.sorts.length = n:=by rw [← HG.out.vs]; exact hn
 have D7 : n ≤ 6:=by rw [← hn]; exact HG.out.vl
 have k1 : wz.cell? ⟨q,1,none⟩ = some (.slice e1 n p1):=by rw [← hn]; exact HD.out.bx.at_ (j:=1) rfl
 rw [hn] at hp1
 rw [hn2] at hp2
 have LQ : Hid (bD All w (.slice e1 n p1) d.vals):=zH (by rw [← hn]; exact g1)
 have HG2 : Hid (rU All w (.slice e2 n p2) d.sorts):=zH (by rw [← hn2]; exact g2)
 have H2 : Hid ((Value.string ⟨d.name.toArray⟩ :: .slice e1 d.vals.length p1 :: .slice e2 d.sorts.length p2 :: v3 :: v4 :: ps)[2]? = some (.slice e2 n p2)):=zH (by rw [hn2]; rfl)
 have Gy:=zH hn
 have ru:=zH hn2
 have NK:=zH (vS HG.out)
 have UM:=vP HG.out
 have UA : Hid (∀ k,(bn comma ((gX d).take k)).length ≤ 200):=zH (fun k => Nat.le_trans (yZ (sep:=comma) (gX d) k) UM)
 obtain ⟨CS,hCS⟩ : ∃ x,(Value.string ⟨d.name.toArray⟩ :: .slice e1 d.vals.length p1 :: .slice e2 d.sorts.length p2 :: v3 :: v4 :: ps) = x:=⟨_,rfl⟩
 rw [hCS] at HD HC H2
 obtain ⟨gb,go,gc,hg1,hg2,hg3⟩:=Gi.out.ps
 have HGR:=zH hg3
 have RZ:=zH hg1
 clear g1 g2 g3 g4 g5 hn hn2 hCS hg1 hg3 UM
 go_step
 rename_i K8 h8
 have H8:=zH h8
 clear h8
 go_wp2_with fail
 go_loopw [34] (fun iv wr => ∃ (k : Nat),k ≤ n ∧ iv = .int .i64 k ∧ Hid (QS w wr b (S ++ bn comma ((gX d).take k))) ∧ Hid (QD wr b q CS)) (fun iv _ => n - (intOf iv).toNat)
 case atStart => exact ⟨0,by omega,rfl,zH (by have:=HW.out; simpa [bn] using this),HD⟩
 case round =>
  obtain ⟨k,hk,rfl,HQ,MS⟩:=hrel
  have hbl:=HQ.out.bl
  by_cases hlt : k < n
  ·obtain ⟨s,hs⟩ : ∃ y,d.vals[k]? = some y:=⟨_,List.getElem?_eq_getElem (by have:=Gy.out; omega)⟩
   obtain ⟨t,ht⟩ : ∃ y,d.sorts[k]? = some y:=⟨_,List.getElem?_eq_getElem (by have:=ru.out; omega)⟩
   have yz:=zl hs ht
   have hstep:=wQ (sep:=comma) yz
   have OO:=HG.out.v8 s (az hs)
   have ht0:=HG.out.s3 t (az ht)
   obtain ⟨tn,htn⟩ : ∃ m : Nat,t = (m : Int):=⟨t.toNat,by omega⟩
   subst htn
   have htn1 : 1 ≤ tn:=by omega
   have htn3 : tn ≤ 3:=by omega
   have htl:=xU (s:=(tn : Int))
   have JB:=sort_cell HGR.out htn1 htn3
   obtain ⟨As,caps,es,hsc,xK⟩:=LQ.out
   injection es with es1 es2 es3
   subst es1 es3
   obtain ⟨sb,so,rfl,-,JD⟩:=xK (by have:=Gy.out; omega)
   have hscell:=JD k s hs
   have kl:=(hbl.cell (p:=⟨sb,so + k,none⟩) (cell_lt hscell)).trans hscell
   obtain ⟨At,capt,et,htc,FQ⟩:=HG2.out
   injection et with et1 et2 et3
   subst et1 et3
   obtain ⟨tb,tf,rfl,-,htr⟩:=FQ (by have:=ru.out; omega)
   have wP:=htr k _ ht
   have kt:=(hbl.cell (p:=⟨tb,tf + k,none⟩) (cell_lt wP)).trans wP
   obtain ⟨Y,hY⟩ : ∃ x,uU (tn : Int) = x:=⟨_,rfl⟩
   rw [hY] at hstep htl JB
   have ks:=(hbl.cell (p:=⟨gb,go + tn,none⟩) (cell_lt JB)).trans JB
   have kg:=(hbl.cell (p:=⟨0,0,none⟩) (cell_lt RZ.out)).trans RZ.out
   have k2:=MS.out.bx.at_ H2.out
   have EZ:=zH hstep
   have hcp:=UA.out k
   obtain ⟨Sk,MF⟩ : ∃ x,S ++ bn comma ((gX d).take k) = x:=⟨_,rfl⟩
   have hSkl : Sk.length ≤ 5850000000000:=by rw [← MF,List.length_append]; omega
   rw [MF] at HQ
   have PT:=zH MF
   have htn4 : tn < 4:=by omega
   have HS0:=zH hscell
   have HT0:=zH wP
   have PS:=zH JB
   clear hs ht yz ht0 hscell JD xK hsc es2 htc FQ htr wP et2 hY JB hstep MF hbl hcp
   by_cases h0 : k = 0
   ·have H0:=zH h0
    have h0' : ¬ 0 < k:=by omega
    clear h0
    have rg:=kg
    have rs:=ks
    have rt:=kt
    have r2:=k2
    clear kg ks kt k2
    go_wp2_with fail
    have hb0 : Below wr.heap.size wr wr.drew:=(Below.refl _ _).drew
    have fJ:=zH (fun (wq : World) (hSw : Below wr.heap.size wr wq) => And.intro (ae r2 hSw) (And.intro (ae rg hSw) (And.intro (ae rs hSw) (ae rt hSw))))
    refine aC 11 (fun w' : World => Below wr.heap.size wr w') (by kernel_rfl) ?_
    refine gY (i:=0) (v:=?_) rfl (by kernel_rfl) (by kernel_rfl) (by kernel_rfl) (by kernel_rfl) (by kernel_rfl) (fun _ _ _ h => HP.out _ _ _ _ _ h) (Or.inl ⟨by rfl,?_⟩) hb0 ?_
    rotate_left
    ·(intro wq hSw; obtain ⟨_,_,_,_⟩:=fJ.out wq hSw; go_simp; all_goals first | with_reducible rfl | rw [if_pos (by omega)] | rw [zI])
    try simp only [zA,zB,zC,Act.put,zD,zE,zF]
    refine gY (i:=1) (v:=?_) rfl (by kernel_rfl) (by kernel_rfl) (by kernel_rfl) (by kernel_rfl) (by kernel_rfl) (fun _ _ _ h => HP.out _ _ _ _ _ h) (Or.inl ⟨by rfl,?_⟩) hb0 ?_
    rotate_left
    ·(intro wq hSw; obtain ⟨_,_,_,_⟩:=fJ.out wq hSw; go_simp; all_goals first | with_reducible rfl | rw [if_pos (by omega)] | rw [zI])
    try simp only [zA,zB,zC,Act.put,zD,zE,zF]
    refine gY (i:=2) (v:=?_) rfl (by kernel_rfl) (by kernel_rfl) (by kernel_rfl) (by kernel_rfl) (by kernel_rfl) (fun _ _ _ h => HP.out _ _ _ _ _ h) (Or.inl ⟨by rfl,?_⟩) hb0 ?_
    rotate_left
    ·(intro wq hSw; obtain ⟨_,_,_,_⟩:=fJ.out wq hSw; go_simp; all_goals first | with_reducible rfl | rw [if_pos (by omega)] | rw [zI])
    try simp only [zA,zB,zC,Act.put,zD,zE,zF]
    refine gY (i:=3) (v:=?_) rfl (by kernel_rfl) (by kernel_rfl) (by kernel_rfl) (by kernel_rfl) (by kernel_rfl) (fun _ _ _ h => HP.out _ _ _ _ _ h) (Or.inl ⟨by rfl,?_⟩) hb0 ?_
    rotate_left
    ·(intro wq hSw; obtain ⟨_,_,_,_⟩:=fJ.out wq hSw; go_simp; all_goals first | with_reducible rfl | rw [if_pos (by omega)] | rw [zI])
    try simp only [zA,zB,zC,Act.put,zD,zE,zF]
    refine gY (i:=4) (v:=?_) rfl (by kernel_rfl) (by kernel_rfl) (by kernel_rfl) (by kernel_rfl) (by kernel_rfl) (fun _ _ _ h => HP.out _ _ _ _ _ h) (Or.inl ⟨by rfl,?_⟩) hb0 ?_
    rotate_left
    ·(intro wq hSw; obtain ⟨_,_,_,_⟩:=fJ.out wq hSw; go_simp; all_goals first | with_reducible rfl | rw [if_pos (by omega)] | rw [zI])
    try simp only [zA,zB,zC,Act.put,zD,zE,zF]
    refine gY (i:=5) (v:=?_) rfl (by kernel_rfl) (by kernel_rfl) (by kernel_rfl) (by kernel_rfl) (by kernel_rfl) (fun _ _ _ h => HP.out _ _ _ _ _ h) (Or.inl ⟨by rfl,?_⟩) hb0 ?_
    rotate_left
    ·(intro wq hSw; obtain ⟨_,_,_,_⟩:=fJ.out wq hSw; go_simp; all_goals first | with_reducible rfl | rw [if_pos (by omega)] | rw [zI])
    try simp only [zA,zB,zC,Act.put,zD,zE,zF]
    refine gY (i:=6) (v:=?_) rfl (by kernel_rfl) (by kernel_rfl) (by kernel_rfl) (by kernel_rfl) (by kernel_rfl) (fun _ _ _ h => HP.out _ _ _ _ _ h) (Or.inl ⟨by rfl,?_⟩) hb0 ?_
    rotate_left
    ·(intro wq hSw; obtain ⟨_,_,_,_⟩:=fJ.out wq hSw; go_simp; all_goals first | with_reducible rfl | rw [if_pos (by omega)] | rw [zI])
    try simp only [zA,zB,zC,Act.put,zD,zE,zF]
    refine gY (i:=7) (v:=?_) rfl (by kernel_rfl) (by kernel_rfl) (by kernel_rfl) (by kernel_rfl) (by kernel_rfl) (fun _ _ _ h => HP.out _ _ _ _ _ h) (Or.inl ⟨by rfl,?_⟩) hb0 ?_
    rotate_left
    ·(intro wq hSw; obtain ⟨_,_,_,_⟩:=fJ.out wq hSw; go_simp; all_goals first | with_reducible rfl | rw [if_pos (by omega)] | rw [zI])
    try simp only [zA,zB,zC,Act.put,zD,zE,zF]
    refine gY (i:=8) (v:=?_) rfl (by kernel_rfl) (by kernel_rfl) (by kernel_rfl) (by kernel_rfl) (by kernel_rfl) (fun _ _ _ h => HP.out _ _ _ _ _ h) (Or.inl ⟨by rfl,?_⟩) hb0 ?_
    rotate_left
    ·(intro wq hSw; obtain ⟨_,_,_,_⟩:=fJ.out wq hSw; go_simp; all_goals first | with_reducible rfl | rw [if_pos (by omega)] | rw [zI])
    try simp only [zA,zB,zC,Act.put,zD,zE,zF]
    refine gY (i:=9) (v:=?_) rfl (by kernel_rfl) (by kernel_rfl) (by kernel_rfl) (by kernel_rfl) (by kernel_rfl) (fun _ _ _ h => HP.out _ _ _ _ _ h) (Or.inl ⟨by rfl,?_⟩) hb0 ?_
    rotate_left
    ·(intro wq hSw; obtain ⟨_,_,_,_⟩:=fJ.out wq hSw; go_simp; all_goals first | with_reducible rfl | rw [if_pos (by omega)] | rw [zI])
    try simp only [zA,zB,zC,Act.put,zD,zE,zF]
    refine gY (i:=10) (v:=?_) rfl (by kernel_rfl) (by kernel_rfl) (by kernel_rfl) (by kernel_rfl) (by kernel_rfl) (fun _ _ _ h => HP.out _ _ _ _ _ h) (Or.inl ⟨by rfl,?_⟩) hb0 ?_
    rotate_left
    ·(intro wq hSw; obtain ⟨_,_,_,_⟩:=fJ.out wq hSw; go_simp; all_goals first | with_reducible rfl | rw [if_pos (by omega)] | rw [zI])
    try simp only [zA,zB,zC,Act.put,zD,zE,zF]
    refine zO 11 fun K hK => ?_
    go_simp
    refine Calls.mono (zi (HQ.out.next hb0) (MS.out.next hb0) (s ++ 58 :: Y) (by simp; omega)) ?_
    rintro e w3 ⟨rfl,hw3,hd3⟩
    have HW3:=zH hw3
    have HD3:=zH hd3
    clear hw3 hd3
    refine hK.out _ _ (fun h => absurd h (by decide)) ?_
    clear hK K
    try simp only [zA,zB,zC,Act.put,zD,zE,zF]
    refine bf (by kernel_rfl) ?_
    clear hb0
    go_wp2_with fail
    go_roundw
    case rel => exact ⟨k + 1,by omega,by go_num,zH (by rw [EZ.out,if_pos H0.out]; have:=HW3.out; rw [← PT.out,H0.out,List.take_zero] at this; simpa [bn] using this),HD3⟩
    case measure => simp [intOf]; omega
   ·have hpos : 0 < k:=by omega
    go_wp2_with fail
    refine Calls.mono (zi HQ.out MS.out [44,32] (by simp; omega)) ?_
    rintro e w2 ⟨rfl,hw2,hd2⟩
    have HW2:=zH hw2
    have HD2:=zH hd2
    have MJ:=hw2.bl
    have rs:=(MJ.cell (p:=⟨gb,go + tn,none⟩) (cell_lt PS.out)).trans PS.out
    have rg:=(MJ.cell (p:=⟨0,0,none⟩) (cell_lt RZ.out)).trans RZ.out
    have rt:=(MJ.cell (p:=⟨tb,tf + k,none⟩) (cell_lt HT0.out)).trans HT0.out
    have r2:=hd2.bx.at_ H2.out
    clear hw2 hd2 MJ kl kt ks kg k2
    go_wp2_with fail
    have hb0 : Below w2.heap.size w2 w2.drew:=(Below.refl _ _).drew
    have BX:=zH (fun (wq : World) (hSw : Below w2.heap.size w2 wq) => And.intro (ae r2 hSw) (And.intro (ae rg hSw) (And.intro (ae rs hSw) (ae rt hSw))))
    refine aC 11 (fun w' : World => Below w2.heap.size w2 w') (by kernel_rfl) ?_
    refine gY (i:=0) (v:=?_) rfl (by kernel_rfl) (by kernel_rfl) (by kernel_rfl) (by kernel_rfl) (by kernel_rfl) (fun _ _ _ h => HP.out _ _ _ _ _ h) (Or.inl ⟨by rfl,?_⟩) hb0 ?_
    rotate_left
    ·(intro wq hSw; obtain ⟨_,_,_,_⟩:=BX.out wq hSw; go_simp; all_goals first | with_reducible rfl | rw [if_pos (by omega)] | rw [zI])
    try simp only [zA,zB,zC,Act.put,zD,zE,zF]
    refine gY (i:=1) (v:=?_) rfl (by kernel_rfl) (by kernel_rfl) (by kernel_rfl) (by kernel_rfl) (by kernel_rfl) (fun _ _ _ h => HP.out _ _ _ _ _ h) (Or.inl ⟨by rfl,?_⟩) hb0 ?_
    rotate_left
    ·(intro wq hSw; obtain ⟨_,_,_,_⟩:=BX.out wq hSw; go_simp; all_goals first | with_reducible rfl | rw [if_pos (by omega)] | rw [zI])
    try simp only [zA,zB,zC,Act.put,zD,zE,zF]
    refine gY (i:=2) (v:=?_) rfl (by kernel_rfl) (by kernel_rfl) (by kernel_rfl) (by kernel_rfl) (by kernel_rfl) (fun _ _ _ h => HP.out _ _ _ _ _ h) (Or.inl ⟨by rfl,?_⟩) hb0 ?_
    rotate_left
    ·(intro wq hSw; obtain ⟨_,_,_,_⟩:=BX.out wq hSw; go_simp; all_goals first | with_reducible rfl | rw [if_pos (by omega)] | rw [zI])
    try simp only [zA,zB,zC,Act.put,zD,zE,zF]
    refine gY (i:=3) (v:=?_) rfl (by kernel_rfl) (by kernel_rfl) (by kernel_rfl) (by kernel_rfl) (by kernel_rfl) (fun _ _ _ h => HP.out _ _ _ _ _ h) (Or.inl ⟨by rfl,?_⟩) hb0 ?_
    rotate_left
    ·(intro wq hSw; obtain ⟨_,_,_,_⟩:=BX.out wq hSw; go_simp; all_goals first | with_reducible rfl | rw [if_pos (by omega)] | rw [zI])
    try simp only [zA,zB,zC,Act.put,zD,zE,zF]
    refine gY (i:=4) (v:=?_) rfl (by kernel_rfl) (by kernel_rfl) (by kernel_rfl) (by kernel_rfl) (by kernel_rfl) (fun _ _ _ h => HP.out _ _ _ _ _ h) (Or.inl ⟨by rfl,?_⟩) hb0 ?_
    rotate_left
    ·(intro wq hSw; obtain ⟨_,_,_,_⟩:=BX.out wq hSw; go_simp; all_goals first | with_reducible rfl | rw [if_pos (by omega)] | rw [zI])
    try simp only [zA,zB,zC,Act.put,zD,zE,zF]
    refine gY (i:=5) (v:=?_) rfl (by kernel_rfl) (by kernel_rfl) (by kernel_rfl) (by kernel_rfl) (by kernel_rfl) (fun _ _ _ h => HP.out _ _ _ _ _ h) (Or.inl ⟨by rfl,?_⟩) hb0 ?_
    rotate_left
    ·(intro wq hSw; obtain ⟨_,_,_,_⟩:=BX.out wq hSw; go_simp; all_goals first | with_reducible rfl | rw [if_pos (by omega)] | rw [zI])
    try simp only [zA,zB,zC,Act.put,zD,zE,zF]
    refine gY (i:=6) (v:=?_) rfl (by kernel_rfl) (by kernel_rfl) (by kernel_rfl) (by kernel_rfl) (by kernel_rfl) (fun _ _ _ h => HP.out _ _ _ _ _ h) (Or.inl ⟨by rfl,?_⟩) hb0 ?_
    rotate_left
    ·(intro wq hSw; obtain ⟨_,_,_,_⟩:=BX.out wq hSw; go_simp; all_goals first | with_reducible rfl | rw [if_pos (by omega)] | rw [zI])
    try simp only [zA,zB,zC,Act.put,zD,zE,zF]
    refine gY (i:=7) (v:=?_) rfl (by kernel_rfl) (by kernel_rfl) (by kernel_rfl) (by kernel_rfl) (by kernel_rfl) (fun _ _ _ h => HP.out _ _ _ _ _ h) (Or.inl ⟨by rfl,?_⟩) hb0 ?_
    rotate_left
    ·(intro wq hSw; obtain ⟨_,_,_,_⟩:=BX.out wq hSw; go_simp; all_goals first | with_reducible rfl | rw [if_pos (by omega)] | rw [zI])
    try simp only [zA,zB,zC,Act.put,zD,zE,zF]
    refine gY (i:=8) (v:=?_) rfl (by kernel_rfl) (by kernel_rfl) (by kernel_rfl) (by kernel_rfl) (by kernel_rfl) (fun _ _ _ h => HP.out _ _ _ _ _ h) (Or.inl ⟨by rfl,?_⟩) hb0 ?_
    rotate_left
    ·(intro wq hSw; obtain ⟨_,_,_,_⟩:=BX.out wq hSw; go_simp; all_goals first | with_reducible rfl | rw [if_pos (by omega)] | rw [zI])
    try simp only [zA,zB,zC,Act.put,zD,zE,zF]
    refine gY (i:=9) (v:=?_) rfl (by kernel_rfl) (by kernel_rfl) (by kernel_rfl) (by kernel_rfl) (by kernel_rfl) (fun _ _ _ h => HP.out _ _ _ _ _ h) (Or.inl ⟨by rfl,?_⟩) hb0 ?_
    rotate_left
    ·(intro wq hSw; obtain ⟨_,_,_,_⟩:=BX.out wq hSw; go_simp; all_goals first | with_reducible rfl | rw [if_pos (by omega)] | rw [zI])
    try simp only [zA,zB,zC,Act.put,zD,zE,zF]
    refine gY (i:=10) (v:=?_) rfl (by kernel_rfl) (by kernel_rfl) (by kernel_rfl) (by kernel_rfl) (by kernel_rfl) (fun _ _ _ h => HP.out _ _ _ _ _ h) (Or.inl ⟨by rfl,?_⟩) hb0 ?_
    rotate_left
    ·(intro wq hSw; obtain ⟨_,_,_,_⟩:=BX.out wq hSw; go_simp; all_goals first | with_reducible rfl | rw [if_pos (by omega)] | rw [zI])
    try simp only [zA,zB,zC,Act.put,zD,zE,zF]
    refine zO 11 fun K hK => ?_
    go_simp
    refine Calls.mono (zi (HW2.out.next hb0) (HD2.out.next hb0) (s ++ 58 :: Y) (by simp; omega)) ?_
    rintro e w3 ⟨rfl,hw3,hd3⟩
    have HW3:=zH hw3
    have HD3:=zH hd3
    clear hw3 hd3
    refine hK.out _ _ (fun h => absurd h (by decide)) ?_
    clear hK K
    try simp only [zA,zB,zC,Act.put,zD,zE,zF]
    refine bf (by kernel_rfl) ?_
    clear hb0
    go_wp2_with fail
    go_roundw
    case rel => exact ⟨k + 1,by omega,by go_num,zH (by rw [EZ.out,if_neg h0,← List.append_assoc,PT.out]; have:=HW3.out; simpa [comma] using this),HD3⟩
    case measure => simp [intOf]; omega
  ·have hkn : k = n:=by omega
   subst hkn
   have hjn : bn comma ((gX d).take k) = bn comma (gX d):=by
    rw [List.take_of_length_le (by rw [NK.out.1,Gy.out]; exact Nat.le_refl _)]
   have hlen:=UA.out k
   have hS3 : (S ++ bn comma ((gX d).take k)) ++ ((if d.chans.length = 0 then [] else ([59,32] : Str) ++ bn comma (fM d)) ++ (([41,32,61,32] : Str) ++ lC d.body ++ [10])) = S':=by rw [hjn,List.append_assoc]; exact hS.out
   have Jb:=zH hS3
   clear hjn hS3
   go_wp2_with fail
   refine H8.out _ _ ?_
   clear H8
   exact qw_16 l j A c w wr b (S ++ bn comma ((gX d).take k)) S' q CS d N Qx Gi.out HQ.out MS.out HC.out HF.out HG.out (by rw [List.length_append]; omega) Jb HN.out HP.out
theorem qw_8 (l : List Df) (j : Nat) (A : Option Addr) (c : Nat) (w wz : World) (b : Nat) (S S' : Str) (q : Nat) (cs : List Value) (d : Df) {u0 u1 u2 u3 u4 u6 u8 u9 jI jJ jk jl iW iY u16 jc jd je jM jB jG jH jQ jR jS jT jU u32 jV jW jX jY jZ ku kw kz kC kD kE kF kG kH kJ kK kL kM kN kP kQ kR kS kT kU kV kW kX kY kZ lg u64 lh lm lq lu lJ lK lL lM lN lQ lS lT lU lV lW lX lY lZ l9 mf mg mi mr mD mF lD lw : Value} (N : Act → World → Prop) (Qx : Exit → Act → World → Prop) (hin : Pj w A c l) (hw : QS w wz b S) (hd : QD wz b q cs) (hc : Gh All w cs d) (hf : oh 1048576 d) (hg : o7 d) (hsl : S.length ≤ 5700000000000) (hS : Hid (S ++ (([100,101,102,32] : Str) ++ d.name ++ [40] ++ (bn comma (gX d) ++ ((if d.chans.length = 0 then [] else ([59,32] : Str) ++ bn comma (fM d)) ++ (([41,32,61,32] : Str) ++ lC d.body ++ [10])))) = S')) (hN : Fb u0 u1 u2 u3 u4 u6 iW iY u16 jc jd je jM lD lw l j A c w b S' N) (hP : ∀ c (a : Act) i (v : Value) w,Qx (Exit.panic c) (a.put i v) w → Qx (Exit.panic c) a w) :
  Code.wp Tryz.prog OY (Exit.then N Qx) { tmps:=#[u0,u1,u2,u3,u4,.pointer (some ⟨b,0,none⟩),u6,.pointer (some ⟨q,0,none⟩),u8,u9,jI,jJ,jk,jl,iW,iY,u16,jc,jd,je,.slice A l.length c,.int .i64 l.length,.int .i64 j,jM,jB,jG,jH,jQ,jR,jS,jT,jU,u32,jV,jW,jX,jY,jZ,ku,kw,kz,kC,kD,kE,kF,kG,kH,kJ,kK,kL,kM,kN,kP,kQ,kR,kS,kT,kU,kV,kW,kX,kY,kZ,lg,u64,lh,lm,lq,lu,lJ,lK,lL,lM,lN,lQ,lS,lT,lU,lV,lW,lX,lY,lZ,l9,mf,mg,mi,mr,mD,mF,lD,lw],defers:=[] } wz:=by
 have h : OY = Code.seq _ _:=rfl
 rw [h]
 clear h
 have HN:=zH hN
 have HP:=zH hP
 have HW:=zH hw
 have HF:=zH hf
 have HG:=zH hg
 have Gi:=zH hin
 have HD:=zH hd
 have HC:=zH hc
 clear hN hP hw hf hg hin hd hc
 obtain ⟨v1,v2,v3,v4,ps,rfl,-⟩:=id HC.out
 have k0:=HD.out.bx.at_ (j:=0) rfl
 have hnm:=HG.out.nm
 have hS3 : (S ++ ([100,101,102,32] ++ (d.name ++ [40]))) ++ (bn comma (gX d) ++ ((if d.chans.length = 0 then [] else ([59,32] : Str) ++ bn comma (fM d)) ++ (([41,32,61,32] : Str) ++ lC d.body ++ [10]))) = S':=by rw [← hS.out]; simp only [List.append_assoc]
 have Jb:=zH hS3
 clear hS hS3
 go_step
 rename_i K8 h8
 have H8:=zH h8
 clear h8
 go_wp2_with fail
 refine Calls.mono (zi HW.out HD.out (100 :: 101 :: 102 :: 32 :: (d.name ++ [40])) (by simp; omega)) ?_
 rintro e w2 ⟨rfl,hw2,hd2⟩
 have HW2:=zH hw2
 have HD2:=zH hd2
 clear hw2 hd2
 go_wp2_with fail
 refine H8.out _ _ ?_
 clear H8
 exact qw_9 l j A c w w2 b (S ++ ([100,101,102,32] ++ (d.name ++ [40]))) S' q _ d N Qx Gi.out (by have:=HW2.out; simpa using this) HD2.out HC.out HF.out HG.out (by simp only [zG,zJ,zK]; omega) Jb HN.out HP.out
theorem alloc_at (w : World) (ob : Obj) : (w.alloc ob).heap[w.heap.size]? = some ob:=by
 show (w.heap.push _)[w.heap.size]? = _
 rw [Array.getElem?_push_size]
theorem qw_7 (l : List Df) (j : Nat) (A : Option Addr) (c : Nat) (w wz : World) (b : Nat) (S S' : Str) (d : Df) {u0 u1 u2 u3 u4 u6 u7 u8 u9 jI jJ jk jl iW iY u16 jc jd je jM jB jG jH jQ jR jS jT jU u32 jV jW jX jY jZ ku kw kz kC kD kE kF kG kH kJ kK kL kM kN kP kQ kR kS kT kU kV kW kX kY kZ lg u64 lh lm lq lu lJ lK lL lM lN lQ lS lT lU lV lW lX lY lZ l9 mf mg mi mr mD mF lD lw : Value} (N : Act → World → Prop) (Qx : Exit → Act → World → Prop) (hin : Pj w A c l) (hw : QS w wz b S) (hf : oh 1048576 d) (hg : o7 d) (hsl : S.length ≤ 5600000000000) (hj : l[j]? = some d) (hlc : l.length ≤ c) (hlen : l.length ≤ 1048576) (hS : Hid (S ++ yG d = S')) (hN : Fb u0 u1 u2 u3 u4 u6 iW iY u16 jc jd je jM lD lw l j A c w b S' N) (hP : ∀ c (a : Act) i (v : Value) w,Qx (Exit.panic c) (a.put i v) w → Qx (Exit.panic c) a w) :
  Code.wp Tryz.prog SS (Exit.then N Qx) { tmps:=#[u0,u1,u2,u3,u4,.pointer (some ⟨b,0,none⟩),u6,u7,u8,u9,jI,jJ,jk,jl,iW,iY,u16,jc,jd,je,.slice A l.length c,.int .i64 l.length,.int .i64 j,jM,jB,jG,jH,jQ,jR,jS,jT,jU,u32,jV,jW,jX,jY,jZ,ku,kw,kz,kC,kD,kE,kF,kG,kH,kJ,kK,kL,kM,kN,kP,kQ,kR,kS,kT,kU,kV,kW,kX,kY,kZ,lg,u64,lh,lm,lq,lu,lJ,lK,lL,lM,lN,lQ,lS,lT,lU,lV,lW,lX,lY,lZ,l9,mf,mg,mi,mr,mD,mF,lD,lw],defers:=[] } wz:=by
 have h : SS = Code.seq _ _:=rfl
 rw [h]
 clear h
 have HN:=zH hN
 have HP:=zH hP
 have HW:=zH hw
 have HF:=zH hf
 have HG:=zH hg
 have Gi:=zH hin
 clear hN hP hw hf hg hin
 have hjl : j < l.length:=(List.getElem?_eq_some_iff.1 hj).1
 obtain ⟨A',c',e,-,hrow⟩:=Gi.out.ds
 injection e with e1 e2 e3
 subst e1 e3
 obtain ⟨b',off,rfl,hbp,hr⟩:=hrow (by omega)
 obtain ⟨cs,hcl,hrg0,hdc⟩:=hr j d hj
 have hbw:=HW.out.bl
 have hrg:=nH hbw (wS hrg0 (by omega)) hrg0
 have Iu:=hdc.one
 have DN:=zH hrg
 have NP:=zH hdc
 have NF:=zH Iu
 obtain ⟨n,hn⟩ : ∃ n,l.length = n:=⟨_,rfl⟩
 have uQ:=zH hn
 rw [hn] at hjl hlc hlen
 have hj2 : j ≤ 1048576:=by omega
 have hbz:=HW.out.bd.lt
 have hS3 : S ++ (([100,101,102,32] : Str) ++ d.name ++ [40] ++ (bn comma (gX d) ++ ((if d.chans.length = 0 then [] else ([59,32] : Str) ++ bn comma (fM d)) ++ (([41,32,61,32] : Str) ++ lC d.body ++ [10])))) = S':=by
  rw [← hS.out,CE]
  simp only [List.append_assoc,gX,fM]
 have Jb:=zH hS3
 clear hrow hr hrg hdc Iu hj e2 hbp hrg0 hbw hS hS3
 rw [hn]
 clear hn
 go_step
 rename_i K8 h8
 have H8:=zH h8
 clear h8
 go_wp2_with (first | (refine uD DN.out hcl rfl (.tmp 24) rfl rfl ?_) | (refine wpList_storeDfT (rZ _ _ _ _ rfl) rfl hcl NF.out rfl (.tmp 7) (.tmp 25) rfl rfl rfl ⟨_,_,alloc_at _ _⟩ ?_; intro W hbx hty hbel; have hbW:=hbel _ _ (Nat.le_refl _) ((Below.refl wz.heap.size wz).alloc (Nat.le_refl _) _); have zY:=zH hbx; have N8:=zH hty; have yB:=zH hbW; clear hbx hbel hbW hty))
 refine H8.out _ _ ?_
 clear H8
 rw [← uQ.out]
 exact qw_8 l j _ _ w W b S S' wz.heap.size cs d N Qx Gi.out (HW.out.next yB.out) ⟨zY.out,N8.out,by omega⟩ NP.out HF.out HG.out (by omega) Jb HN.out HP.out
theorem sh_24 (l : List Df) (j : Nat) (A : Option Addr) (c : Nat) (w wz : World) (p : Nat) (ANS : Int) (q : Nat) (cs : List Value) (d : Df) (lk : Int) {u0 u1 u2 u4 u6 u7 u8 u9 jI jJ jk jl iW iY u16 jc jd je jL jB jG jH jQ jR jS jT jU u32 jV jW jX jY jZ ku kw kz kC kD kE kF kG kH kJ kK kL kM kN kP kQ kR kS kT kU kV kW kX kY kZ lg u64 lh lm lq lu lJ lK lL lM lN lQ lS lT lU lV lW lX lY lZ l9 mf mg mi mr mD mF lD lw mP nP nD : Value} (N : Act → World → Prop) (Qx : Exit → Act → World → Prop) (hw : Hw w wz p l A c) (hd : Oc wz p q cs d) (hf : oh 1048576 d) (hl : Left wz p lk) (h0 : 0 ≤ lk) (wu : lk ≤ 200) (HA : Hid ((if (mG d.body lk).1 = 0 then nS (l.drop (j + 1)) (mG d.body lk).2 else (mG d.body lk).1) = ANS)) (hN : Cb u0 u1 u4 u6 u8 jk jl iW iY u16 jc jd je jL jB nD l j A c w p ANS N)
  (hQ : ∀ a w',(bodyPost Tryz.prog Tryz.f16 (fun e w' => e = .returned (.int .i64 ANS) ∧ Below w.heap.size w w')) Exit.ret a w' → Qx Exit.ret a w') :
  Code.wp Tryz.prog Nr (Exit.then N Qx) { tmps:=#[u0,u1,u2,.pointer (some ⟨p,0,none⟩),u4,.pointer (some ⟨q,0,none⟩),u6,u7,u8,u9,jI,jJ,jk,jl,iW,iY,u16,jc,jd,je,jL,.slice A l.length c,.int .i64 l.length,.int .i64 j,jB,jG,jH,jQ,jR,jS,jT,jU,u32,jV,jW,jX,jY,jZ,ku,kw,kz,kC,kD,kE,kF,kG,kH,kJ,kK,kL,kM,kN,kP,kQ,kR,kS,kT,kU,kV,kW,kX,kY,kZ,lg,u64,lh,lm,lq,lu,lJ,lK,lL,lM,lN,lQ,lS,lT,lU,lV,lW,lX,lY,lZ,l9,mf,mg,mi,mr,mD,mF,lD,lw,mP,nP,nD],defers:=[] } wz:=by
 have h : Nr = Code.seq _ _:=rfl
 rw [h]
 clear h
 have HN:=zH hN
 have HQ:=zH hQ
 have HW:=zH hw
 have HD:=zH hd
 have HF:=zH hf
 have HL:=zH hl
 clear hN hQ hw hd hf hl
 obtain ⟨v1,v2,v3,v4,ps,rfl,g1,g2,g3,g4,g5⟩:=id HD.out.dc
 have hpl : ps.length = 19:=g5.len
 have MW:=zH g5
 have hrg : wz.rangeAt q 5 ps:=fun i v hi => by
  have:=HD.out.bx.rg (i + 5) v (by simpa using hi)
  rwa [show 0 + (i + 5) = 5 + i by omega] at this
 have DN:=zH hrg
 clear g1 g2 g3 g4 g5 hrg
 obtain ⟨R,hR⟩ : ∃ x,mG d.body lk = x:=⟨_,rfl⟩
 have hle:=zt d.body lk
 have hcall:=shapes_any (bG d.body) d.body (.agg ps.toArray) p lk wz (Nat.le_refl _) MW.out HF.out.2.2.2.2.2.2.2.2.2 h0 wu HL.out HW.out.tb HW.out.wd
 unfold qP at hcall
 have hans:=HA.out
 rw [hR] at hcall hle hans
 have HC:=zH hcall
 have Gj:=zH hle
 have uK:=zH hans
 clear hcall hle hans hR HA
 by_cases he : R.1 = 0
 ·have hE : (R.1 != 0) = false:=by rw [bne_eq_false_iff_eq]; exact he
  have hp2 : 0 ≤ R.2 ∧ R.2 ≤ lk:=⟨Gj.out.2 he h0,Gj.out.1⟩
  have hnx : nS (l.drop (j + 1)) R.2 = ANS:=by have:=uK.out; rwa [if_pos he] at this
  have mV:=zH hnx
  clear he hnx
  go_wp2_with (first | (refine jb DN.out hpl rfl (.tmp 88) rfl rfl ?_))
  refine HC.out.mono ?_
  rintro e w2 ⟨rfl,hg2,hl2⟩
  go_wp2_with fail
  exact HN.out w2 R.2 (HW.out.grown hg2) hl2 hp2.1 (by omega) mV _ _ _ _ _ _ _ _ _ _ _ _ _ _ _ _ _ _ _ _ _ _ _ _ _ _ _ _ _ _ _ _ _ _ _ _ _ _ _ _ _ _ _ _ _ _ _ _ _ _ _ _ _ _ _ _ _ _ _ _ _ _ _ _ _ _ _ _ _ _ _ _ _ _ _ 
 ·have hE : (R.1 != 0) = true:=by rw [bne_iff_ne]; exact he
  have hnx : R.1 = ANS:=by have:=uK.out; rwa [if_neg he] at this
  have mV:=zH hnx
  clear he hnx
  go_wp2_with (first | (refine jb DN.out hpl rfl (.tmp 88) rfl rfl ?_))
  refine HC.out.mono ?_
  rintro e w2 ⟨rfl,hg2,hl2⟩
  go_wp2_with fail
  refine HQ.out _ _ ?_
  go_ret
  exact ⟨by rw [mV.out]; rfl,(HW.out.grown hg2).bl⟩
theorem Bh {l : List Ty} {k : Nat} {t : Ty} (h : l[k]? = some t) : nC (l.drop k) = if pg t = 0 then nC (l.drop (k + 1)) else pg t:=by
 obtain ⟨h1,h2⟩:=List.getElem?_eq_some_iff.1 h
 rw [List.drop_eq_getElem_cons h1,h2]
 rfl
theorem sh_17 (l : List Df) (j : Nat) (A : Option Addr) (c : Nat) (w wz : World) (p : Nat) (ANS : Int) (q : Nat) (cs : List Value) (d : Df) (lk : Int) {u0 u1 u2 u4 u6 u7 u8 u9 jI jJ jk jl iW iY u16 jc jd je jL jB jG jH jQ jR jS jT jU u32 jV jW jX jY jZ ku kw kz kC kD kE kF kG kH kJ kK kL kM kN kP kQ kR kS kT kU kV kW kX kY kZ lg u64 lh lm lq lu lJ lK lL lM lN lQ lS lT lU lV lW lX lY lZ l9 mf mg mi mr mD mF lD lw mP nP nD : Value} (N : Act → World → Prop) (Qx : Exit → Act → World → Prop) (hw : Hw w wz p l A c) (hd : Oc wz p q cs d) (hf : oh 1048576 d) (hl : Left wz p lk) (h0 : 0 ≤ lk) (wu : lk ≤ 200) (HA : Hid ((if nC d.types = 0 then if (mG d.body lk).1 = 0 then nS (l.drop (j + 1)) (mG d.body lk).2 else (mG d.body lk).1 else nC d.types) = ANS)) (hN : Cb u0 u1 u4 u6 u8 jk jl iW iY u16 jc jd je jL jB nD l j A c w p ANS N)
  (hQ : ∀ a w',(bodyPost Tryz.prog Tryz.f16 (fun e w' => e = .returned (.int .i64 ANS) ∧ Below w.heap.size w w')) Exit.ret a w' → Qx Exit.ret a w') :
  Code.wp Tryz.prog JS (Exit.then N Qx) { tmps:=#[u0,u1,u2,.pointer (some ⟨p,0,none⟩),u4,.pointer (some ⟨q,0,none⟩),u6,u7,u8,u9,jI,jJ,jk,jl,iW,iY,u16,jc,jd,je,jL,.slice A l.length c,.int .i64 l.length,.int .i64 j,jB,jG,jH,jQ,jR,jS,jT,jU,u32,jV,jW,jX,jY,jZ,ku,kw,kz,kC,kD,kE,kF,kG,kH,kJ,kK,kL,kM,kN,kP,kQ,kR,kS,kT,kU,kV,kW,kX,kY,kZ,lg,u64,lh,lm,lq,lu,lJ,lK,lL,lM,lN,lQ,lS,lT,lU,lV,lW,lX,lY,lZ,l9,mf,mg,mi,mr,mD,mF,lD,lw,mP,nP,nD],defers:=[] } wz:=by
 have h : JS = Code.seq _ _:=rfl
 rw [h]
 clear h
 have HN:=zH hN
 have HQ:=zH hQ
 have HW:=zH hw
 have HD:=zH hd
 have HF:=zH hf
 have HL:=zH hl
 clear hN hQ hw hd hf hl
 obtain ⟨v1,v2,v3,v4,ps,rfl,g1,g2,g3,g4,g5⟩:=id HD.out.dc
 obtain ⟨At,ct,rfl,hct,-⟩:=id g4
 have IZ:=zH g4
 have k4:=HD.out.bx.at_ (j:=4) rfl
 have hty : d.types.length ≤ 1048576:=HF.out.2.2.2.2.2.2.2.1
 obtain ⟨n,hn⟩ : ∃ n,d.types.length = n:=⟨_,rfl⟩
 have ru:=zH hn
 rw [hn] at hct hty k4
 have IZ : Hid (qZ (· ≠ p) wz (.slice At n ct) d.types):=zH (by rw [← hn]; exact IZ.out)
 clear g1 g2 g3 g4 g5 hn
 go_step
 rename_i K8 h8
 have H8:=zH h8
 clear h8
 go_wp2_with fail
 go_loopw [78] (fun i wr => ∃ k : Nat,k ≤ n ∧ i = .int .i64 k ∧ Hid (nC d.types = nC (d.types.drop k)) ∧ Below wz.heap.size wz wr) (fun i _ => n - (intOf i).toNat)
 case atStart => exact ⟨0,by omega,rfl,zH rfl,Below.refl _ _⟩
 case round =>
  obtain ⟨k,hk,rfl,hs,hbq⟩:=hrel
  by_cases hlt : k < n
  ·obtain ⟨t,ht⟩ : ∃ y,d.types[k]? = some y:=⟨_,List.getElem?_eq_getElem (by have:=ru.out; omega)⟩
   have HC:=zH ht
   obtain ⟨-,-,b',off,A1,n1,c1,A2,n2,c2,rfl,-,y0,y1,y2,y3,y4,hL,hK⟩:=qi (IZ.out.keep (Same.below hbq) (fun _ h _ => h)) ht
   have HLK:=zH (And.intro hL hK)
   have htf : Fit t:=HF.out.2.2.2.2.2.2.2.2.1 t (az HC.out)
   obtain ⟨wa,mQ⟩ : ∃ y,wr.alloc (.cells #[.int .i64 t.kind,.int .i64 t.sort,.string ⟨t.name.toArray⟩,.slice A1 n1 c1,.slice A2 n2 c2] 30) = y:=⟨_,rfl⟩
   have hba : Below wr.heap.size wr wa:=by subst mQ; exact (Below.refl _ _).alloc (Nat.le_refl _) _
   have a0 : wa.cell? ⟨wr.heap.size,0,none⟩ = some (.int .i64 t.kind):=by subst mQ; simp [go_sem]
   have a1 : wa.cell? ⟨wr.heap.size,1,none⟩ = some (.int .i64 t.sort):=by subst mQ; simp [go_sem]
   have a2 : wa.cell? ⟨wr.heap.size,2,none⟩ = some (.string ⟨t.name.toArray⟩):=by subst mQ; simp [go_sem]
   have a3 : wa.cell? ⟨wr.heap.size,3,none⟩ = some (.slice A1 n1 c1):=by subst mQ; simp [go_sem]
   have a4 : wa.cell? ⟨wr.heap.size,4,none⟩ = some (.slice A2 n2 c2):=by subst mQ; simp [go_sem]
   have dP:=zH (xZ t (.agg #[.int .i64 t.kind,.int .i64 t.sort,.string ⟨t.name.toArray⟩,.slice A1 n1 c1,.slice A2 n2 c2]) wa ⟨_,_,rfl,(hL.keep (Same.below hba) (fun _ h _ => h)).is,(hK.keep (Same.below hba) (fun _ h _ => h)).is⟩ htf)
   obtain ⟨E,hE⟩ : ∃ x,pg t = x:=⟨_,rfl⟩
   have hstep:=hs.out
   rw [Bh HC.out,hE] at hstep
   rw [hE] at dP
   have HST:=zH hstep
   clear hstep hE hs ht hL hK htf
   by_cases he : E = 0
   ·have hE : (E != 0) = false:=by rw [bne_eq_false_iff_eq]; exact he
    have EX:=zH he
    clear he
    go_wp2_with fail
    try rw [mQ]
    clear mQ
    refine dP.out.mono ?_
    rintro e w7 ⟨rfl,hb7⟩
    go_wp2_with fail
    go_roundw
    case rel => exact ⟨k + 1,by omega,by go_num,zH (by rw [HST.out,if_pos EX.out]),chain hbq (chain hba hb7)⟩
    case measure => simp [intOf]; omega
   ·have hE : (E != 0) = true:=by rw [bne_iff_ne]; exact he
    have hnx : E = ANS:=by
     have h1:=HST.out
     rw [if_neg he] at h1
     have:=HA.out
     rwa [h1,if_neg he] at this
    have mV:=zH hnx
    clear he hnx
    go_wp2_with fail
    try rw [mQ]
    clear mQ
    refine dP.out.mono ?_
    rintro e w7 ⟨rfl,hb7⟩
    go_wp2_with fail
    refine HQ.out _ _ ?_
    go_ret
    exact ⟨by rw [mV.out]; rfl,(HW.out.next (chain hbq (chain hba hb7))).bl⟩
  ·have hkn : k = n:=by omega
   subst hkn
   have h0' : nC d.types = 0:=by rw [hs.out,List.drop_eq_nil_of_le (by have:=ru.out; omega)]; rfl
   have ha2:=HA.out
   rw [if_pos h0'] at ha2
   have HA2:=zH ha2
   clear hs h0' ha2 HA
   go_wp2_with fail
   refine H8.out _ _ ?_
   clear H8
   exact sh_24 l j A c w wr p ANS q _ d lk N Qx (HW.out.next hbq) (HD.out.next hbq) HF.out (HL.out.keep hbq) h0 wu HA2 HN.out HQ.out
theorem zV {l : List Int} {k : Nat} {s : Int} (h : l[k]? = some s) : mO (l.drop k) = ((decide (1 ≤ s) && decide (s ≤ 3)) && mO (l.drop (k + 1))):=by
 obtain ⟨h1,h2⟩:=List.getElem?_eq_some_iff.1 h
 rw [List.drop_eq_getElem_cons h1,h2]
 rfl
theorem sh_11 (l : List Df) (j : Nat) (A : Option Addr) (c : Nat) (w wz : World) (p : Nat) (ANS : Int) (q : Nat) (cs : List Value) (d : Df) (lk : Int) {u0 u1 u2 u4 u6 u7 u8 u9 jI jJ jk jl iW iY u16 jc jd je jL jB jG jH jQ jR jS jT jU u32 jV jW jX jY jZ ku kw kz kC kD kE kF kG kH kJ kK kL kM kN kP kQ kR kS kT kU kV kW kX kY kZ lg u64 lh lm lq lu lJ lK lL lM lN lQ lS lT lU lV lW lX lY lZ l9 mf mg mi mr mD mF lD lw mP nP nD : Value} (N : Act → World → Prop) (Qx : Exit → Act → World → Prop) (hw : Hw w wz p l A c) (hd : Oc wz p q cs d) (hf : oh 1048576 d) (hl : Left wz p lk) (h0 : 0 ≤ lk) (wu : lk ≤ 200) (HA : Hid ((if mO d.sorts = true then if nC d.types = 0 then if (mG d.body lk).1 = 0 then nS (l.drop (j + 1)) (mG d.body lk).2 else (mG d.body lk).1 else nC d.types else 1) = ANS)) (hN : Cb u0 u1 u4 u6 u8 jk jl iW iY u16 jc jd je jL jB nD l j A c w p ANS N)
  (hQ : ∀ a w',(bodyPost Tryz.prog Tryz.f16 (fun e w' => e = .returned (.int .i64 ANS) ∧ Below w.heap.size w w')) Exit.ret a w' → Qx Exit.ret a w') :
  Code.wp Tryz.prog JR (Exit.then N Qx) { tmps:=#[u0,u1,u2,.pointer (some ⟨p,0,none⟩),u4,.pointer (some ⟨q,0,none⟩),u6,u7,u8,u9,jI,jJ,jk,jl,iW,iY,u16,jc,jd,je,jL,.slice A l.length c,.int .i64 l.length,.int .i64 j,jB,jG,jH,jQ,jR,jS,jT,jU,u32,jV,jW,jX,jY,jZ,ku,kw,kz,kC,kD,kE,kF,kG,kH,kJ,kK,kL,kM,kN,kP,kQ,kR,kS,kT,kU,kV,kW,kX,kY,kZ,lg,u64,lh,lm,lq,lu,lJ,lK,lL,lM,lN,lQ,lS,lT,lU,lV,lW,lX,lY,lZ,l9,mf,mg,mi,mr,mD,mF,lD,lw,mP,nP,nD],defers:=[] } wz:=by
 have h : JR = Code.seq _ _:=rfl
 rw [h]
 clear h
 have HN:=zH hN
 have HQ:=zH hQ
 have HW:=zH hw
 have HD:=zH hd
 have HF:=zH hf
 have HL:=zH hl
 clear hN hQ hw hd hf hl
 obtain ⟨v1,v2,v3,v4,ps,rfl,g1,g2,g3,g4,g5⟩:=id HD.out.dc
 obtain ⟨At,ct,rfl,hct,-⟩:=id g2
 have HG2:=zH g2
 have k2:=HD.out.bx.at_ (j:=2) rfl
 have hty : d.sorts.length ≤ 1048576:=HF.out.2.2.2.1
 obtain ⟨n,hn⟩ : ∃ n,d.sorts.length = n:=⟨_,rfl⟩
 have ru:=zH hn
 rw [hn] at hct hty k2
 have HG2 : Hid (rU (· ≠ p) wz (.slice At n ct) d.sorts):=zH (by rw [← hn]; exact HG2.out)
 clear g1 g2 g3 g4 g5 hn
 go_step
 rename_i K8 h8
 have H8:=zH h8
 clear h8
 go_wp2_with fail
 go_loopw [64] (fun i wr => ∃ k : Nat,k ≤ n ∧ i = .int .i64 k ∧ Hid (mO d.sorts = mO (d.sorts.drop k)) ∧ wr = wz) (fun i _ => n - (intOf i).toNat)
 case atStart => exact ⟨0,by omega,rfl,zH rfl,rfl⟩
 case round =>
  obtain ⟨k,hk,rfl,hs,hbq⟩:=hrel
  subst hbq
  by_cases hlt : k < n
  ·obtain ⟨s,ht⟩ : ∃ y,d.sorts[k]? = some y:=⟨_,List.getElem?_eq_getElem (by have:=ru.out; omega)⟩
   have HC:=zH ht
   obtain ⟨A',c',e,-,hrow⟩:=HG2.out
   injection e with e1 e2 e3
   subst e1
   obtain ⟨b',off,rfl,-,hr⟩:=hrow (by have:=ru.out; omega)
   have hcell:=hr k s ht
   have hstep:=hs.out
   rw [zV HC.out] at hstep
   have hwf:=HF.out.2.2.2.2.1 s (az HC.out)
   have HST:=zH hstep
   clear hstep hs ht hr hrow
   by_cases h1 : s < 1
   ·have hz : ANS = 1:=by
     have h2 : mO d.sorts = false:=by rw [HST.out,decide_eq_false (by omega)]; rfl
     have:=HA.out
     rw [h2] at this
     exact this.symm
    have HZ:=zH hz
    clear hz
    go_wp2_with fail
    refine HQ.out _ _ ?_
    go_ret
    exact ⟨by rw [HZ.out]; rfl,HW.out.bl⟩
   ·by_cases h3 : 3 < s
    ·have hz : ANS = 1:=by
      have h2 : mO d.sorts = false:=by rw [HST.out,decide_eq_false (p:=s ≤ 3) (by omega),Bool.and_false]; rfl
      have:=HA.out
      rw [h2] at this
      exact this.symm
     have HZ:=zH hz
     clear hz
     go_wp2_with fail
     refine HQ.out _ _ ?_
     go_ret
     exact ⟨by rw [HZ.out]; rfl,HW.out.bl⟩
    ·have hok : mO d.sorts = mO (d.sorts.drop (k + 1)):=by rw [HST.out,decide_eq_true (by omega),decide_eq_true (by omega)]; rfl
     have vU:=zH hok
     clear hok
     go_wp2_with fail
     go_roundw
     case rel => exact ⟨k + 1,by omega,by go_num,vU,trivial⟩
     case measure => simp [intOf]; omega
  ·have hkn : k = n:=by omega
   subst hkn
   have h0' : mO d.sorts = true:=by rw [hs.out,List.drop_eq_nil_of_le (by have:=ru.out; omega)]; rfl
   have ha2:=HA.out
   rw [if_pos h0'] at ha2
   have HA2:=zH ha2
   clear hs h0' ha2 HA
   go_wp2_with fail
   refine H8.out _ _ ?_
   clear H8
   exact sh_17 l j A c w wr p ANS q _ d lk N Qx HW.out HD.out HF.out HL.out h0 wu HA2 HN.out HQ.out
theorem Fq {l : List Df} {j : Nat} {d : Df} (h : l[j]? = some d) (lk : Int) : nS (l.drop j) lk = if EG d = true then if mO d.sorts = true then if nC d.types = 0 then if (mG d.body lk).1 = 0 then nS (l.drop (j + 1)) (mG d.body lk).2 else (mG d.body lk).1 else nC d.types else 1 else 1:=by
 obtain ⟨h1,h2⟩:=List.getElem?_eq_some_iff.1 h
 rw [List.drop_eq_getElem_cons h1,h2]
 rw [nS]
 unfold yF
 split
 ·split
  ·split
   ·rfl
   ·rename_i h3; simp only [h3,if_false]
  ·simp
 ·simp
theorem sh_9 (l : List Df) (j : Nat) (A : Option Addr) (c : Nat) (w wz : World) (p : Nat) (ANS : Int) (q : Nat) (cs : List Value) (d : Df) (lk : Int) {u0 u1 u2 u4 u6 u7 u8 u9 jI jJ jk jl iW iY u16 jc jd je jL jB jG jH jQ jR jS jT jU u32 jV jW jX jY jZ ku kw kz kC kD kE kF kG kH kJ kK kL kM kN kP kQ kR kS kT kU kV kW kX kY kZ lg u64 lh lm lq lu lJ lK lL lM lN lQ lS lT lU lV lW lX lY lZ l9 mf mg mi mr mD mF lD lw mP nP nD : Value} (N : Act → World → Prop) (Qx : Exit → Act → World → Prop) (hw : Hw w wz p l A c) (hd : Oc wz p q cs d) (hf : oh 1048576 d) (hl : Left wz p lk) (h0 : 0 ≤ lk) (wu : lk ≤ 200) (HA : Hid ((if EG d = true then if mO d.sorts = true then if nC d.types = 0 then if (mG d.body lk).1 = 0 then nS (l.drop (j + 1)) (mG d.body lk).2 else (mG d.body lk).1 else nC d.types else 1 else 1) = ANS)) (hN : Cb u0 u1 u4 u6 u8 jk jl iW iY u16 jc jd je jL jB nD l j A c w p ANS N)
  (hQ : ∀ a w',(bodyPost Tryz.prog Tryz.f16 (fun e w' => e = .returned (.int .i64 ANS) ∧ Below w.heap.size w w')) Exit.ret a w' → Qx Exit.ret a w') :
  Code.wp Tryz.prog O0 (Exit.then N Qx) { tmps:=#[u0,u1,u2,.pointer (some ⟨p,0,none⟩),u4,.pointer (some ⟨q,0,none⟩),u6,u7,u8,u9,jI,jJ,jk,jl,iW,iY,u16,jc,jd,je,jL,.slice A l.length c,.int .i64 l.length,.int .i64 j,jB,jG,jH,jQ,jR,jS,jT,jU,u32,jV,jW,jX,jY,jZ,ku,kw,kz,kC,kD,kE,kF,kG,kH,kJ,kK,kL,kM,kN,kP,kQ,kR,kS,kT,kU,kV,kW,kX,kY,kZ,lg,u64,lh,lm,lq,lu,lJ,lK,lL,lM,lN,lQ,lS,lT,lU,lV,lW,lX,lY,lZ,l9,mf,mg,mi,mr,mD,mF,lD,lw,mP,nP,nD],defers:=[] } wz:=by
 have h : O0 = Code.seq _ _:=rfl
 rw [h]
 clear h
 have HN:=zH hN
 have HQ:=zH hQ
 have HW:=zH hw
 have HD:=zH hd
 have HF:=zH hf
 have HL:=zH hl
 clear hN hQ hw hd hf hl
 obtain ⟨v1,v2,v3,v4,ps,rfl,g1,g2,g3,g4,g5⟩:=id HD.out.dc
 have LQ:=zH g1
 have LU:=zH g3
 obtain ⟨e1,p1,rfl,hp1,-⟩:=id g1
 obtain ⟨e2,p2,rfl,hp2,-⟩:=id g2
 obtain ⟨e3,p3,rfl,hp3,-⟩:=id g3
 obtain ⟨e4,p4,rfl,OL,-⟩:=id g4
 have k0:=HD.out.bx.at_ (j:=0) rfl
 have k1:=HD.out.bx.at_ (j:=1) rfl
 have k2:=HD.out.bx.at_ (j:=2) rfl
 have k3:=HD.out.bx.at_ (j:=3) rfl
 have k4:=HD.out.bx.at_ (j:=4) rfl
 obtain ⟨f0,f1,f2,f3,-,f5,f6,f7,-,-⟩:=id HF.out
 obtain ⟨m1,hm1⟩ : ∃ n,d.vals.length = n:=⟨_,rfl⟩
 obtain ⟨m2,hm2⟩ : ∃ n,d.sorts.length = n:=⟨_,rfl⟩
 obtain ⟨m3,Ib⟩ : ∃ n,d.chans.length = n:=⟨_,rfl⟩
 obtain ⟨m4,hm4⟩ : ∃ n,d.types.length = n:=⟨_,rfl⟩
 rw [hm1] at hp1 k1 f1
 rw [hm2] at hp2 k2 f3
 rw [Ib] at hp3 k3 f5
 rw [hm4] at OL k4 f7
 have Gu : Hid (aF wz (.slice e1 m1 p1) d.vals):=zH (by rw [← hm1]; exact LQ.out.is)
 have IY : Hid (aF wz (.slice e3 m3 p3) d.chans):=zH (by rw [← Ib]; exact LU.out.is)
 obtain ⟨B1,hB1⟩ : ∃ x,nz d.name = x:=⟨_,rfl⟩
 obtain ⟨B2,hB2⟩ : ∃ x,aZ d.vals = x:=⟨_,rfl⟩
 obtain ⟨B3,hB3⟩ : ∃ x,aZ d.chans = x:=⟨_,rfl⟩
 have hok : EG d = (B1 && (B2 && (B3 && (decide (m1 = m2) && decide (m3 = m4))))):=by unfold EG; rw [hB1,hB2,hB3,hm1,hm2,Ib,hm4]
 have Et:=HA.out
 rw [hok] at Et
 have Et:=zH Et
 have HB1:=zH hB1
 have HB2:=zH hB2
 have HB3:=zH hB3
 have hs1 : ∀ s ∈ d.vals,s.length ≤ 9223372036854775807:=fun s hs => by have:=f2 s hs; omega
 have hs3 : ∀ s ∈ d.chans,s.length ≤ 9223372036854775807:=fun s hs => by have:=f6 s hs; omega
 have BV:=zH (And.intro hs1 hs3)
 have HM:=zH (And.intro hm1 Ib)
 clear g1 g2 g3 g4 g5 hm1 hm2 Ib hm4 LQ LU hB1 hB2 hB3 hok HA f2 f6 hs1 hs3
 go_step
 rename_i K8 h8
 have H8:=zH h8
 clear h8
 cases B1 with
 | false =>
  have HZ : Hid (ANS = 1):=zH (by have:=Et.out; simpa using this.symm)
  go_wp2_with fail
  refine (rY d.name wz (by omega) HW.out.wd.all).mono ?_
  rw [HB1.out]
  rintro e w2 ⟨rfl,hb2⟩
  have r1:=ae k1 hb2
  have r2:=ae k2 hb2
  have r3:=ae k3 hb2
  have r4:=ae k4 hb2
  go_wp2_with fail
  refine HQ.out _ _ ?_
  go_ret
  exact ⟨by rw [HZ.out]; rfl,(HW.out.next hb2).bl⟩
 | true =>
  cases B2 with
  | false =>
   have HZ : Hid (ANS = 1):=zH (by have:=Et.out; simpa using this.symm)
   go_wp2_with fail
   refine (rY d.name wz (by omega) HW.out.wd.all).mono ?_
   rw [HB1.out]
   rintro e w2 ⟨rfl,hb2⟩
   have r1:=ae k1 hb2
   have r2:=ae k2 hb2
   have r3:=ae k3 hb2
   have r4:=ae k4 hb2
   clear k0 k1 k2 k3 k4
   go_wp2_with fail
   refine (uV _ d.vals w2 (Gu.out.keep hb2) BV.out.1 (by have:=HM.out.1; omega)).mono ?_
   rw [HB2.out]
   rintro e w3 ⟨rfl,hb3⟩
   go_wp2_with fail
   refine HQ.out _ _ ?_
   go_ret
   exact ⟨by rw [HZ.out]; rfl,(HW.out.next (chain hb2 hb3)).bl⟩
  | true =>
   cases B3 with
   | false =>
    have HZ : Hid (ANS = 1):=zH (by have:=Et.out; simpa using this.symm)
    go_wp2_with fail
    refine (rY d.name wz (by omega) HW.out.wd.all).mono ?_
    rw [HB1.out]
    rintro e w2 ⟨rfl,hb2⟩
    have r1:=ae k1 hb2
    have r2:=ae k2 hb2
    have r3:=ae k3 hb2
    have r4:=ae k4 hb2
    clear k0 k1 k2 k3 k4
    go_wp2_with fail
    refine (uV _ d.vals w2 (Gu.out.keep hb2) BV.out.1 (by have:=HM.out.1; omega)).mono ?_
    rw [HB2.out]
    rintro e w3 ⟨rfl,hb3⟩
    have q1:=ae r1 hb3
    have q2:=ae r2 hb3
    have q3:=ae r3 hb3
    have q4:=ae r4 hb3
    clear r1 r2 r3 r4
    go_wp2_with fail
    refine (uV _ d.chans w3 (IY.out.keep (chain hb2 hb3)) BV.out.2 (by have:=HM.out.2; omega)).mono ?_
    rw [HB3.out]
    rintro e w4 ⟨rfl,hb4⟩
    go_wp2_with fail
    refine HQ.out _ _ ?_
    go_ret
    exact ⟨by rw [HZ.out]; rfl,(HW.out.next (chain hb2 (chain hb3 hb4))).bl⟩
   | true =>
    go_wp2_with fail
    refine (rY d.name wz (by omega) HW.out.wd.all).mono ?_
    rw [HB1.out]
    rintro e w2 ⟨rfl,hb2⟩
    have r1:=ae k1 hb2
    have r2:=ae k2 hb2
    have r3:=ae k3 hb2
    have r4:=ae k4 hb2
    clear k0 k1 k2 k3 k4
    go_wp2_with fail
    refine (uV _ d.vals w2 (Gu.out.keep hb2) BV.out.1 (by have:=HM.out.1; omega)).mono ?_
    rw [HB2.out]
    rintro e w3 ⟨rfl,hb3⟩
    have q1:=ae r1 hb3
    have q2:=ae r2 hb3
    have q3:=ae r3 hb3
    have q4:=ae r4 hb3
    clear r1 r2 r3 r4
    go_wp2_with fail
    refine (uV _ d.chans w3 (IY.out.keep (chain hb2 hb3)) BV.out.2 (by have:=HM.out.2; omega)).mono ?_
    rw [HB3.out]
    rintro e w4 ⟨rfl,hb4⟩
    have z1:=ae q1 hb4
    have z2:=ae q2 hb4
    have z3:=ae q3 hb4
    have z4:=ae q4 hb4
    clear q1 q2 q3 q4
    have hbz:=chain hb2 (chain hb3 hb4)
    have Gs:=zH hbz
    by_cases h12 : m1 = m2
    ·subst h12
     by_cases h34 : m3 = m4
     ·subst h34
      have ha2:=Et.out
      simp only [decide_true,Bool.and_self,if_true] at ha2
      have HA2:=zH ha2
      clear ha2
      go_wp2_with fail
      refine H8.out _ _ ?_
      clear H8
      exact sh_11 l j A c w w4 p ANS q _ d lk N Qx (HW.out.next Gs.out) (HD.out.next Gs.out) HF.out (HL.out.keep Gs.out) h0 wu HA2 HN.out HQ.out
     ·have HZ : Hid (ANS = 1):=zH (by have:=Et.out; rw [decide_eq_false h34] at this; simpa using this.symm)
      have hne : ((m3 : Int) != (m4 : Int)) = true:=by rw [bne_iff_ne]; omega
      clear h34
      go_wp2_with fail
      refine HQ.out _ _ ?_
      go_ret
      exact ⟨by rw [HZ.out]; rfl,(HW.out.next Gs.out).bl⟩
    ·have HZ : Hid (ANS = 1):=zH (by have:=Et.out; rw [decide_eq_false h12] at this; simpa using this.symm)
     have hne : ((m1 : Int) != (m2 : Int)) = true:=by rw [bne_iff_ne]; omega
     clear h12
     go_wp2_with fail
     refine HQ.out _ _ ?_
     go_ret
     exact ⟨by rw [HZ.out]; rfl,(HW.out.next Gs.out).bl⟩
theorem sh_8 (l : List Df) (j : Nat) (A : Option Addr) (c : Nat) (w wz : World) (p : Nat) (ANS : Int) (d : Df) (lk : Int) {u0 u1 u2 u4 u5 u6 u7 u8 u9 jI jJ jk jl iW iY u16 jc jd je jL jB jG jH jQ jR jS jT jU u32 jV jW jX jY jZ ku kw kz kC kD kE kF kG kH kJ kK kL kM kN kP kQ kR kS kT kU kV kW kX kY kZ lg u64 lh lm lq lu lJ lK lL lM lN lQ lS lT lU lV lW lX lY lZ l9 mf mg mi mr mD mF lD lw mP nP nD : Value} (N : Act → World → Prop) (Qx : Exit → Act → World → Prop) (hw : Hw w wz p l A c) (hj : l[j]? = some d) (hc : l.length ≤ c) (hf : oh 1048576 d) (hl : Left wz p lk) (h0 : 0 ≤ lk) (wu : lk ≤ 200) (hlen : l.length ≤ 1048576) (HA : Hid (nS (l.drop j) lk = ANS)) (hN : Cb u0 u1 u4 u6 u8 jk jl iW iY u16 jc jd je jL jB nD l j A c w p ANS N)
  (hQ : ∀ a w',(bodyPost Tryz.prog Tryz.f16 (fun e w' => e = .returned (.int .i64 ANS) ∧ Below w.heap.size w w')) Exit.ret a w' → Qx Exit.ret a w') :
  Code.wp Tryz.prog SX (Exit.then N Qx) { tmps:=#[u0,u1,u2,.pointer (some ⟨p,0,none⟩),u4,u5,u6,u7,u8,u9,jI,jJ,jk,jl,iW,iY,u16,jc,jd,je,jL,.slice A l.length c,.int .i64 l.length,.int .i64 j,jB,jG,jH,jQ,jR,jS,jT,jU,u32,jV,jW,jX,jY,jZ,ku,kw,kz,kC,kD,kE,kF,kG,kH,kJ,kK,kL,kM,kN,kP,kQ,kR,kS,kT,kU,kV,kW,kX,kY,kZ,lg,u64,lh,lm,lq,lu,lJ,lK,lL,lM,lN,lQ,lS,lT,lU,lV,lW,lX,lY,lZ,l9,mf,mg,mi,mr,mD,mF,lD,lw,mP,nP,nD],defers:=[] } wz:=by
 have h : SX = Code.seq _ _:=rfl
 rw [h]
 clear h
 have HN:=zH hN
 have HQ:=zH hQ
 have HW:=zH hw
 have HF:=zH hf
 have HL:=zH hl
 have hans:=HA.out
 rw [Fq hj] at hans
 have uK:=zH hans
 have hjl : j < l.length:=(List.getElem?_eq_some_iff.1 hj).1
 obtain ⟨A',c',e,-,hrow⟩:=hw.ds
 injection e with e1 e2 e3
 subst e1 e3
 obtain ⟨b,off,rfl,hbp,hr⟩:=hrow (by omega)
 obtain ⟨cs,hcl,hrg,hdc⟩:=hr j d hj
 have Iu:=hdc.one
 have DN:=zH hrg
 have NP:=zH hdc
 have NF:=zH Iu
 obtain ⟨n,hn⟩ : ∃ n,l.length = n:=⟨_,rfl⟩
 have uQ:=zH hn
 rw [hn] at hjl hc hlen
 have hj2 : j ≤ 1048576:=by omega
 clear hN hQ hw hf hl hans hrow hr hrg hdc Iu HA hj e2 hbp
 rw [hn]
 clear hn
 go_step
 rename_i K8 h8
 have H8:=zH h8
 clear h8
 go_wp2_with (first | (refine uD DN.out hcl rfl (.tmp 25) rfl rfl ?_) | (refine vK (rZ _ _ _ _ rfl) rfl hcl NF.out rfl (.tmp 5) (.tmp 26) rfl rfl rfl ?_; intro W hbx hbel; have hbW:=hbel _ _ (Nat.le_refl _) ((Below.refl wz.heap.size wz).alloc (Nat.le_refl _) _); have zY:=zH hbx; have yB:=zH hbW; clear hbx hbel hbW))
 refine H8.out _ _ ?_
 clear H8
 have hpl:=HW.out.pl
 rw [← uQ.out]
 exact sh_9 l j _ _ w W p ANS wz.heap.size cs d lk N Qx (HW.out.next yB.out) ⟨zY.out,NP.out.keep (Same.below yB.out) (fun _ h _ => h),by omega⟩ HF.out (HL.out.keep yB.out) h0 wu uK HN.out HQ.out
theorem uB (l : List Df) (v : Value) (w : World) (hv : zX All w v l) (hf : ∀ d ∈ l,oh 1048576 d) (hlen : l.length ≤ 1048576) (hT : Tabs w) (hW : rW w) :
  Calls Tryz.prog 16 #[.agg #[v]] w fun e w' => e = .returned (.int .i64 (oP l)) ∧ Below w.heap.size w w':=by
 obtain ⟨ANS,hA⟩ : ∃ x,oP l = x:=⟨_,rfl⟩
 have HA:=zH hA
 rw [hA]
 clear hA
 have HV:=zH hv
 have HT:=zH hT
 have MZ:=zH hW
 have HF:=zH hf
 obtain ⟨A,c,rfl,hc,-⟩:=hv
 obtain ⟨n,hn⟩ : ∃ n,l.length = n:=⟨_,rfl⟩
 have uQ:=zH hn
 rw [hn] at hc hlen HV ⊢
 clear hf hT hW hn
 by_cases h0 : n = 0
 ·have HZ : Hid (ANS = 1):=zH (by have:=HA.out; unfold oP at this; rw [if_pos (by have:=uQ.out; omega)] at this; exact this.symm)
  go_enter Tryz.func16,Tryz.ntmps16
  go_wp2_with fail
  go_ret
  exact ⟨by rw [HZ.out]; rfl,by go_grown⟩
 ·by_cases h10 : 10 < n
  ·have HZ : Hid (ANS = 2):=zH (by have:=HA.out; unfold oP at this; rw [if_neg (by have:=uQ.out; omega),if_pos (by have:=uQ.out; omega)] at this; exact this.symm)
   have hE : ((n : Int) == 0) = false:=by rw [beq_eq_false_iff_ne]; omega
   go_enter Tryz.func16,Tryz.ntmps16
   go_wp2_with fail
   go_ret
   exact ⟨by rw [HZ.out]; rfl,by go_grown⟩
  ·have HZ : Hid (nS l 200 = ANS):=zH (by have:=HA.out; unfold oP at this; rwa [if_neg (by have:=uQ.out; omega),if_neg (by have:=uQ.out; omega)] at this)
   have hE : ((n : Int) == 0) = false:=by rw [beq_eq_false_iff_ne]; omega
   have h10' : n ≤ 10:=by omega
   clear h0 h10 HA
   go_enter Tryz.func16,Tryz.ntmps16
   go_wp2_with fail
   obtain ⟨W0,hW0⟩ : ∃ y,(w.alloc (.cells #[.slice A n c] 45)).alloc (.cells #[.int .i64 200] 3) = y:=⟨_,rfl⟩
   have hb0 : Below w.heap.size w W0:=by subst hW0; go_grown
   have hz0 : W0.heap.size = w.heap.size + 2:=by subst hW0; simp
   have hl0 : Left W0 (w.heap.size + 1) 200:=by subst hW0; exact ⟨by simp [go_sem],by simp [go_sem]⟩
   have hds : zX (· ≠ w.heap.size + 1) W0 (.slice A l.length c) l:=by
    have h1 : zX All w (.slice A l.length c) l:=by rw [uQ.out]; exact HV.out
    exact h1.here.keep (Same.below hb0) (fun b h _ => by have h' : b < w.heap.size:=h; show b ≠ _; omega)
   have hw0 : Hw w W0 (w.heap.size + 1) l A c:=⟨hb0,hds,⟨HT.out.below hb0,by have:=HT.out.lt.1; omega,by have:=HT.out.lt.2; omega⟩,(uM.new MZ.out (by omega)).grown (grown_below hb0 _),by omega,by omega,by omega⟩
   have HW0:=zH hw0
   have Uk:=zH hl0
   try rw [hW0]
   clear hW0 hb0 hz0 hl0 hds hw0 HT MZ
   go_loopw [23] (fun i wr => ∃ (j : Nat) (lk : Int),j ≤ n ∧ i = .int .i64 j ∧ Hid (Hw w wr (w.heap.size + 1) l A c) ∧ Hid (Left wr (w.heap.size + 1) lk) ∧ 0 ≤ lk ∧ lk ≤ 200 ∧ Hid (nS (l.drop j) lk = ANS)) (fun i _ => n - (intOf i).toNat)
   case atStart => exact ⟨0,200,by omega,rfl,HW0,Uk,by omega,by omega,HZ⟩
   case round =>
    clear HW0 Uk HZ
    obtain ⟨j,lk,hj,rfl,HW,HL,h0,wu,hs⟩:=hrel
    by_cases hlt : j < n
    ·obtain ⟨d,hd⟩ : ∃ y,l[j]? = some y:=⟨_,List.getElem?_eq_getElem (by have:=uQ.out; omega)⟩
     have HD:=zH hd
     have hdf:=HF.out d (az hd)
     have Gt:=zH hdf
     clear hd hdf
     change Code.wp _ (Code.seq _ (Code.seq _ (Code.seq (Code.block 1 SX) _))) _ _ _
     go_wp2_with fail
     rename_i K9 h9
     have CW : ∀ (P : Exit → Act → World → Prop),Exit.then (P .normal) P = P:=fun P => by funext e a w; cases e <;> rfl
     rw [← CW (Exit.inBlock 1 _)]
     have hnn:=uQ.out
     subst hnn
     refine sh_8 l j A c w wr (w.heap.size + 1) ANS d lk _ _ HW.out HD.out hc Gt.out HL.out h0 wu hlen hs ?_ ?_
     ·intro wz lk' gw gl g0 Oo gs v2 v5 v7 v9 Ns Nu Nv Nw JU JW JX JY Iz JZ J3 J4 J5 J6 Ih J7 J8 J9 Ko Kq Kr Kt Ku Hl Kv Kw Ky Kz IL KA IA KC KD KE KF KG KH KI KJ KL KN KO KP KQ KU KW KX IB KY IC KZ La IM IP Lc Ld Le Lh Lj Ll Lm Lp Lr Ls Lt Lu LC Ny Nz RJ RN
      refine h9 _ _ ?_
      have GW:=zH gw
      have GL:=zH gl
      clear h9 gw gl
      go_wp2_with fail
      go_roundw
      case rel => exact ⟨j + 1,lk',by omega,by go_num,GW,GL,g0,Oo,gs⟩
      case measure => simp [intOf]; omega
     ·intro a w' h
      exact h
    ·have hjn : j = n:=by omega
     subst hjn
     have hend : ANS = 0:=by rw [← hs.out,List.drop_eq_nil_of_le (by have:=uQ.out; omega)]; rfl
     have HE:=zH hend
     clear hend hs
     go_wp2_with fail
     go_ret
     exact ⟨by rw [HE.out]; rfl,HW.out.bl⟩
theorem progWrite_bad (l : List Df) (v : Value) (w : World) (hv : zX All w v l) (hf : ∀ d ∈ l,oh 1048576 d) (hlen : l.length ≤ 1048576) (hT : Tabs w) (hW : rW w) (E : Int) (hE : oP l = E) (hE0 : E ≠ 0) :
  Calls Tryz.prog 14 #[.agg #[v]] w fun e w' => e = .returned (.tuple #[.string ⟨#[]⟩,.int .i64 E]) ∧ Below w.heap.size w w':=by
 have HV:=zH hv
 have HT:=zH hT
 have MZ:=zH hW
 have HF:=zH hf
 have HE:=zH hE
 have hne : (E != 0) = true:=by rw [bne_iff_ne]; exact hE0
 clear hf hT hW hE0 hE
 obtain ⟨A,c,rfl,-,-⟩:=hv
 go_enter Tryz.func14,Tryz.ntmps14
 go_wp2_with fail
 have hb0 : Below w.heap.size w (w.alloc (.cells #[.slice A l.length c] 45)):=by go_grown
 have hcall:=uB l _ _ (HV.out.below hb0) HF.out hlen (HT.out.below hb0) (MZ.out.keep hb0)
 rw [HE.out] at hcall
 refine Calls.mono hcall ?_
 clear hcall
 rintro e w2 ⟨rfl,hb2⟩
 go_wp2_with fail
 go_ret2
 exact ⟨rfl,chain hb0 hb2⟩
theorem progWrite_ok (l : List Df) (v : Value) (w : World) (hv : zX All w v l) (hf : ∀ d ∈ l,oh 1048576 d) (hlen : l.length ≤ 1048576) (hT : Tabs w) (hW : rW w) (hPw : ql w) (hSo : oN w) (DV : xh w) (hE : oP l = 0) :
  Calls Tryz.prog 14 #[.agg #[v]] w fun e w' => e = .returned (.tuple #[.string ⟨(nZ l).toArray⟩,.int .i64 0]) ∧ Below w.heap.size w w':=by
 obtain ⟨ANS,hA⟩ : ∃ x,nZ l = x:=⟨_,rfl⟩
 have HA:=zH hA
 rw [hA]
 clear hA
 have hgood:=Ed hE
 have DU:=zH (Bd (l:=l) (fun d hd => ⟨hgood.1 d hd,(hf d hd).2.2.2.2.2.2.2.2.2⟩) hgood.2)
 have HG:=zH hgood.1
 have HV:=zH hv
 have HT:=zH hT
 have MZ:=zH hW
 have HF:=zH hf
 have HE:=zH hE
 have HX:=zH (And.intro hPw (And.intro hSo DV))
 have hl10 : l.length ≤ 10:=hgood.2
 obtain ⟨A,c,rfl,hlc,-⟩:=hv
 obtain ⟨n,hn⟩ : ∃ n,l.length = n:=⟨_,rfl⟩
 have uQ:=zH hn
 clear hf hT hW hE hPw hSo DV hgood
 rw [hn] at hlc hl10 HV ⊢
 go_enter Tryz.func14,Tryz.ntmps14
 go_wp2_with fail
 have hb0 : Below w.heap.size w (w.alloc (.cells #[.slice A n c] 45)):=by go_grown
 have hcall:=uB l _ _ (HV.out.below hb0) HF.out (by omega) (HT.out.below hb0) (MZ.out.keep hb0)
 rw [HE.out] at hcall
 refine Calls.mono hcall ?_
 clear hcall hn
 rintro e w2 ⟨rfl,hb2⟩
 have Qj:=chain hb0 hb2
 have g0 : w2.cell? ⟨w.heap.size,0,none⟩ = some (.slice A n c):=ae (w:=w.alloc (.cells #[.slice A n c] 45)) (by simp [go_sem]) hb2
 have hzg : w.heap.size < w2.heap.size:=cell_lt g0
 have Py:=zH Qj
 clear hb0 hb2 Qj
 go_wp2_with fail
 obtain ⟨W,hW⟩ : ∃ W,w2.alloc (.cells #[.pointer none,.slice none 0 0] 92) = W:=⟨_,rfl⟩
 have hbW : Below w2.heap.size w2 W:=by subst hW; go_grown
 have hbd : uI w2.heap.size w2.heap.size [] W:=by subst hW; exact D8 w2
 have Ut : Hid (QS w W w2.heap.size []):=zH ⟨chain Py.out hbW,hbd,Py.out.size,hbW.size⟩
 have Gi : Hid (Pj w A c l):=zH ⟨HT.out,HX.out.1,HX.out.2.1,HX.out.2.2,by rw [uQ.out]; exact HV.out⟩
 try rw [hW]
 clear hW hbW hbd
 go_loopw [22] (fun i wr => ∃ (j : Nat),j ≤ n ∧ i = .int .i64 j ∧ Hid (QS w wr w2.heap.size (nZ (l.take j)))) (fun i _ => n - (intOf i).toNat)
 case atStart => exact ⟨0,by omega,rfl,Ut⟩
 case round =>
  clear Ut
  obtain ⟨j,hj,rfl,HQ⟩:=hrel
  by_cases hlt : j < n
  ·obtain ⟨d,hd⟩ : ∃ y,l[j]? = some y:=⟨_,List.getElem?_eq_getElem (by have:=uQ.out; omega)⟩
   have HD:=zH hd
   have Gt:=zH (And.intro (HF.out d (az hd)) (HG.out d (az hd)))
   have HST:=zH (wR hd)
   have hsl:=DU.out j
   clear hd
   change Code.wp _ (Code.seq _ (Code.seq _ (Code.seq (Code.block 1 SS) _))) _ _ _
   go_wp2_with fail
   rename_i K9 h9
   have CW : ∀ (P : Exit → Act → World → Prop),Exit.then (P .normal) P = P:=fun P => by funext e a w; cases e <;> rfl
   rw [← CW (Exit.inBlock 1 _)]
   have hnn:=uQ.out
   subst hnn
   refine qw_7 l j A c w wr w2.heap.size (nZ (l.take j)) (nZ (l.take (j + 1))) d _ _ Gi.out HQ.out Gt.out.1 Gt.out.2 (by omega) HD.out hlc (by omega) (zH HST.out.symm) ?_ ?_
   ·intro wz gw v7 v8 v9 Ns Nu TZ UR Px Nv Nw JU JW JX JY Iz JZ J3 J4 J5 J6 Ih J7 J8 J9 Ko Kq Kr Kt Ku Hl Kv Kw Ky Kz IL KA IA KC KD KE KF KG KH KI KJ KL KN KO KP KQ KU KW KX IB KY IC KZ La IM IP Lc Ld Le Lh Lj Ll Lm Lp Lr Ls Lt Lu LC
    refine h9 _ _ ?_
    have GW:=zH gw
    clear h9 gw
    go_wp2_with fail
    go_roundw
    case rel => exact ⟨j + 1,by omega,by go_num,GW⟩
    case measure => simp [intOf]; omega
   ·intro c a i v w h
    cases i <;> exact h
  ·have hjn : j = n:=by omega
   subst hjn
   have hend : nZ (l.take j) = ANS:=by rw [List.take_of_length_le (by have:=uQ.out; omega)]; exact HA.out
   have Si : Hid (QS w wr w2.heap.size ANS):=by rw [← hend]; exact HQ
   clear hend HQ
   go_wp2_with fail
   refine Calls.mono (Tryz.Builder_String_any _ _ _ _ Si.out.bd Si.out.bz) ?_
   rintro e w3 ⟨rfl,hb3⟩
   have hz3 : w.heap.size ≤ w2.heap.size:=Si.out.wb
   have hb4:=Si.out.bl.trans (hb3.mono hz3)
   go_wp2_with fail
   go_ret2
   exact ⟨rfl,hb4⟩
end Go.Proofs.YtpidjanngbaiiaaGreatDoor
