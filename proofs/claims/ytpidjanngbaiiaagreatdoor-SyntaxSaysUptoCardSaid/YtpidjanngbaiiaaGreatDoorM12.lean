/-
  ExW ExWr PrW PrJ
-/
import Derived.Test.YtpidjanngbaiiaaGreatDoorM6
import Derived.Test.YtpidjanngbaiiaaGreatDoorM11
import Derived.Test.YtpidjanngbaiiaaGreatDoorM7
import Derived.Test.YtpidjanngbaiiaaGreatDoorM5
import Derived.Test.YtpidjanngbaiiaaGreatDoorM4
import Derived.Test.YtpidjanngbaiiaaGreatDoorM2
namespace Go.Proofs.YtpidjanngbaiiaaGreatDoor
open Go.RowKit Go.Proofs
set_option maxRecDepth 100000
set_option maxHeartbeats 32000000

theorem CP {t : Ex} (h : rQ t) : (∃ s v x,t = .mk 1 [] s v x [] ∧ qQ s v x = 0) ∨ (∃ n s v x,t = .mk 2 n s v x []) ∨ (∃ n s v x a,t = .mk 3 n s v x [a] ∧ lone n = true ∧ rQ a) ∨ (∃ n s v x a b,t = .mk 3 n s v x [a,b] ∧ 0 < level n ∧ rQ a ∧ rQ b):=by
 cases h with
 | mk t h hk =>
  obtain ⟨k,n,s,v,x,ks⟩:=t
  unfold bM at h
  by_cases h1 : (Ex.mk k n s v x ks).kind = 1 ∧ (Ex.mk k n s v x ks).name = [] ∧ (Ex.mk k n s v x ks).kids.length = 0
  ·rw [if_pos h1] at h
   replace h1 : k = 1 ∧ n = [] ∧ ks.length = 0:=h1
   replace h : qQ s v x = 0 ∨ qQ s v x = 9:=h
   obtain ⟨rfl,rfl,h3⟩:=h1
   obtain rfl:=List.eq_nil_of_length_eq_zero h3
   refine .inl ⟨s,v,x,rfl,?_⟩
   rcases h with h | h
   ·exact h
   ·exfalso
    unfold qQ at h
    repeat' split at h
    all_goals omega
  rw [if_neg h1] at h
  by_cases h2 : (Ex.mk k n s v x ks).kind = 2 ∧ bare (.mk k n s v x ks) = true ∧ (Ex.mk k n s v x ks).kids.length = 0 ∧ ah (Ex.mk k n s v x ks).name = true
  ·replace h2 : k = 2 ∧ bare (.mk k n s v x ks) = true ∧ ks.length = 0 ∧ ah n = true:=h2
   obtain ⟨rfl,h2,h3,h4⟩:=h2
   obtain rfl:=List.eq_nil_of_length_eq_zero h3
   exact .inr (.inl ⟨n,s,v,x,rfl⟩)
  rw [if_neg h2] at h
  by_cases h3 : (Ex.mk k n s v x ks).kind = 3 ∧ bare (.mk k n s v x ks) = true ∧ ((lone (Ex.mk k n s v x ks).name = true ∧ (Ex.mk k n s v x ks).kids.length = 1) ∨ (0 < level (Ex.mk k n s v x ks).name ∧ (Ex.mk k n s v x ks).kids.length = 2))
  ·replace h3 : k = 3 ∧ bare (.mk k n s v x ks) = true ∧ ((lone n = true ∧ ks.length = 1) ∨ (0 < level n ∧ ks.length = 2)):=h3
   replace hk : ∀ t ∈ ks,rQ t:=hk
   obtain ⟨rfl,h2,h3⟩:=h3
   rcases h3 with ⟨h3,h4⟩ | ⟨h3,h4⟩
   ·match ks,h4 with
    | [a],_ => exact .inr (.inr (.inl ⟨n,s,v,x,a,rfl,h3,hk a (by simp)⟩))
   ·match ks,h4 with
    | [a,b],_ => exact .inr (.inr (.inr ⟨n,s,v,x,a,b,rfl,h3,hk a (by simp),hk b (by simp)⟩))
  ·rw [if_neg h3] at h
   rcases h with h | h <;> omega
def qB (a : Int) (t : Ex) : Str:=paren (decide (t.kids.length = 2 ∧ level t.name < a)) (ik t)
theorem qW (b : Bool) (l : Str) : (paren b l).length ≤ l.length + 2:=by
 cases b <;> simp [paren]
theorem ahead_len (n : Str) : (ahead n).length ≤ n.length + 4:=by
 unfold ahead
 repeat' split
 all_goals simp_all
theorem itoa_len (n : Int) (h1 : -9223372036854775808 ≤ n) (h2 : n ≤ 9223372036854775807) : (Lib.itoa n).length ≤ 30:=by
 by_cases h : n = 0
 ·subst h; decide +kernel
 ·have hd : (vV n.natAbs).length ≤ 20:=FB (by omega)
  rw [← Au n h]
  split
  ·simp; omega
  ·simp; omega
theorem DI (s n : Int) (x : Str) (hx : x.length ≤ 1048576) (h1 : -9223372036854775808 ≤ n) (h2 : n ≤ 9223372036854775807) : (yA s n x).length ≤ 3000000:=by
 unfold yA
 split
 ·have:=itoa_len n h1 h2; omega
 ·split
  ·split <;> simp
  ·have:=zx x; simp; omega
theorem ranges {x : Int} (h : (Lit.int .i64 x).wf = true) : -9223372036854775808 ≤ x ∧ x ≤ 9223372036854775807:=by
 have h' : IntKind.i64.min ≤ x ∧ x ≤ IntKind.i64.max:=by simpa [Lit.wf] using h
 exact h'
mutual
theorem qo : ∀ (t : Ex),bI 1048576 t → (ik t).length + 8 ≤ 4000000 * gZ t
 | .mk k n s v x [],h => by
  have:=h.parts
  simp only [Ex.aI,Ex.yL,Ex.yK,Ex.yM] at this
  obtain ⟨-,hn,-,hv,hx,-,-⟩:=this
  have hv:=ranges hv
  have:=DI s v x hx hv.1 hv.2
  simp only [ik,gZ,oO]
  split <;> omega
 | .mk k n s v x [a],h => by
  have:=h.parts
  simp only [Ex.aI,Ex.yL,Ex.yK,Ex.yM,Ex.aK] at this
  obtain ⟨-,hn,-,hv,hx,-,hk⟩:=this
  have hv:=ranges hv
  have:=DI s v x hx hv.1 hv.2
  have h1:=qo a (hk a (by simp))
  have h2:=qW (decide (a.kids.length = 2)) (ik a)
  have h3:=ahead_len n
  simp only [ik,gZ,oO]
  split
  ·omega
  ·split
   ·omega
   ·rw [List.length_append]; omega
 | .mk k n s v x (a :: b :: r),h => by
  have:=h.parts
  simp only [Ex.aI,Ex.yL,Ex.yK,Ex.yM,Ex.aK] at this
  obtain ⟨-,hn,-,hv,hx,-,hk⟩:=this
  have hv:=ranges hv
  have:=DI s v x hx hv.1 hv.2
  have h1:=qo a (hk a (by simp))
  have h1':=qo b (hk b (by simp))
  have h2:=qW (decide (a.kids.length = 2 ∧ level a.name < level n)) (ik a)
  have h2':=qW (decide (b.kids.length = 2 ∧ level b.name < level n + 1)) (ik b)
  simp only [ik,gZ,oO]
  split
  ·omega
  ·split
   ·omega
   ·simp only [zG,zJ,zK]; omega
end
attribute [go_sem] vk
def vZ (t : Ex) (v : Value) (a : Int) (w : World) : Prop :=
 Calls Tryz.prog 146 #[v,.int .i64 a] w fun e w' => e = .returned (.string ⟨(qB a t).toArray⟩) ∧ Below w.heap.size w w'
abbrev TI (m : Nat) : Prop:=∀ (t : Ex) (v : Value) (a : Int) (w : World),gZ t ≤ m → gZ t ≤ 1000 → uy All w v t → bI 1048576 t → rQ t → -100 ≤ a → a ≤ 100 → Tabs w → ql w → vZ t v a w
theorem write_lit (s vn : Int) (x : Str) (v : Value) (a : Int) (w : World) (hv : uy All w v (.mk 1 [] s vn x [])) (hf : bI 1048576 (.mk 1 [] s vn x [])) (hc : qQ s vn x = 0) (hT : Tabs w) (hP : ql w) : vZ (.mk 1 [] s vn x []) v a w:=by
 unfold vZ
 have e : qB a (.mk 1 [] s vn x []) = yA s vn x:=by simp [qB,paren,ik,Ex.aK]
 rw [e]
 clear e
 obtain ⟨A,L,cap,rfl,hk⟩:=hv.one'
 simp only [Ex.kind,Ex.name,Ex.vs,Ex.vn,Ex.vt,Ex.kids] at hk ⊢
 have xC : L = 0:=by obtain ⟨A',c',e,-,-⟩:=hk; injection e
 have hfp:=hf.parts
 simp only [Ex.kind,Ex.name,Ex.vs,Ex.vn,Ex.vt,Ex.kids] at hfp
 obtain ⟨-,-,-,hvn,hx,-,-⟩:=hfp
 have hr:=ranges hvn
 clear hk hf hv hvn
 go_enter Tryz.func146,Tryz.ntmps146
 go_wp2_with fail
 have hba : Below w.heap.size w (w.alloc (.cells #[.int .i64 1,.string ⟨#[]⟩,.int .i64 s,.int .i64 vn,.string ⟨x.toArray⟩,.slice A 0 cap] 52)):=by go_grown
 refine (vwrite_ok s vn x _ hc hx hr.1 hr.2 (hT.below hba) (hP.below hba)).mono ?_
 rintro e w1 ⟨rfl,hb1⟩
 go_wp2_with fail
 go_ret
 exact ⟨rfl,chain hba hb1⟩
theorem write_name (n : Str) (s vn : Int) (x : Str) (v : Value) (a : Int) (w : World) (hv : uy All w v (.mk 2 n s vn x [])) : vZ (.mk 2 n s vn x []) v a w:=by
 unfold vZ
 have e : qB a (.mk 2 n s vn x []) = n:=by simp [qB,paren,ik,Ex.aK]
 rw [e]
 clear e
 obtain ⟨A,L,cap,rfl,hk⟩:=hv.one'
 simp only [Ex.kind,Ex.name,Ex.vs,Ex.vn,Ex.vt,Ex.kids] at hk ⊢
 clear hk hv
 go_enter Tryz.func146,Tryz.ntmps146
 go_wp2_with fail
 go_ret
 exact ⟨rfl,by go_grown⟩
theorem write_one (m : Nat) (ih : TI m) (n : Str) (s vn : Int) (x : Str) (c : Ex) (v : Value) (a : Int) (w : World) (hm : gZ (.mk 3 n s vn x [c]) ≤ m + 1) (hm2 : gZ (.mk 3 n s vn x [c]) ≤ 1000) (hv : uy All w v (.mk 3 n s vn x [c])) (hf : bI 1048576 (.mk 3 n s vn x [c])) (hl : lone n = true) (hg : rQ c) (hT : Tabs w) (hP : ql w) : vZ (.mk 3 n s vn x [c]) v a w:=by
 unfold vZ
 obtain ⟨R,hR⟩ : ∃ R,qB a (.mk 3 n s vn x [c]) = R:=⟨_,rfl⟩
 have HR : Hid (R = ahead n ++ qB 6 c):=by
  show _ = _
  rw [← hR]
  have e : decide (c.kids.length = 2 ∧ level c.name < 6) = decide (c.kids.length = 2):=by
   have:=(wF c.name).2
   congr 1
   exact propext ⟨fun h => h.1,fun h => ⟨h,by omega⟩⟩
  simp [qB,paren,ik,Ex.aK,e]
 rw [hR]
 clear hR
 simp only [gZ,oO,Nat.add_zero] at hm hm2
 obtain ⟨A,L,cap,rfl,hk⟩:=hv.one'
 simp only [Ex.aN,Ex.aI,Ex.yL,Ex.yK,Ex.yM,Ex.aK] at hk ⊢
 obtain ⟨hL,-,b,off,A1,n1,p1,rfl,-,y0,y1,y2,y3,y4,y5,hk'⟩:=pF hk (show [c][0]? = some c from rfl)
 simp only [Nat.zero_mul,Nat.add_zero,List.length_cons,List.length_nil,Nat.zero_add] at y0 y1 y2 y3 y4 y5 hL
 subst hL
 have hbl:=cell_lt y0
 have IX:=zH (hf.parts.2.2.2.2.2.2 c (by simp [Ex.aK]))
 have hba : Below w.heap.size w (w.alloc (.cells #[.int .i64 3,.string ⟨n.toArray⟩,.int .i64 s,.int .i64 vn,.string ⟨x.toArray⟩,.slice (some ⟨b,off,none⟩) 1 cap] 52)):=by go_grown
 have hcall:=zH (ih c (.agg #[.int .i64 c.kind,.string ⟨c.name.toArray⟩,.int .i64 c.vs,.int .i64 c.vn,.string ⟨c.vt.toArray⟩,.slice A1 n1 p1]) 6 _ (by omega) (by omega) ((rD hk').keep (Same.below hba) (fun _ _ _ => trivial)) IX.out hg (by omega) (by omega) (hT.below hba) (hP.below hba))
 have hlen : (qB 6 c).length ≤ 4000000000:=by
  have h1:=qo c IX.out
  have h2:=qW (decide (c.kids.length = 2 ∧ level c.name < 6)) (ik c)
  unfold qB
  omega
 obtain ⟨T,hT'⟩ : ∃ T,qB 6 c = T:=⟨_,rfl⟩
 unfold vZ at hcall
 rw [hT'] at hcall HR hlen
 clear hT' hv hk hf hg hm hm2 hk'
 have hn : n = [110,111,116] ∨ n = [110,101,103] ∨ n = [35]:=by simpa [lone] using hl
 clear hl
 rcases hn with rfl | rfl | rfl
 ·have HR2 : Hid (R = [110,111,116,32] ++ T):=HR
  have q1 : ¬ 9223372036854775807 < 4 + T.length:=by omega
  clear HR
  go_enter Tryz.func146,Tryz.ntmps146
  go_wp2_with fail
  refine hcall.out.mono ?_
  rintro e w1 ⟨rfl,hb1⟩
  go_wp2_with fail
  go_ret
  exact ⟨by rw [HR2.out]; exact congrArg (fun y => Ending.returned (.string y)) (vk [110,111,116,32] T),chain hba hb1⟩
 ·have HR2 : Hid (R = [45,32] ++ T):=HR
  have q1 : ¬ 9223372036854775807 < 2 + T.length:=by omega
  clear HR
  go_enter Tryz.func146,Tryz.ntmps146
  go_wp2_with fail
  refine hcall.out.mono ?_
  rintro e w1 ⟨rfl,hb1⟩
  go_wp2_with fail
  go_ret
  exact ⟨by rw [HR2.out]; exact congrArg (fun y => Ending.returned (.string y)) (vk [45,32] T),chain hba hb1⟩
 ·have HR2 : Hid (R = [35] ++ T):=HR
  have q1 : ¬ 9223372036854775807 < 1 + T.length:=by omega
  clear HR
  go_enter Tryz.func146,Tryz.ntmps146
  go_wp2_with fail
  refine hcall.out.mono ?_
  rintro e w1 ⟨rfl,hb1⟩
  go_wp2_with fail
  go_ret
  exact ⟨by rw [HR2.out]; exact congrArg (fun y => Ending.returned (.string y)) (vk [35] T),chain hba hb1⟩
theorem write_two (m : Nat) (ih : TI m) (n : Str) (s vn : Int) (x : Str) (c d : Ex) (v : Value) (a : Int) (w : World) (hm : gZ (.mk 3 n s vn x [c,d]) ≤ m + 1) (hm2 : gZ (.mk 3 n s vn x [c,d]) ≤ 1000) (hv : uy All w v (.mk 3 n s vn x [c,d])) (hf : bI 1048576 (.mk 3 n s vn x [c,d])) (hl : 0 < level n) (hg : rQ c) (hg' : rQ d) (ha1 : -100 ≤ a) (ha2 : a ≤ 100) (hT : Tabs w) (hP : ql w) : vZ (.mk 3 n s vn x [c,d]) v a w:=by
 unfold vZ
 obtain ⟨R,hR⟩ : ∃ R,qB a (.mk 3 n s vn x [c,d]) = R:=⟨_,rfl⟩
 have HR : Hid (R = paren (decide (level n < a)) (qB (level n) c ++ ([32] ++ n ++ [32]) ++ qB (level n + 1) d)):=by
  show _ = _
  rw [← hR]
  simp [qB,ik,Ex.aK,Ex.aI]
 rw [hR]
 clear hR
 simp only [gZ,oO,Nat.add_zero] at hm hm2
 obtain ⟨A,L,cap,rfl,hk⟩:=hv.one'
 simp only [Ex.aN,Ex.aI,Ex.yL,Ex.yK,Ex.yM,Ex.aK] at hk ⊢
 obtain ⟨hL,-,b,off,A1,n1,p1,rfl,-,y0,y1,y2,y3,y4,y5,hk'⟩:=pF hk (show [c,d][0]? = some c from rfl)
 obtain ⟨-,-,b2,JF,A2,n2,p2,e2,-,z0,z1,z2,z3,z4,z5,hk2⟩:=pF hk (show [c,d][1]? = some d from rfl)
 injection e2 with e2
 injection e2 with e3 e4
 subst e3 e4
 simp only [Nat.zero_mul,Nat.one_mul,Nat.add_zero,List.length_cons,List.length_nil,Nat.zero_add] at y0 y1 y2 y3 y4 y5 z0 z1 z2 z3 z4 z5 hL
 subst hL
 have hbl:=cell_lt y0
 have hfp:=hf.parts
 simp only [Ex.aI,Ex.aK] at hfp
 have hnl:=hfp.2.1
 have IX:=zH (hfp.2.2.2.2.2.2 c (by simp))
 have Gt:=zH (hfp.2.2.2.2.2.2 d (by simp))
 obtain ⟨W,hW⟩ : ∃ W,w.alloc (.cells #[.int .i64 3,.string ⟨n.toArray⟩,.int .i64 s,.int .i64 vn,.string ⟨x.toArray⟩,.slice (some ⟨b,off,none⟩) 2 cap] 52) = W:=⟨_,rfl⟩
 have hba : Below w.heap.size w W:=by rw [← hW]; go_grown
 have hbd : Below w.heap.size w W.drew:=hba.drew
 have HB : Hid (jf W w.heap.size (.mk 3 n s vn x [c,d]) (.slice (some ⟨b,off,none⟩) 2 cap)):=by
  show jf _ _ _ _
  rw [← hW]
  exact pG w (.mk 3 n s vn x [c,d]) _ _
 have HW:=zH hW
 have hlv:=wF n
 have O7:=zH (ih c (.agg #[.int .i64 c.kind,.string ⟨c.name.toArray⟩,.int .i64 c.vs,.int .i64 c.vn,.string ⟨c.vt.toArray⟩,.slice A1 n1 p1]) (level n) W.drew (by omega) (by omega) ((rD hk').keep (Same.below hbd) (fun _ _ _ => trivial)) IX.out hg (by omega) (by omega) (hT.below hbd) (hP.below hbd))
 have GZ : Hid (∀ w1,Below w.heap.size w w1 → vZ d (.agg #[.int .i64 d.kind,.string ⟨d.name.toArray⟩,.int .i64 d.vs,.int .i64 d.vn,.string ⟨d.vt.toArray⟩,.slice A2 n2 p2]) (level n + 1) w1):=zH (fun w1 (hb1 : Below w.heap.size w w1) => ih d (.agg #[.int .i64 d.kind,.string ⟨d.name.toArray⟩,.int .i64 d.vs,.int .i64 d.vn,.string ⟨d.vt.toArray⟩,.slice A2 n2 p2]) (level n + 1) w1 (by omega) (by omega) ((rD hk2).keep (Same.below hb1) (fun _ _ _ => trivial)) Gt.out hg' (by omega) (by omega) (hT.below hb1) (hP.below hb1))
 have hlen : (qB (level n) c).length ≤ 4000000000 ∧ (qB (level n + 1) d).length ≤ 4000000000:=by
  have h1:=qo c IX.out
  have h2:=qW (decide (c.kids.length = 2 ∧ level c.name < level n)) (ik c)
  have h3:=qo d Gt.out
  have h4:=qW (decide (d.kids.length = 2 ∧ level d.name < level n + 1)) (ik d)
  unfold qB
  omega
 obtain ⟨T1,hT1⟩ : ∃ T,qB (level n) c = T:=⟨_,rfl⟩
 obtain ⟨T2,hT2⟩ : ∃ T,qB (level n + 1) d = T:=⟨_,rfl⟩
 unfold vZ at O7 GZ
 rw [hT1] at O7 HR hlen
 rw [hT2] at GZ HR hlen
 obtain ⟨hl1,hl2⟩:=hlen
 have Qd:=wE n
 have TB : Hid (IntKind.i64.wrap (level n + 1) = level n + 1):=zH (by simp [IntKind.wrap,IntKind.bits,IntKind.signed]; omega)
 have ES:=zH Qd
 clear hT1 hT2 hv hk hf hg hg' hm hm2 hk' hk2 hfp Qd ih hW
 have hone : ((2 : Int) == 1) = false:=rfl
 go_enter Tryz.func146,Tryz.ntmps146
 go_wp2_with fail
 refine (ES.out _).mono ?_
 rintro e w1 ⟨rfl,rfl⟩
 try rw [HW.out]
 have kb:=zH HB.out
 clear HW
 obtain ⟨k0,k1,k2,k3,k4,k5,k6,k7⟩:=HB.out
 simp only [Ex.aN,Ex.aI,Ex.yL,Ex.yK,Ex.yM] at k0 k1 k2 k3 k4 k5
 have r0:=ae y0 hba
 have u0:=ae z0 hba
 have r1:=ae y1 hba
 have u1:=ae z1 hba
 have r2:=ae y2 hba
 have u2:=ae z2 hba
 have r3:=ae y3 hba
 have u3:=ae z3 hba
 have r4:=ae y4 hba
 have u4:=ae z4 hba
 have r5:=ae y5 hba
 have u5:=ae z5 hba
 have hS : ∀ w' : World,Below W.heap.size W w' → (fun w' : World => w'.cell? ⟨w.heap.size,1,none⟩ = some (.string ⟨n.toArray⟩) ∧ w'.cell? ⟨w.heap.size,5,none⟩ = some (.slice (some ⟨b,off,none⟩) 2 cap) ∧ w'.cell? ⟨b,off,none⟩ = some (.int .i64 c.kind) ∧ w'.cell? ⟨b,off + 1,none⟩ = some (.string ⟨c.name.toArray⟩) ∧ w'.cell? ⟨b,off + 2,none⟩ = some (.int .i64 c.vs) ∧ w'.cell? ⟨b,off + 3,none⟩ = some (.int .i64 c.vn) ∧ w'.cell? ⟨b,off + 4,none⟩ = some (.string ⟨c.vt.toArray⟩) ∧ w'.cell? ⟨b,off + 5,none⟩ = some (.slice A1 n1 p1) ∧ w'.cell? ⟨b,off + 6,none⟩ = some (.int .i64 d.kind) ∧ w'.cell? ⟨b,off + 6 + 1,none⟩ = some (.string ⟨d.name.toArray⟩) ∧ w'.cell? ⟨b,off + 6 + 2,none⟩ = some (.int .i64 d.vs) ∧ w'.cell? ⟨b,off + 6 + 3,none⟩ = some (.int .i64 d.vn) ∧ w'.cell? ⟨b,off + 6 + 4,none⟩ = some (.string ⟨d.vt.toArray⟩) ∧ w'.cell? ⟨b,off + 6 + 5,none⟩ = some (.slice A2 n2 p2)) w':=fun w' h => ⟨ae k1 h,ae k5 h,ae r0 h,ae r1 h,ae r2 h,ae r3 h,ae r4 h,ae r5 h,ae u0 h,ae u1 h,ae u2 h,ae u3 h,ae u4 h,ae u5 h⟩
 have bC:=zH (hS W.drew (Below.refl _ _).drew)
 have jE:=zH hS
 clear hS
 go_wp2_with fail
 refine aC 19 (fun w' : World => w'.cell? ⟨w.heap.size,1,none⟩ = some (.string ⟨n.toArray⟩) ∧ w'.cell? ⟨w.heap.size,5,none⟩ = some (.slice (some ⟨b,off,none⟩) 2 cap) ∧ w'.cell? ⟨b,off,none⟩ = some (.int .i64 c.kind) ∧ w'.cell? ⟨b,off + 1,none⟩ = some (.string ⟨c.name.toArray⟩) ∧ w'.cell? ⟨b,off + 2,none⟩ = some (.int .i64 c.vs) ∧ w'.cell? ⟨b,off + 3,none⟩ = some (.int .i64 c.vn) ∧ w'.cell? ⟨b,off + 4,none⟩ = some (.string ⟨c.vt.toArray⟩) ∧ w'.cell? ⟨b,off + 5,none⟩ = some (.slice A1 n1 p1) ∧ w'.cell? ⟨b,off + 6,none⟩ = some (.int .i64 d.kind) ∧ w'.cell? ⟨b,off + 6 + 1,none⟩ = some (.string ⟨d.name.toArray⟩) ∧ w'.cell? ⟨b,off + 6 + 2,none⟩ = some (.int .i64 d.vs) ∧ w'.cell? ⟨b,off + 6 + 3,none⟩ = some (.int .i64 d.vn) ∧ w'.cell? ⟨b,off + 6 + 4,none⟩ = some (.string ⟨d.vt.toArray⟩) ∧ w'.cell? ⟨b,off + 6 + 5,none⟩ = some (.slice A2 n2 p2)) (by kernel_rfl) ?_
 refine zT 0 ?_ rfl (Or.inl ⟨by rfl,?_⟩) bC.out ?_
 rotate_left
 ·(intro wq hSw; obtain ⟨_,_,_,_,_,_,_,_,_,_,_,_,_,_⟩:=hSw; go_simp; all_goals first | with_reducible rfl | rw [zI])
 simp only [zA,zB,zC,Act.put,zD,zE,zF]
 refine zT 1 ?_ rfl (Or.inl ⟨by rfl,?_⟩) bC.out ?_
 rotate_left
 ·(intro wq hSw; obtain ⟨_,_,_,_,_,_,_,_,_,_,_,_,_,_⟩:=hSw; go_simp; all_goals first | with_reducible rfl | rw [zI])
 simp only [zA,zB,zC,Act.put,zD,zE,zF]
 refine zT 2 ?_ rfl (Or.inl ⟨by rfl,?_⟩) bC.out ?_
 rotate_left
 ·(intro wq hSw; obtain ⟨_,_,_,_,_,_,_,_,_,_,_,_,_,_⟩:=hSw; go_simp; all_goals first | with_reducible rfl | rw [zI])
 simp only [zA,zB,zC,Act.put,zD,zE,zF]
 refine zT 3 ?_ rfl (Or.inl ⟨by rfl,?_⟩) bC.out ?_
 rotate_left
 ·(intro wq hSw; obtain ⟨_,_,_,_,_,_,_,_,_,_,_,_,_,_⟩:=hSw; go_simp; all_goals first | with_reducible rfl | rw [zI])
 simp only [zA,zB,zC,Act.put,zD,zE,zF]
 refine zT 4 ?_ rfl (Or.inl ⟨by rfl,?_⟩) bC.out ?_
 rotate_left
 ·(intro wq hSw; obtain ⟨_,_,_,_,_,_,_,_,_,_,_,_,_,_⟩:=hSw; go_simp; all_goals first | with_reducible rfl | rw [zI])
 simp only [zA,zB,zC,Act.put,zD,zE,zF]
 refine zT 7 ?_ rfl (Or.inl ⟨by rfl,?_⟩) bC.out ?_
 rotate_left
 ·(intro wq hSw; obtain ⟨_,_,_,_,_,_,_,_,_,_,_,_,_,_⟩:=hSw; go_simp; all_goals first | with_reducible rfl | rw [zI])
 simp only [zA,zB,zC,Act.put,zD,zE,zF]
 refine zT 8 ?_ rfl (Or.inl ⟨by rfl,?_⟩) bC.out ?_
 rotate_left
 ·(intro wq hSw; obtain ⟨_,_,_,_,_,_,_,_,_,_,_,_,_,_⟩:=hSw; go_simp; all_goals first | with_reducible rfl | rw [zI])
 simp only [zA,zB,zC,Act.put,zD,zE,zF]
 refine zT 11 ?_ rfl (Or.inl ⟨by rfl,?_⟩) bC.out ?_
 rotate_left
 ·(intro wq hSw; obtain ⟨_,_,_,_,_,_,_,_,_,_,_,_,_,_⟩:=hSw; go_simp; all_goals first | with_reducible rfl | rw [zI])
 simp only [zA,zB,zC,Act.put,zD,zE,zF]
 refine zT 12 ?_ rfl (Or.inl ⟨by rfl,?_⟩) bC.out ?_
 rotate_left
 ·(intro wq hSw; obtain ⟨_,_,_,_,_,_,_,_,_,_,_,_,_,_⟩:=hSw; go_simp; all_goals first | with_reducible rfl | rw [zI])
 simp only [zA,zB,zC,Act.put,zD,zE,zF]
 refine zT 13 ?_ rfl (Or.inl ⟨by rfl,?_⟩) bC.out ?_
 rotate_left
 ·(intro wq hSw; obtain ⟨_,_,_,_,_,_,_,_,_,_,_,_,_,_⟩:=hSw; go_simp; all_goals first | with_reducible rfl | rw [zI])
 simp only [zA,zB,zC,Act.put,zD,zE,zF]
 refine zT 14 ?_ rfl (Or.inl ⟨by rfl,?_⟩) bC.out ?_
 rotate_left
 ·(intro wq hSw; obtain ⟨_,_,_,_,_,_,_,_,_,_,_,_,_,_⟩:=hSw; go_simp; all_goals first | with_reducible rfl | rw [zI])
 simp only [zA,zB,zC,Act.put,zD,zE,zF]
 refine zT 15 ?_ rfl (Or.inl ⟨by rfl,?_⟩) bC.out ?_
 rotate_left
 ·(intro wq hSw; obtain ⟨_,_,_,_,_,_,_,_,_,_,_,_,_,_⟩:=hSw; go_simp; all_goals first | with_reducible rfl | rw [zI])
 simp only [zA,zB,zC,Act.put,zD,zE,zF]
 refine zT 16 ?_ rfl (Or.inl ⟨by rfl,?_⟩) bC.out ?_
 rotate_left
 ·(intro wq hSw; obtain ⟨_,_,_,_,_,_,_,_,_,_,_,_,_,_⟩:=hSw; go_simp; all_goals first | with_reducible rfl | rw [zI])
 simp only [zA,zB,zC,Act.put,zD,zE,zF]
 refine zO 5 fun K hK => ?_
 go_simp
 refine (O7.out).mono ?_
 rintro e w1 ⟨rfl,hq⟩
 have hb1:=chain (Below.refl W.heap.size W).drew hq
 clear hq
 refine hK.out _ _ (fun _ => jE.out _ hb1) ?_
 clear hK K
 try simp only [zA,zB,zC,Act.put,zD,zE,zF]
 refine zT 6 ?_ rfl (Or.inl ⟨by rfl,?_⟩) (jE.out _ hb1) ?_
 rotate_left
 ·(intro wq hSw; obtain ⟨_,_,_,_,_,_,_,_,_,_,_,_,_,_⟩:=hSw; go_simp; all_goals first | with_reducible rfl | rw [zI])
 simp only [zA,zB,zC,Act.put,zD,zE,zF]
 refine zT 9 ?_ rfl (Or.inl ⟨by rfl,?_⟩) (jE.out _ hb1) ?_
 rotate_left
 ·(intro wq hSw; obtain ⟨_,_,_,_,_,_,_,_,_,_,_,_,_,_⟩:=hSw; go_simp; all_goals first | with_reducible rfl | rw [zI])
 simp only [zA,zB,zC,Act.put,zD,zE,zF]
 refine zT 10 ?_ rfl (Or.inl ⟨by rfl,?_⟩) (jE.out _ hb1) ?_
 rotate_left
 ·(intro wq hSw; obtain ⟨_,_,_,_,_,_,_,_,_,_,_,_,_,_⟩:=hSw; go_simp; all_goals first | with_reducible rfl | rw [zI])
 simp only [zA,zB,zC,Act.put,zD,zE,zF]
 refine zO 17 fun K hK => ?_
 go_simp
 rw [TB.out]
 refine (GZ.out w1 (chain hba hb1)).mono ?_
 rintro e w2 ⟨rfl,hq⟩
 have hb2:=chain hb1 hq
 clear hq
 refine hK.out _ _ (fun _ => jE.out _ hb2) ?_
 clear hK K
 try simp only [zA,zB,zC,Act.put,zD,zE,zF]
 refine zT 18 ?_ rfl (Or.inl ⟨by rfl,?_⟩) (jE.out _ hb2) ?_
 rotate_left
 ·(intro wq hSw; obtain ⟨_,_,_,_,_,_,_,_,_,_,_,_,_,_⟩:=hSw; go_simp; all_goals first | with_reducible rfl | rw [zI])
 simp only [zA,zB,zC,Act.put,zD,zE,zF]
 refine zO 19 fun K hK => ?_
 go_simp
 refine hK.out _ _ (fun h => absurd h (by decide)) ?_
 clear hK K
 try simp only [zA,zB,zC,Act.put,zD,zE,zF]
 refine bf (by kernel_rfl) ?_
 obtain ⟨T,hT⟩ : ∃ T,T1 ++ 32 :: (n ++ 32 :: T2) = T:=⟨_,rfl⟩
 have hTl : T.length ≤ 10000000000:=by rw [← hT]; simp; omega
 have q1 : ¬ 9223372036854775807 < 1 + T.length:=by omega
 have q2 : ¬ 9223372036854775807 < 1 + T.length + 1:=by omega
 have q3 : ¬ 9223372036854775807 < T.length + 1 + 1:=by omega
 have q4 : ¬ 9223372036854775807 < T.length + 1:=by omega
 have Uw : Hid (R = paren (decide (level n < a)) T):=by
  show _ = _
  rw [HR.out,← hT]
  congr 1
  simp
 rw [hT]
 clear hT hTl HR
 by_cases hla : level n < a
 ·go_wp2_with fail
  go_ret
  exact ⟨by rw [Uw.out,decide_eq_true (by omega)]; rfl,chain hba hb2⟩
 ·go_wp2_with fail
  go_ret
  exact ⟨by rw [Uw.out,decide_eq_false (by omega)]; rfl,chain hba hb2⟩
theorem ewrite_any : ∀ (m : Nat),TI m:=by
 intro m
 induction m with
 | zero => intro t v a w h; cases t; simp only [gZ] at h; omega
 | succ m ih =>
 intro t v a w hm hm2 hv hf hg ha1 ha2 hT hP
 rcases CP hg with ⟨s,vn,x,rfl,hc⟩ | ⟨n,s,vn,x,rfl⟩ | ⟨n,s,vn,x,c,rfl,hl,h1⟩ | ⟨n,s,vn,x,c,d,rfl,hl,h1,h2⟩
 ·exact write_lit s vn x v a w hv hf hc hT hP
 ·exact write_name n s vn x v a w hv
 ·exact write_one m ih n s vn x c v a w hm hm2 hv hf hl h1 hT hP
 ·exact write_two m ih n s vn x c d v a w hm hm2 hv hf hl h1 h2 ha1 ha2 hT hP
mutual
theorem Cj : ∀ (t : Ex) (l : Int),(nG t l).1 = 0 → (nG t l).2 + gZ t = l
 | .mk k n s v x ks,l,h => by
  unfold nG at h ⊢
  split at h
  ·simp at h
  ·rename_i h0
   rw [if_neg h0]
   split at h
   ·rename_i h9
    rw [if_pos h9]
    have:=AY ks (l - 1) h
    simp only [gZ]
    omega
   ·rename_i h9
    rw [if_neg h9]
    have : ks = []:=EH h9 h
    subst this
    simp only [gZ,oO]
    omega
theorem AY : ∀ (ks : List Ex) (l : Int),(qm ks l).1 = 0 → (qm ks l).2 + oO ks = l
 | [],l,_ => by simp [qm,oO]
 | k :: r,l,h => by
  unfold qm at h ⊢
  split at h
  ·rename_i h0
   rw [if_pos h0]
   have h1:=Cj k l h0
   have h2:=AY r _ h
   simp only [oO]
   omega
  ·rename_i h0
   exact absurd h h0
end
theorem Ar {t : Ex} (h : lF t = 0) : gZ t ≤ 60:=by
 have h1:=Cj t 60 h
 have h2:=(BF t 60).2 h (by omega)
 omega
theorem wtxt_zero (t : Ex) : qB 0 t = ik t:=by
 have:=(wF t.name).1
 unfold qB
 rw [decide_eq_false (by omega)]
 rfl
theorem eWrite_ok (t : Ex) (v : Value) (w : World) {D : aj} (hv : uy D w v t) (hf : bI 1048576 t) (hT : Tabs w) (hP : ql w) (hE : lF t = 0) :
  Calls Tryz.prog 109 #[v] w fun e w' => e = .returned (.tuple #[.string ⟨(ik t).toArray⟩,.int .i64 0]) ∧ Below w.heap.size w w':=by
 have HZ:=zH hv.all
 obtain ⟨A,L,cap,rfl,hk⟩:=hv.one'
 have HE:=zH hE
 have hg:=CO t 60 hE
 have hp:=Ar hE
 have HZT:=zH (wtxt_zero t)
 clear hE hk hv
 go_enter Tryz.func109,Tryz.ntmps109
 go_wp2_with fail
 obtain ⟨W,hW⟩ : ∃ W,w.alloc (.cells #[.int .i64 t.kind,.string ⟨t.name.toArray⟩,.int .i64 t.vs,.int .i64 t.vn,.string ⟨t.vt.toArray⟩,.slice A L cap] 52) = W:=⟨_,rfl⟩
 have hbx : jf W w.heap.size t (.slice A L cap):=by subst hW; exact pG w t (.slice A L cap) 52
 have hb0 : Below w.heap.size w W:=by subst hW; exact (Below.refl _ _).alloc (Nat.le_refl _) _
 try rw [hW]
 clear hW
 refine (yT t _ _ (HZ.out.below hb0) hf (hT.below hb0)).mono ?_; rw [HE.out]; rintro e w1 ⟨rfl,hb1⟩
 obtain ⟨b0,b1,b2,b3,b4,b5,b6,b7⟩:=hbx.keep hb1 hbx.lt
 have hb2:=chain hb0 hb1
 clear hbx
 go_wp2_with fail
 have hwr:=ewrite_any (gZ t) t (.agg #[.int .i64 t.kind,.string ⟨t.name.toArray⟩,.int .i64 t.vs,.int .i64 t.vn,.string ⟨t.vt.toArray⟩,.slice A L cap]) 0 w1 (Nat.le_refl _) (by omega) (HZ.out.below hb2) hf hg (by omega) (by omega) (hT.below hb2) (hP.below hb2)
 unfold vZ at hwr
 rw [HZT.out] at hwr
 refine hwr.mono ?_; clear hwr; rintro e w2 ⟨rfl,hb3⟩
 go_wp2_with fail
 exact bodyPost_ret (v:=.tuple #[.string ⟨(ik t).toArray⟩,.int .i64 0]) (by simp [results,Tryz.results109,go_sem]) rfl ⟨rfl,chain hb2 hb3⟩
theorem rX {w t r : Bool} (h : ai w t r = true) (hw : w = true) : r = true:=by
 subst hw
 simpa [ai] using h
theorem qw {w t r : Bool} (h : ai w t r = true) (hw : w = false) : t = false:=by
 subst hw
 simpa [ai] using h
theorem CG : ∀ {l : List Ex},o8 l = 0 → ∀ x ∈ l,lF x = 0
 | [],_,x,hx => by simp at hx
 | y :: r,h,x,hx => by
  unfold o8 at h
  split at h
  ·rename_i h0
   rcases List.mem_cons.1 hx with rfl | hx
   ·exact h0
   ·exact CG h x hx
  ·rename_i h0
   exact absurd h h0
theorem DD : ∀ {l : List Ty},nC l = 0 → ∀ x ∈ l,pg x = 0
 | [],_,x,hx => by simp at hx
 | y :: r,h,x,hx => by
  unfold nC at h
  split at h
  ·rename_i h0
   rcases List.mem_cons.1 hx with rfl | hx
   ·exact h0
   ·exact DD h x hx
  ·rename_i h0
   exact absurd h h0
structure oM (p : Pr) : Prop where
 k1 : 1 ≤ p.kind
 k2 : p.kind ≤ 13
 ch : p.chan.length ≤ 8
 nm : p.name.length ≤ 8
 lb : p.label.length ≤ 8
 ls : p.labels.length ≤ 6
 l8 : ∀ s ∈ p.labels,s.length ≤ 8
 ns : p.names.length ≤ 6
 n8 : ∀ s ∈ p.names,s.length ≤ 8
 es : p.exprs.length ≤ 6
 e0 : ∀ x ∈ p.exprs,lF x = 0
 kids : p.kids.length = (jw p.kind p.labels.length).kids
 ex : (jw p.kind p.labels.length).expr = true → lF p.ex = 0
 ty : (jw p.kind p.labels.length).type = true → pg p.ty = 0
theorem Ie {p : Pr} (h : nU p = 0) : oM p:=by
 unfold nU at h
 split at h
 ·rename_i hok
  split at h
  ·rename_i hes
   unfold zh at hok
   simp only [Bool.and_eq_true,decide_eq_true_eq] at hok
   obtain ⟨k1,k2,h1,h2,h3,h4,h5,h6,h7,h8,h9⟩:=hok
   have G9 : ∀ {w : Bool} {s : Str} {r : Bool},ai w (!decide (s = [])) r = true → (r = true → s.length ≤ 8) → s.length ≤ 8:=by
    intro w s r hh hr
    cases w with
    | true => exact hr (rX hh rfl)
    | false =>
     have:=qw hh rfl
     simp at this
     rw [this]; decide
   refine ⟨k1,k2,G9 h1 fun h => (pM h).2,G9 h2 fun h => ?_,G9 h3 fun h => (pM h).2,?_,?_,?_,?_,?_,CG hes,h9,?_,?_⟩
   ·unfold named at h
    rw [Bool.and_eq_true] at h
    exact (pM h.1).2
   ·cases hw : (jw p.kind p.labels.length).labels with
    | true => exact (rE (rX h4 hw)).2.1
    | false => have:=qw h4 hw; simp at this; rw [this]; decide
   ·cases hw : (jw p.kind p.labels.length).labels with
    | true => exact (rE (rX h4 hw)).2.2
    | false => have:=qw h4 hw; simp at this; rw [this]; simp
   ·cases hw : (jw p.kind p.labels.length).names with
    | true => have:=rX h5 hw; unfold aZ at this; rw [Bool.and_eq_true,decide_eq_true_eq] at this; exact this.1
    | false => have:=qw h5 hw; simp at this; rw [this]; decide
   ·cases hw : (jw p.kind p.labels.length).names with
    | true =>
     have:=rX h5 hw
     unfold aZ at this
     rw [Bool.and_eq_true,List.all_eq_true] at this
     exact fun s hs => (pM (this.2 s hs)).2
    | false => have:=qw h5 hw; simp at this; rw [this]; simp
   ·cases hw : (jw p.kind p.labels.length).exprs with
    | true => simpa using rX h7 hw
    | false => have:=qw h7 hw; simp at this; rw [this]; decide
   ·intro hx
    by_cases he : lF p.ex = 0
    ·exact he
    ·rw [if_pos ⟨hx,he⟩] at h
     exact h
   ·intro hx
    split at h
    ·rename_i h0; exact absurd h h0.2
    ·first | exact h | rwa [if_pos hx] at h
  ·rename_i h0; exact absurd h h0
 ·simp at h
theorem nN {sep : Str} : ∀ {l : List Str} {B : Nat},(∀ s ∈ l,s.length ≤ B) → (bn sep l).length ≤ l.length * (B + sep.length)
 | [],_,_ => by simp [bn]
 | [x],B,h => by have:=h x (by simp); simp [bn]; omega
 | x :: y :: r,B,h => by
  have h1:=h x (by simp)
  have h2:=nN (sep:=sep) (l:=y :: r) (B:=B) fun s hs => h s (by simp at hs ⊢; exact Or.inr hs)
  simp only [bn,List.length_append,List.length_cons] at h2 ⊢
  rw [Nat.add_mul,Nat.one_mul]
  omega
theorem Ea {sep : Str} : ∀ {l : List Str},(bn sep l).length ≤ (l.map List.length).sum + l.length * sep.length
 | [] => by simp [bn]
 | [x] => by simp [bn]
 | x :: y :: r => by
  have h2:=Ea (sep:=sep) (l:=y :: r)
  simp only [bn,List.length_append,List.length_cons,List.map_cons,List.sum_cons] at h2 ⊢
  rw [Nat.add_mul (r.length + 1) 1,Nat.one_mul]
  omega
theorem wM {N : Nat} {p : Pr} (h : bF N p) : bI N p.ex:=by
 have:=h.parts
 cases p
 obtain ⟨-,-,-,-,h1,h2,h3,h4,h5,h6,h7,-⟩:=this
 exact .mk _ _ _ _ _ _ h1 h2 h3 h4 h5 h6 h7
theorem qj {x : Ex} (h : lF x = 0) (hf : bI 1048576 x) : (ik x).length ≤ 240000000:=by
 have h1:=qo x hf
 have h2:=Ar h
 omega
theorem AP {t : Ty} (h : pg t = 0) : (txt t).length ≤ 6000:=by
 have h1:=lH t (vN t [] 60 h)
 have h2:=Di h
 omega
theorem Ij : ∀ (ls ks : List Str),(∀ s ∈ ls,s.length ≤ 8) → ((List.zipWith (fun (l : Str) (k : Str) => l ++ [58,32] ++ k) ls ks).map List.length).sum ≤ 10 * ls.length + (ks.map List.length).sum
 | [],ks,_ => by simp
 | l :: r,[],_ => by simp
 | l :: r,k :: s,h => by
  have h1:=h l (by simp)
  have h2:=Ij r s fun x hx => h x (by simp [hx])
  simp only [List.zipWith_cons_cons,List.map_cons,List.sum_cons,zG,zJ,zK] at h2 ⊢
  omega
theorem Dj {p : Pr} {ks : List Str} (h : p.kind = 1) : oQ p ks = ([115,116,111,112] : Str):=by unfold oQ; rw [h]; rfl
theorem Dk {p : Pr} {ks : List Str} (h : p.kind = 2) : oQ p ks = ([115,101,110,100,32] : Str) ++ p.chan ++ [32] ++ ik p.ex ++ [59,32] ++ ks.getLastD []:=by unfold oQ; rw [h]; rfl
theorem Dl {p : Pr} {ks : List Str} (h : p.kind = 3) : oQ p ks = ([114,101,99,118,32] : Str) ++ p.chan ++ [32] ++ p.name ++ [59,32] ++ ks.getLastD []:=by unfold oQ; rw [h]; rfl
theorem Dn {p : Pr} {ks : List Str} (h : p.kind = 4) : oQ p ks = ([103,105,118,101,32] : Str) ++ p.chan ++ [32] ++ p.name ++ [59,32] ++ ks.getLastD []:=by unfold oQ; rw [h]; rfl
theorem Dp {p : Pr} {ks : List Str} (h : p.kind = 5) : oQ p ks = ([116,97,107,101,32] : Str) ++ p.chan ++ [32] ++ p.name ++ [59,32] ++ ks.getLastD []:=by unfold oQ; rw [h]; rfl
theorem Dq {p : Pr} {ks : List Str} (h : p.kind = 6) : oQ p ks = ([112,105,99,107,32] : Str) ++ p.chan ++ [32] ++ p.label ++ [59,32] ++ ks.getLastD []:=by unfold oQ; rw [h]; rfl
theorem Dt {p : Pr} {ks : List Str} (h : p.kind = 7) : oQ p ks = ([99,97,115,101,32] : Str) ++ p.chan ++ [32,123] ++ bn comma (List.zipWith (fun l k => l ++ [58,32] ++ k) p.labels ks) ++ [125]:=by unfold oQ; rw [h]; rfl
theorem Du {p : Pr} {ks : List Str} (h : p.kind = 8) : oQ p ks = ([101,110,100,32] : Str) ++ p.chan ++ [59,32] ++ ks.getLastD []:=by unfold oQ; rw [h]; rfl
theorem Dv {p : Pr} {ks : List Str} (h : p.kind = 9) : oQ p ks = ([115,112,97,119,110,32] : Str) ++ p.chan ++ [58] ++ txt p.ty ++ [32,40] ++ bn comma p.names ++ [41,32,123] ++ ks.headD [] ++ [125] ++ [59,32] ++ ks.getLastD []:=by unfold oQ; rw [h]; rfl
theorem Az {p : Pr} {ks : List Str} (h : p.kind = 10) : oQ p ks = ([105,102,32] : Str) ++ ik p.ex ++ [32,123] ++ ks.headD [] ++ ([125,32,101,108,115,101,32,123] : Str) ++ ks.getLastD [] ++ [125]:=by unfold oQ; rw [h]; rfl
theorem AA {p : Pr} {ks : List Str} (h : p.kind = 11) : oQ p ks = ([108,101,116,32] : Str) ++ p.name ++ [32,61,32] ++ ik p.ex ++ [59,32] ++ ks.getLastD []:=by unfold oQ; rw [h]; rfl
theorem AB {p : Pr} {ks : List Str} (h : p.kind = 12) : oQ p ks = ([112,114,105,110,116,32] : Str) ++ ik p.ex ++ [59,32] ++ ks.getLastD []:=by unfold oQ; rw [h]; rfl
theorem AC {p : Pr} {ks : List Str} (h : p.kind = 13) : oQ p ks = p.name ++ [40] ++ bn comma (p.exprs.map ik) ++ (if p.names.length = 0 then [] else [59,32] ++ bn comma p.names) ++ [41]:=by unfold oQ; rw [h]; rfl
theorem ptxt1_len {p : Pr} (h : oM p) (hf : bF 1048576 p) (ks : List Str) (hks : ks.length = (jw p.kind p.labels.length).kids) : (oQ p ks).length + 8 ≤ 1900000000 + (ks.map List.length).sum:=by
 have two : p.kind = 9 ∨ p.kind = 10 → ∃ a b,ks = [a,b]:=by
  intro hk
  have : ks.length = 2:=by rw [hks]; rcases hk with hk | hk <;> rw [hk] <;> rfl
  match ks,this with
  | [a,b],_ => exact ⟨a,b,rfl⟩
 have hex : p.kind = 2 ∨ p.kind = 10 ∨ p.kind = 11 ∨ p.kind = 12 → (ik p.ex).length ≤ 240000000:=by
  intro hk
  refine qj (h.ex ?_) (wM hf)
  rcases hk with hk | hk | hk | hk <;> rw [hk] <;> rfl
 have hty : p.kind = 9 → (txt p.ty).length ≤ 6000:=by
  intro hk
  refine AP (h.ty ?_)
  rw [hk]; rfl
 have hl : ∀ (l : List Str),(l.getLastD []).length ≤ (l.map List.length).sum:=by
  intro l
  induction l with
  | nil => simp
  | cons x r ih =>
   cases r with
   | nil => simp
   | cons y r =>
    have : ((x :: y :: r).getLastD []) = ((y :: r).getLastD []):=by simp [List.getLastD]
    rw [this]
    simp only [List.map_cons,List.sum_cons] at ih ⊢
    omega
 have hh : ∀ (l : List Str),(l.headD []).length ≤ (l.map List.length).sum:=by
  intro l
  cases l with
  | nil => simp
  | cons x r => simp only [List.headD_cons,List.map_cons,List.sum_cons]; omega
 have h1:=hl ks
 have h2:=hh ks
 have hc:=h.ch
 have hn:=h.nm
 have hb:=h.lb
 have k1:=h.k1
 have k2:=h.k2
 rcases (by omega : p.kind = 1 ∨ p.kind = 2 ∨ p.kind = 3 ∨ p.kind = 4 ∨ p.kind = 5 ∨ p.kind = 6 ∨ p.kind = 7 ∨ p.kind = 8 ∨ p.kind = 9 ∨ p.kind = 10 ∨ p.kind = 11 ∨ p.kind = 12 ∨ p.kind = 13) with hk | hk | hk | hk | hk | hk | hk | hk | hk | hk | hk | hk | hk
 ·rw [Dj hk]; simp only [List.length_cons,List.length_nil]; omega
 ·rw [Dk hk]
  have:=hex (Or.inl hk)
  simp only [zG,zJ,zK]
  omega
 ·rw [Dl hk]
  simp only [zG,zJ,zK]
  omega
 ·rw [Dn hk]
  simp only [zG,zJ,zK]
  omega
 ·rw [Dp hk]
  simp only [zG,zJ,zK]
  omega
 ·rw [Dq hk]
  simp only [zG,zJ,zK]
  omega
 ·rw [Dt hk]
  have h3:=Ea (sep:=comma) (l:=List.zipWith (fun l k => l ++ [58,32] ++ k) p.labels ks)
  have h4:=Ij p.labels ks h.l8
  have h5:=h.ls
  have h6 : (List.zipWith (fun (l : Str) (k : Str) => l ++ [58,32] ++ k) p.labels ks).length ≤ 6:=by simp; omega
  have h7 : comma.length = 2:=rfl
  rw [h7] at h3
  simp only [zG,zJ,zK]
  omega
 ·rw [Du hk]
  simp only [zG,zJ,zK]
  omega
 ·rw [Dv hk]
  obtain ⟨ka,kb,rfl⟩:=two (Or.inl hk)
  have h3:=hty hk
  have h4:=nN (sep:=comma) (l:=p.names) (B:=8) h.n8
  have h5:=h.ns
  have h7 : comma.length = 2:=rfl
  rw [h7] at h4
  simp only [zG,zJ,zK,List.map_cons,List.map_nil,List.sum_cons,List.sum_nil,List.headD_cons,List.getLastD_cons,List.getLastD_nil]
  omega
 ·rw [Az hk]
  obtain ⟨ka,kb,rfl⟩:=two (Or.inr hk)
  have:=hex (Or.inr (Or.inl hk))
  simp only [zG,zJ,zK,List.map_cons,List.map_nil,List.sum_cons,List.sum_nil,List.headD_cons,List.getLastD_cons,List.getLastD_nil]
  omega
 ·rw [AA hk]
  have:=hex (Or.inr (Or.inr (Or.inl hk)))
  simp only [zG,zJ,zK]
  omega
 ·rw [AB hk]
  have:=hex (Or.inr (Or.inr (Or.inr hk)))
  simp only [zG,zJ,zK]
  omega
 ·rw [AC hk]
  have h4:=nN (sep:=comma) (l:=p.names) (B:=8) h.n8
  have h5:=h.ns
  have h6:=nN (sep:=comma) (l:=p.exprs.map ik) (B:=240000000) (by
   intro s hs
   obtain ⟨x,hx,rfl⟩:=List.mem_map.1 hs
   exact qj (h.e0 x hx) (hf.parts.2.2.2.2.2.2.2.2.2.2.2.2.1 x hx))
  have h8:=h.es
  have h7 : comma.length = 2:=rfl
  rw [h7] at h4 h6
  rw [List.length_map] at h6
  simp only [zG,zJ,zK]
  split
  ·simp only [List.length_nil]; omega
  ·simp only [zG,zJ,zK]; omega
theorem pq.one {t : Pr} (h : pq t) : nU t = 0:=by cases h; assumption
theorem pq.kid {t : Pr} (h : pq t) : ∀ k ∈ t.kids,pq k:=by cases h; assumption
theorem bF.kid {N : Nat} {t : Pr} (h : bF N t) : ∀ k ∈ t.kids,bF N k:=h.parts.2.2.2.2.2.2.2.2.2.2.2.2.2.2.2.2.2.2.2.2.2.2.2.2.2
mutual
theorem rM : ∀ (t : Pr),pq t → bF 1048576 t → (lC t).length + 8 ≤ 1900000000 * bG t
 | .mk kind chan name label xk xn xs xv xt af exprs names tk ts tn tl ag labels kids,hg,hf => by
  have h0:=Ie hg.one
  have h1:=ptxt1_len h0 hf (Be kids) (by rw [Ef,List.length_map]; exact h0.kids)
  have h2:=Ee kids hg.kid hf.kid
  simp only [lC,bG]
  omega
theorem Ee : ∀ (ks : List Pr),(∀ k ∈ ks,pq k) → (∀ k ∈ ks,bF 1048576 k) → ((Be ks).map List.length).sum ≤ 1900000000 * oG ks
 | [],_,_ => by simp [Be]
 | k :: r,hg,hf => by
  have h1:=rM k (hg k (by simp)) (hf k (by simp))
  have h2:=Ee r (fun x hx => hg x (by simp [hx])) (fun x hx => hf x (by simp [hx]))
  simp only [Be,List.map_cons,List.sum_cons,oG]
  omega
end
theorem zf (sep : Str) : ∀ l : List Str,Lib.join l sep = bn sep l
 | [] => rfl
 | [x] => by rw [Lib.join_one]; rfl
 | x :: y :: r => by
  have h:=zf sep (y :: r)
  rw [Lib.join_cons] at h ⊢
  rw [bn,← h]
  simp [Lib.joinTail]
theorem zL (v : Value) (ls : List Str) (sep : Str) (w : World) (hv : aF w v ls) (hn : ls.length ≤ 1048576) (hlen : (bn sep ls).length ≤ 140737488355328) :
  Calls Tryz.prog 79 #[v,.string ⟨sep.toArray⟩] w fun e w' => e = .returned (.string ⟨(bn sep ls).toArray⟩) ∧ Below w.heap.size w w':=by
 obtain ⟨A,c,rfl,hc,h3⟩:=hv
 have hmm : (ls.map fun s => (⟨s.toArray⟩ : ByteArray)).map (·.data.toList) = ls:=by rw [List.map_map]; exact (List.map_congr_left (fun s _ => rfl)).trans (List.map_id ls)
 by_cases h0 : ls.length = 0
 ·obtain rfl:=List.eq_nil_of_length_eq_zero h0
  exact (Tryz.strings_Join_none A c ⟨sep.toArray⟩ w).mono fun e w' ⟨he,hw⟩ => ⟨he,hw ▸ Below.refl _ _⟩
 ·obtain ⟨b,off,rfl,hr⟩:=h3 (by omega)
  have hb : b < w.heap.size:=by
   obtain ⟨s,hs⟩ : ∃ s,ls[0]? = some s:=⟨_,List.getElem?_eq_getElem (by omega)⟩
   exact cell_lt (hr 0 s hs)
  have:=Tryz.strings_Join b off c (ls.map fun s => ⟨s.toArray⟩) ⟨sep.toArray⟩ w (fun j x hj => by
   rw [List.getElem?_map] at hj
   obtain ⟨s,hs,rfl⟩:=Option.map_eq_some_iff.1 hj
   exact hr j s hs) hb (by rw [List.length_map]; omega) (by rw [List.length_map]; exact hc) (by rw [hmm]; show (Lib.join ls sep).length ≤ _; rw [zf]; exact hlen)
  rw [hmm,List.length_map] at this
  rw [← zf]
  exact this
theorem xB (t : Ex) (v : Value) (w : World) {D : aj} (hv : uy D w v t) (hf : bI 1048576 t) (hT : Tabs w) (hP : ql w) (hE : lF t = 0) :
  Calls Tryz.prog 78 #[v] w fun e w' => e = .returned (.string ⟨(ik t).toArray⟩) ∧ Below w.heap.size w w':=by
 have HZ:=zH hv
 obtain ⟨A,L,cap,rfl,hk⟩:=hv.one'
 obtain ⟨R,hR⟩ : ∃ x,ik t = x:=⟨_,rfl⟩
 have HR:=zH hR
 rw [hR]
 clear hk hv hR
 go_enter Tryz.func78,Tryz.ntmps78
 go_wp2_with fail
 obtain ⟨W,hW⟩ : ∃ y,w.alloc (.cells #[.int .i64 t.kind,.string ⟨t.name.toArray⟩,.int .i64 t.vs,.int .i64 t.vn,.string ⟨t.vt.toArray⟩,.slice A L cap] 52) = y:=⟨_,rfl⟩
 have hbW : Below w.heap.size w W:=by subst hW; exact (Below.refl _ _).alloc (Nat.le_refl _) _
 try rw [hW]
 clear hW
 refine (eWrite_ok t _ W (HZ.out.below hbW) hf (hT.below hbW) (hP.below hbW) hE).mono ?_
 rw [HR.out]
 rintro e w2 ⟨rfl,hb2⟩
 go_wp2_with fail
 go_ret
 exact ⟨rfl,chain hbW hb2⟩
theorem CX (sep : Str) : ∀ (l : List Str) (x : Str),bn sep (l ++ [x]) = if l.length = 0 then x else bn sep l ++ (sep ++ x)
 | [],x => rfl
 | [y],x => rfl
 | y :: z :: r,x => by
  have:=CX sep (z :: r) x
  simp only [List.cons_append,List.length_cons] at this ⊢
  rw [bn,this,bn]
  rw [if_neg (by omega),if_neg (by omega)]
  simp
theorem wQ {sep : Str} {ls : List Str} {i : Nat} {x : Str} (h : ls[i]? = some x) : bn sep (ls.take (i + 1)) = if i = 0 then x else bn sep (ls.take i) ++ (sep ++ x):=by
 obtain ⟨h1,h2⟩:=List.getElem?_eq_some_iff.1 h
 rw [List.take_add_one,h,Option.toList_some,CX,List.length_take,Nat.min_eq_left (by omega)]
theorem yZ {sep : Str} (ls : List Str) : ∀ (i : Nat),(bn sep (ls.take i)).length ≤ (bn sep ls).length:=by
 intro i
 have key : ∀ (d i : Nat),ls.length ≤ i + d → (bn sep (ls.take i)).length ≤ (bn sep ls).length:=by
  intro d
  induction d with
  | zero => intro i h; rw [List.take_of_length_le (by omega)]; exact Nat.le_refl _
  | succ d ih =>
   intro i h
   by_cases hi : i < ls.length
   ·have h1:=ih (i + 1) (by omega)
    rw [wQ (List.getElem?_eq_getElem hi)] at h1
    split at h1
    ·rename_i h0; rw [h0,List.take_zero]; simp [bn]
    ·rw [List.length_append] at h1; omega
   ·rw [List.take_of_length_le (by omega)]; exact Nat.le_refl _
 exact key ls.length i (by omega)
theorem qX (v : Value) (ls : List Str) (sep : Str) (w : World) (hv : aF w v ls) (hn : ls.length ≤ 1048576) (hlen : (bn sep ls).length ≤ 140737488355328) :
  Calls Tryz.prog 46 #[v,.string ⟨sep.toArray⟩] w fun e w' => e = .returned (.string ⟨(bn sep ls).toArray⟩) ∧ Below w.heap.size w w':=by
 have HV:=zH hv
 obtain ⟨A,c,rfl,hc,hr⟩:=hv
 obtain ⟨n,hn'⟩ : ∃ n,ls.length = n:=⟨_,rfl⟩
 have HN:=zH hn'
 rw [hn'] at hc hn hr ⊢
 obtain ⟨R,hR⟩ : ∃ x,bn sep ls = x:=⟨_,rfl⟩
 have HR:=zH hR
 have hmono:=yZ (sep:=sep) ls
 rw [hR] at hlen hmono ⊢
 have HMO:=zH hmono
 have HRW:=zH hr
 clear hn' hR hmono hr
 go_enter Tryz.func46,Tryz.ntmps46
 go_wp2_with fail
 go_loopw [5,6] (fun s i wr => ∃ (k : Nat) (J : Str),k ≤ n ∧ i = .int .i64 k ∧ s = .string ⟨J.toArray⟩ ∧ Hid (bn sep (ls.take k) = J) ∧ wr = w) (fun _ i _ => n - (intOf i).toNat)
 case atStart => exact ⟨0,[],by omega,rfl,rfl,zH rfl,rfl⟩
 case round =>
  obtain ⟨k,J,hk,rfl,rfl,HJ,hw⟩:=hrel
  subst hw
  by_cases hlt : k < n
  ·obtain ⟨x,hx⟩ : ∃ y,ls[k]? = some y:=⟨_,List.getElem?_eq_getElem (by have:=HN.out; omega)⟩
   obtain ⟨b,off,rfl,hrow⟩:=HRW.out (by omega)
   have hcell:=hrow k x hx
   have hst:=wQ (sep:=sep) hx
   have hml:=HMO.out (k + 1)
   rw [HJ.out] at hst
   have HST:=zH hst
   clear hrow hx hst
   by_cases h0 : k = 0
   ·subst h0
    have hJ : J = []:=by rw [← HJ.out]; rfl
    subst hJ
    have hst : bn sep (ls.take (0 + 1)) = x:=by rw [HST.out,if_pos rfl]
    have HS2:=zH hst
    rw [hst] at hml
    rw [Nat.add_zero] at hcell
    have q1 : ¬ 9223372036854775807 < x.length:=by omega
    clear hst hml
    go_wp2_with fail
    go_roundw
    case rel => exact ⟨1,x,by omega,by go_num,by simp,HS2,trivial⟩
    case measure => simp [intOf]; omega
   ·have hst : bn sep (ls.take (k + 1)) = J ++ (sep ++ x):=by rw [HST.out,if_neg h0]
    have HS2:=zH hst
    rw [hst] at hml
    simp only [List.length_append] at hml
    have q1 : ¬ 9223372036854775807 < J.length + sep.length:=by omega
    have q2 : ¬ 9223372036854775807 < J.length + sep.length + x.length:=by omega
    have q3 : ¬ 9223372036854775807 < J.length + (sep.length + x.length):=by omega
    have hk0 : 0 < k:=by omega
    clear hst hml h0
    go_wp2_with fail
    go_roundw
    case rel => exact ⟨k + 1,J ++ (sep ++ x),by omega,by go_num,by simp,HS2,trivial⟩
    case measure => simp [intOf]; omega
  ·have hkn : k = n:=by omega
   subst hkn
   have hJ : J = R:=by rw [← HJ.out,List.take_of_length_le (by have:=HN.out; omega)]; exact HR.out
   subst hJ
   go_wp2_with fail
   go_ret
   exact ⟨rfl,by go_grown⟩
end Go.Proofs.YtpidjanngbaiiaaGreatDoor
