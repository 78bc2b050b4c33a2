/-
  TyL Law Opn TyOpen TyS
-/
import Derived.Test.YtpidjanngbaiiaaGreatDoorM2
import Derived.Deep.RegionHeld3
import Derived.Deep.DrawnRows
import Derived.ProofKit
import Derived.OpenShut
import Derived.Carry
import Derived.ChangeSame
import Derived.Deep.DeepHandedRow
import Derived.Lib.LaidTab
import Derived.Lib.LaidU8T
import Derived.PinnedBridge
import Derived.Lib.SmallJoins
import Derived.ChangeArms
import Derived.DataReads
import Derived.Deep.Slices
import Derived.Deep.Strs
import Derived.Deep.Fields
namespace Go.Proofs.YtpidjanngbaiiaaGreatDoor
open Go.RowKit Go.Proofs
set_option maxRecDepth 100000
set_option maxHeartbeats 32000000

def behind (p : Option Str) (s : Str) : Bool:=match p with | none => true | some q => !Op.bytesLess s q && !(s == q)
def oq : Option Str → List Str → Bool
 | _,[] => true
 | p,s :: r => ah s && behind p s && oq (some s) r
def aJ (l : List Str) : Bool:=oq none l && decide (1 ≤ l.length) && decide (l.length ≤ 6)

def prev (l : List Str) (k : Nat) : Option Str:=if k = 0 then none else l[k - 1]?
theorem rG {l : List Str} {k : Nat} {s : Str} (h : l[k]? = some s) : oq (prev l k) (l.drop k) = (ah s && behind (prev l k) s && oq (prev l (k + 1)) (l.drop (k + 1))):=by
 obtain ⟨h1,h2⟩:=List.getElem?_eq_some_iff.1 h
 rw [List.drop_eq_getElem_cons h1,h2]
 simp [oq,prev,h1,h2]

theorem less_total : ∀ (a b : Str),(!Op.bytesLess a b && !(a == b)) = Op.bytesLess b a:=by
 intro a
 induction a with
 | nil => intro b; cases b <;> simp [Op.bytesLess]
 | cons x a ih =>
  intro b
  cases b with
  | nil => simp [Op.bytesLess]
  | cons y b =>
   rcases Nat.lt_trichotomy x.toNat y.toNat with h | h | h
   ·have h1 : x < y:=h
    have h2 : ¬ y < x:=by intro h2; have : y.toNat < x.toNat:=h2; omega
    have h3 : x ≠ y:=by rintro rfl; omega
    simp [Op.bytesLess,h1,h2,h3,Ne.symm h3]
   ·obtain rfl : x = y:=UInt8.toNat.inj h
    have h2 : ¬ x < x:=by intro h2; have : x.toNat < x.toNat:=h2; omega
    have:=ih b
    simp [Op.bytesLess,h2] at this ⊢
    exact this
   ·have h1 : y < x:=h
    have h2 : ¬ x < y:=by intro h2; have : x.toNat < y.toNat:=h2; omega
    have h3 : x ≠ y:=by rintro rfl; omega
    simp [Op.bytesLess,h1,h2,h3,Ne.symm h3]
theorem xw (q s : Str) : behind (some q) s = Op.bytesLess q s:=less_total s q

theorem wrap_small {n : Nat} (h : n < 9223372036854775808) : IntKind.i64.wrap (n : Int) = (n : Int):=by
 rw [IntKind.wrap_i64]

 omega

theorem CZ (v : Value) (ls : List Str) (w : World) (hv : aF w v ls) (hs : ∀ s ∈ ls,s.length ≤ 9223372036854775807) (hl : ls.length ≤ 9223372036854775807) :
  Calls Tryz.prog 150 #[v] w fun e w' => e = .returned (.bool (aJ ls)) ∧ Below w.heap.size w w':=by
 obtain ⟨A,cap,rfl,hc,hr⟩:=hv
 obtain ⟨ANS,hA⟩ : ∃ x,aJ ls = x:=⟨_,rfl⟩
 have HA:=zH hA; rw [hA]; clear hA
 by_cases h1 : 1 ≤ ls.length ∧ ls.length ≤ 6
 ·obtain ⟨b,off,rfl,hrow⟩:=hr (by omega)
  have HR:=zH hrow; have HS:=zH hs; clear hrow hr hs
  obtain ⟨L,hL⟩ : ∃ L,ls.length = L:=⟨_,rfl⟩
  have HL:=zH hL
  rw [hL] at h1 hc ⊢; clear hL
  go_enter Tryz.func150,Tryz.ntmps150
  go_wp2_with fail
  go_loopw [15] (fun i wr => ∃ k : Nat,k ≤ L ∧ i = .int .i64 k ∧ Hid (oq none ls = oq (prev ls k) (ls.drop k)) ∧ Below w.heap.size w wr) (fun i _ => L - (intOf i).toNat)
  case atStart => exact ⟨0,by omega,rfl,by simp [prev,Hid],Below.refl _ _⟩
  case round =>
   obtain ⟨k,hk,rfl,hf,hbw⟩:=hrel
   by_cases hlt : k < L
   ·obtain ⟨s,hs⟩ : ∃ s,ls[k]? = some s:=⟨_,List.getElem?_eq_getElem (by rw [HL.out]; exact hlt)⟩
    have HK:=zH hs
    have hsl:=HS.out s (List.mem_of_getElem? hs)
    have c0 : wr.cell? ⟨b,off + k,none⟩ = some (.string ⟨s.toArray⟩):=ae (HR.out k s hs) hbw
    clear hs
    obtain ⟨B,hB⟩ : ∃ x,ah s = x:=⟨_,rfl⟩
    have HB:=zH hB; clear hB
    cases B with
    | false =>
     go_wp2_with fail
     refine (ig s _ hsl).mono ?_; rw [HB.out]; rintro e w1 ⟨rfl,hb1⟩
     go_wp2_with fail
     go_ret
     refine ⟨ax ?_,chain hbw hb1⟩
     have:=hf.out
     rw [rG HK.out,HB.out] at this
     rw [← HA.out]; simp [aJ,this]
    | true =>
     rcases Nat.eq_zero_or_pos k with h0 | h0
     ·subst h0
      simp only [Nat.add_zero] at c0
      go_wp2_with fail
      refine (ig s _ hsl).mono ?_; rw [HB.out]; rintro e w1 ⟨rfl,hb1⟩
      go_wp2_with fail
      go_round
      case rel =>
       refine ⟨1,by omega,by simp,?_,chain hbw hb1⟩
       have:=hf.out
       rw [rG HK.out,HB.out] at this
       show oq none ls = _
       rw [this]
       simp [behind,prev]
      case measure => simp [intOf]; omega
     ·obtain ⟨q,hq⟩ : ∃ s,ls[k - 1]? = some s:=⟨_,List.getElem?_eq_getElem (by rw [HL.out]; omega)⟩
      have HQ:=zH hq
      have c1 : wr.cell? ⟨b,off + (k - 1),none⟩ = some (.string ⟨q.toArray⟩):=ae (HR.out (k - 1) q hq) hbw
      have cs1 : (k : Int) - 1 = ((k - 1 : Nat) : Int):=by omega
      clear hq
      go_wp2_with fail
      refine (ig s _ hsl).mono ?_; rw [HB.out]; rintro e w1 ⟨rfl,hb1⟩
      have c2 : w1.cell? ⟨b,off + (k - 1),none⟩ = some (.string ⟨q.toArray⟩):=ae c1 hb1
      go_wp2_with fail
      ·go_ret
       refine ⟨ax ?_,chain hbw hb1⟩
       have:=hf.out
       have h2 : behind (prev ls k) s = false:=by
        have e : prev ls k = some q:=by unfold prev; rw [if_neg (by omega),HQ.out]
        rw [e]
        rcases ‹Op.bytesLess s q = true ∨ (s == q) = true› with h | h <;> simp [behind,h]
       rw [rG HK.out,HB.out,h2] at this
       rw [← HA.out]; simp [aJ,this]
      ·rename_i hcmp
       refine ⟨⟨k + 1,by omega,by simp,?_,chain hbw hb1⟩,by simp [intOf]; omega⟩
       have:=hf.out
       have h2 : behind (prev ls k) s = true:=by
        have e : prev ls k = some q:=by unfold prev; rw [if_neg (by omega),HQ.out]
        rw [e]
        simp [behind,hcmp.1,hcmp.2]
       rw [rG HK.out,HB.out,h2] at this
       show oq none ls = _
       rw [this]
       rfl
   ·have hk' : k = L:=by omega
    subst hk'
    go_wp2_with fail
    go_ret
    refine ⟨ax ?_,hbw⟩
    have:=hf.out
    rw [← HA.out]
    unfold aJ
    rw [this,← HL.out]
    simp [oq]
    rw [HL.out]
    exact h1
 ·have hL : aJ ls = false:=by
   unfold aJ
   rcases Nat.lt_or_ge ls.length 1 with h | h
   ·simp [show ¬ 1 ≤ ls.length by omega]
   ·simp [show ¬ ls.length ≤ 6 by omega]
  have HL:=zH hL; clear hL hr
  go_enter Tryz.func150,Tryz.ntmps150
  go_wp2_with fail
  all_goals
   go_ret
   exact ⟨ax (by rw [← HA.out,HL.out]),by go_grown⟩

theorem uC (v : Value) (ls : List Str) (w : World) (hv : aF w v ls) (hs : ∀ s ∈ ls,s.length ≤ 9223372036854775807) (hl : ls.length ≤ 9223372036854775807) :
  Calls Tryz.prog 76 #[v] w fun e w' => e = .returned (.bool (aJ ls)) ∧ Below w.heap.size w w':=by
 obtain ⟨A,cap,rfl,hc,hr⟩:=hv
 obtain ⟨ANS,hA⟩ : ∃ x,aJ ls = x:=⟨_,rfl⟩
 have HA:=zH hA; rw [hA]; clear hA
 have HR:=zH hr; have HS:=zH hs; clear hr hs
 obtain ⟨L,hL⟩ : ∃ L,ls.length = L:=⟨_,rfl⟩
 have HL:=zH hL
 rw [hL] at hc hl ⊢; clear hL
 go_enter Tryz.func76,Tryz.ntmps76
 go_wp2_with fail
 go_loopw [3] (fun i wr => ∃ k : Nat,k ≤ L ∧ i = .int .i64 k ∧ Hid (oq none ls = oq (prev ls k) (ls.drop k)) ∧ Below w.heap.size w wr) (fun i _ => L - (intOf i).toNat)
 case atStart => exact ⟨0,by omega,rfl,by simp [prev,Hid],Below.refl _ _⟩
 case round =>
  obtain ⟨k,hk,rfl,hf,hbw⟩:=hrel
  by_cases hlt : k < L
  ·obtain ⟨b,off,rfl,hrow⟩:=HR.out (by rw [HL.out]; omega)
   obtain ⟨s,hs⟩ : ∃ s,ls[k]? = some s:=⟨_,List.getElem?_eq_getElem (by rw [HL.out]; exact hlt)⟩
   have HK:=zH hs
   have hsl:=HS.out s (List.mem_of_getElem? hs)
   have c0 : wr.cell? ⟨b,off + k,none⟩ = some (.string ⟨s.toArray⟩):=ae (hrow k s hs) hbw
   have HW:=zH hrow
   clear hs hrow
   obtain ⟨B,hB⟩ : ∃ x,ah s = x:=⟨_,rfl⟩
   have HB:=zH hB; clear hB
   cases B with
   | false =>
    go_wp2_with fail
    refine wp_region_held_drew (S:=fun w' => w'.cell? ⟨b,off + k,none⟩ = some (.string ⟨s.toArray⟩)) (by kernel_rfl) c0 (fun hHeld => ?_)
    refine wpAnyH_take (i:=0) (v:=?_) rfl (by kernel_rfl) (by kernel_rfl) (by kernel_rfl) (fun _ _ _ h => h) (Or.inl ⟨by rfl,?_⟩) (by assumption) ?_
    rotate_left
    ·(intro wq hSw; (try dsimp only at hSw); go_simp; all_goals (with_reducible rfl))
    simp only [zA,zB,zC,Act.put,zD,zE,zF]
    refine wpAnyH_take (i:=1) (v:=?_) rfl (by kernel_rfl) (by kernel_rfl) (by kernel_rfl) (fun _ _ _ h => h) (Or.inl ⟨by rfl,?_⟩) (by assumption) ?_
    rotate_left
    ·(intro wq hSw; (try dsimp only at hSw); go_simp; all_goals (with_reducible rfl))
    simp only [zA,zB,zC,Act.put,zD,zE,zF]
    refine wpAnyH_take (i:=2) (v:=?_) rfl (by kernel_rfl) (by kernel_rfl) (by kernel_rfl) (fun _ _ _ h => h) (Or.inl ⟨by rfl,?_⟩) (by assumption) ?_
    rotate_left
    ·(intro wq hSw; (try dsimp only at hSw); go_simp; all_goals (with_reducible rfl))
    simp only [zA,zB,zC,Act.put,zD,zE,zF]
    refine wpAnyH_take (i:=3) (v:=?_) rfl (by kernel_rfl) (by kernel_rfl) (by kernel_rfl) (fun _ _ _ h => h) (Or.inl ⟨by rfl,?_⟩) (by assumption) ?_
    rotate_left
    ·(intro wq hSw; (try dsimp only at hSw); go_simp; all_goals (with_reducible rfl))
    simp only [zA,zB,zC,Act.put,zD,zE,zF]
    refine wpAnyH_ready (rs:=[4]) (by kernel_rfl) (by simp) ?_
    refine AllReadyH.cons rfl (fun K hK => ?_) AllReadyH.nil
    go_simp
    refine (lI s _ hsl).mono ?_; rw [HB.out]; rintro e w1 ⟨rfl,hb1⟩
    have d0:=ae (w:=wr.drew) c0 hb1
    refine hK.out _ _ d0 (fun hHeld2 => ?_)
    clear hK K hHeld
    try simp only [zA,zB,zC,Act.put,zD,zE,zF]
    refine wpAnyH_take (i:=5) (v:=?_) rfl (by kernel_rfl) (by kernel_rfl) (by kernel_rfl) (fun _ _ _ h => h) (Or.inl ⟨by rfl,?_⟩) (by assumption) ?_
    rotate_left
    ·(intro wq hSw; (try dsimp only at hSw); go_simp; all_goals (with_reducible rfl))
    simp only [zA,zB,zC,Act.put,zD,zE,zF]
    refine wpAnyH_take (i:=6) (v:=?_) rfl (by kernel_rfl) (by kernel_rfl) (by kernel_rfl) (fun _ _ _ h => h) (Or.inl ⟨by rfl,?_⟩) (by assumption) ?_
    rotate_left
    ·(intro wq hSw; (try dsimp only at hSw); go_simp; all_goals (with_reducible rfl))
    simp only [zA,zB,zC,Act.put,zD,zE,zF]
    refine wpAnyH_take (i:=7) (v:=undef) rfl (by kernel_rfl) (by kernel_rfl) (by kernel_rfl) (fun _ _ _ h => h) (Or.inr ⟨by rfl,rfl⟩) (by assumption) ?_
    simp only [zA,zB,zC,Act.put,zD,zE,zF]
    refine wpAnyH_take (i:=8) (v:=undef) rfl (by kernel_rfl) (by kernel_rfl) (by kernel_rfl) (fun _ _ _ h => h) (Or.inr ⟨by rfl,rfl⟩) (by assumption) ?_
    simp only [zA,zB,zC,Act.put,zD,zE,zF]
    refine wpAnyH_take (i:=9) (v:=undef) rfl (by kernel_rfl) (by kernel_rfl) (by kernel_rfl) (fun _ _ _ h => h) (Or.inr ⟨by rfl,rfl⟩) (by assumption) ?_
    simp only [zA,zB,zC,Act.put,zD,zE,zF]
    refine wpAnyH_take (i:=10) (v:=undef) rfl (by kernel_rfl) (by kernel_rfl) (by kernel_rfl) (fun _ _ _ h => h) (Or.inr ⟨by rfl,rfl⟩) (by assumption) ?_
    simp only [zA,zB,zC,Act.put,zD,zE,zF]
    refine wpAnyH_take (i:=11) (v:=undef) rfl (by kernel_rfl) (by kernel_rfl) (by kernel_rfl) (fun _ _ _ h => h) (Or.inr ⟨by rfl,rfl⟩) (by assumption) ?_
    simp only [zA,zB,zC,Act.put,zD,zE,zF]
    refine wpAnyH_take (i:=12) (v:=undef) rfl (by kernel_rfl) (by kernel_rfl) (by kernel_rfl) (fun _ _ _ h => h) (Or.inr ⟨by rfl,rfl⟩) (by assumption) ?_
    simp only [zA,zB,zC,Act.put,zD,zE,zF]
    refine wpAnyH_take (i:=13) (v:=undef) rfl (by kernel_rfl) (by kernel_rfl) (by kernel_rfl) (fun _ _ _ h => h) (Or.inr ⟨by rfl,rfl⟩) (by assumption) ?_
    simp only [zA,zB,zC,Act.put,zD,zE,zF]
    refine wpAnyH_take (i:=14) (v:=undef) rfl (by kernel_rfl) (by kernel_rfl) (by kernel_rfl) (fun _ _ _ h => h) (Or.inr ⟨by rfl,rfl⟩) (by assumption) ?_
    simp only [zA,zB,zC,Act.put,zD,zE,zF]
    refine wpAnyH_take (i:=15) (v:=undef) rfl (by kernel_rfl) (by kernel_rfl) (by kernel_rfl) (fun _ _ _ h => h) (Or.inr ⟨by rfl,rfl⟩) (by assumption) ?_
    simp only [zA,zB,zC,Act.put,zD,zE,zF]
    refine wpAnyH_take (i:=16) (v:=undef) rfl (by kernel_rfl) (by kernel_rfl) (by kernel_rfl) (fun _ _ _ h => h) (Or.inr ⟨by rfl,rfl⟩) (by assumption) ?_
    simp only [zA,zB,zC,Act.put,zD,zE,zF]
    refine wpAnyH_take (i:=17) (v:=undef) rfl (by kernel_rfl) (by kernel_rfl) (by kernel_rfl) (fun _ _ _ h => h) (Or.inr ⟨by rfl,rfl⟩) (by assumption) ?_
    simp only [zA,zB,zC,Act.put,zD,zE,zF]
    refine wpAnyH_take (i:=18) (v:=undef) rfl (by kernel_rfl) (by kernel_rfl) (by kernel_rfl) (fun _ _ _ h => h) (Or.inr ⟨by rfl,rfl⟩) (by assumption) ?_
    simp only [zA,zB,zC,Act.put,zD,zE,zF]
    refine wpAnyH_take (i:=19) (v:=undef) rfl (by kernel_rfl) (by kernel_rfl) (by kernel_rfl) (fun _ _ _ h => h) (Or.inr ⟨by rfl,rfl⟩) (by assumption) ?_
    simp only [zA,zB,zC,Act.put,zD,zE,zF]
    refine wpAnyH_take (i:=20) (v:=undef) rfl (by kernel_rfl) (by kernel_rfl) (by kernel_rfl) (fun _ _ _ h => h) (Or.inr ⟨by rfl,rfl⟩) (by assumption) ?_
    simp only [zA,zB,zC,Act.put,zD,zE,zF]
    refine wpAnyH_take (i:=21) (v:=?_) rfl (by kernel_rfl) (by kernel_rfl) (by kernel_rfl) (fun _ _ _ h => h) (Or.inl ⟨by rfl,?_⟩) (by assumption) ?_
    rotate_left
    ·(intro wq hSw; (try dsimp only at hSw); go_simp; all_goals (with_reducible rfl))
    simp only [zA,zB,zC,Act.put,zD,zE,zF]
    refine wpAnyH_done (by kernel_rfl) ?_ _
    go_wp2_with fail
    go_ret
    refine ⟨ax ?_,chain (chain hbw (Below.refl _ _).drew) hb1⟩
    have:=hf.out
    rw [rG HK.out,HB.out] at this
    rw [← HA.out]; simp [aJ,this]
   | true =>
    rcases Nat.eq_zero_or_pos k with h0 | h0
    ·subst h0
     simp only [Nat.add_zero] at c0
     have hz : decide ((0 : Int) < 0) = false:=by decide
     go_wp2_with fail
     refine wp_region_held_drew (S:=fun w' => w'.cell? ⟨b,off,none⟩ = some (.string ⟨s.toArray⟩)) (by kernel_rfl) c0 (fun hHeld => ?_)
     refine wpAnyH_take (i:=0) (v:=?_) rfl (by kernel_rfl) (by kernel_rfl) (by kernel_rfl) (fun _ _ _ h => h) (Or.inl ⟨by rfl,?_⟩) (by assumption) ?_
     rotate_left
     ·(intro wq hSw; (try dsimp only at hSw); go_simp; all_goals (with_reducible rfl))
     simp only [zA,zB,zC,Act.put,zD,zE,zF]
     refine wpAnyH_take (i:=1) (v:=?_) rfl (by kernel_rfl) (by kernel_rfl) (by kernel_rfl) (fun _ _ _ h => h) (Or.inl ⟨by rfl,?_⟩) (by assumption) ?_
     rotate_left
     ·(intro wq hSw; (try dsimp only at hSw); go_simp; all_goals (with_reducible rfl))
     simp only [zA,zB,zC,Act.put,zD,zE,zF]
     refine wpAnyH_take (i:=2) (v:=?_) rfl (by kernel_rfl) (by kernel_rfl) (by kernel_rfl) (fun _ _ _ h => h) (Or.inl ⟨by rfl,?_⟩) (by assumption) ?_
     rotate_left
     ·(intro wq hSw; (try dsimp only at hSw); go_simp; all_goals (with_reducible rfl))
     simp only [zA,zB,zC,Act.put,zD,zE,zF]
     refine wpAnyH_take (i:=3) (v:=?_) rfl (by kernel_rfl) (by kernel_rfl) (by kernel_rfl) (fun _ _ _ h => h) (Or.inl ⟨by rfl,?_⟩) (by assumption) ?_
     rotate_left
     ·(intro wq hSw; (try dsimp only at hSw); go_simp; all_goals (with_reducible rfl))
     simp only [zA,zB,zC,Act.put,zD,zE,zF]
     refine wpAnyH_ready (rs:=[4]) (by kernel_rfl) (by simp) ?_
     refine AllReadyH.cons rfl (fun K hK => ?_) AllReadyH.nil
     go_simp
     refine (lI s _ hsl).mono ?_; rw [HB.out]; rintro e w1 ⟨rfl,hb1⟩
     have d0:=ae (w:=wr.drew) c0 hb1
     refine hK.out _ _ d0 (fun hHeld2 => ?_)
     clear hK K hHeld
     try simp only [zA,zB,zC,Act.put,zD,zE,zF]
     refine wpAnyH_take (i:=5) (v:=?_) rfl (by kernel_rfl) (by kernel_rfl) (by kernel_rfl) (fun _ _ _ h => h) (Or.inl ⟨by rfl,?_⟩) (by assumption) ?_
     rotate_left
     ·(intro wq hSw; (try dsimp only at hSw); go_simp; all_goals (with_reducible rfl))
     simp only [zA,zB,zC,Act.put,zD,zE,zF]
     refine wpAnyH_take (i:=6) (v:=?_) rfl (by kernel_rfl) (by kernel_rfl) (by kernel_rfl) (fun _ _ _ h => h) (Or.inl ⟨by rfl,?_⟩) (by assumption) ?_
     rotate_left
     ·(intro wq hSw; (try dsimp only at hSw); go_simp; all_goals (with_reducible rfl))
     simp only [zA,zB,zC,Act.put,zD,zE,zF]
     refine wpAnyH_take (i:=7) (v:=?_) rfl (by kernel_rfl) (by kernel_rfl) (by kernel_rfl) (fun _ _ _ h => h) (Or.inl ⟨by rfl,?_⟩) (by assumption) ?_
     rotate_left
     ·(intro wq hSw; (try dsimp only at hSw); go_simp; all_goals (with_reducible rfl))
     simp only [zA,zB,zC,Act.put,zD,zE,zF]
     refine wpAnyH_take (i:=8) (v:=?_) rfl (by kernel_rfl) (by kernel_rfl) (by kernel_rfl) (fun _ _ _ h => h) (Or.inl ⟨by rfl,?_⟩) (by assumption) ?_
     rotate_left
     ·(intro wq hSw; (try dsimp only at hSw); go_simp; all_goals (with_reducible rfl))
     simp only [zA,zB,zC,Act.put,zD,zE,zF]
     refine wpAnyH_take (i:=9) (v:=?_) rfl (by kernel_rfl) (by kernel_rfl) (by kernel_rfl) (fun _ _ _ h => h) (Or.inl ⟨by rfl,?_⟩) (by assumption) ?_
     rotate_left
     ·(intro wq hSw; (try dsimp only at hSw); go_simp; all_goals (with_reducible rfl))
     simp only [zA,zB,zC,Act.put,zD,zE,zF]
     refine wpAnyH_take (i:=10) (v:=undef) rfl (by kernel_rfl) (by kernel_rfl) (by kernel_rfl) (fun _ _ _ h => h) (Or.inr ⟨by rfl,rfl⟩) (by assumption) ?_
     simp only [zA,zB,zC,Act.put,zD,zE,zF]
     refine wpAnyH_take (i:=11) (v:=undef) rfl (by kernel_rfl) (by kernel_rfl) (by kernel_rfl) (fun _ _ _ h => h) (Or.inr ⟨by rfl,rfl⟩) (by assumption) ?_
     simp only [zA,zB,zC,Act.put,zD,zE,zF]
     refine wpAnyH_take (i:=12) (v:=undef) rfl (by kernel_rfl) (by kernel_rfl) (by kernel_rfl) (fun _ _ _ h => h) (Or.inr ⟨by rfl,rfl⟩) (by assumption) ?_
     simp only [zA,zB,zC,Act.put,zD,zE,zF]
     refine wpAnyH_take (i:=13) (v:=undef) rfl (by kernel_rfl) (by kernel_rfl) (by kernel_rfl) (fun _ _ _ h => h) (Or.inr ⟨by rfl,rfl⟩) (by assumption) ?_
     simp only [zA,zB,zC,Act.put,zD,zE,zF]
     refine wpAnyH_take (i:=14) (v:=undef) rfl (by kernel_rfl) (by kernel_rfl) (by kernel_rfl) (fun _ _ _ h => h) (Or.inr ⟨by rfl,rfl⟩) (by assumption) ?_
     simp only [zA,zB,zC,Act.put,zD,zE,zF]
     refine wpAnyH_take (i:=15) (v:=undef) rfl (by kernel_rfl) (by kernel_rfl) (by kernel_rfl) (fun _ _ _ h => h) (Or.inr ⟨by rfl,rfl⟩) (by assumption) ?_
     simp only [zA,zB,zC,Act.put,zD,zE,zF]
     refine wpAnyH_take (i:=16) (v:=undef) rfl (by kernel_rfl) (by kernel_rfl) (by kernel_rfl) (fun _ _ _ h => h) (Or.inr ⟨by rfl,rfl⟩) (by assumption) ?_
     simp only [zA,zB,zC,Act.put,zD,zE,zF]
     refine wpAnyH_take (i:=17) (v:=undef) rfl (by kernel_rfl) (by kernel_rfl) (by kernel_rfl) (fun _ _ _ h => h) (Or.inr ⟨by rfl,rfl⟩) (by assumption) ?_
     simp only [zA,zB,zC,Act.put,zD,zE,zF]
     refine wpAnyH_take (i:=18) (v:=undef) rfl (by kernel_rfl) (by kernel_rfl) (by kernel_rfl) (fun _ _ _ h => h) (Or.inr ⟨by rfl,rfl⟩) (by assumption) ?_
     simp only [zA,zB,zC,Act.put,zD,zE,zF]
     refine wpAnyH_take (i:=19) (v:=undef) rfl (by kernel_rfl) (by kernel_rfl) (by kernel_rfl) (fun _ _ _ h => h) (Or.inr ⟨by rfl,rfl⟩) (by assumption) ?_
     simp only [zA,zB,zC,Act.put,zD,zE,zF]
     refine wpAnyH_take (i:=20) (v:=?_) rfl (by kernel_rfl) (by kernel_rfl) (by kernel_rfl) (fun _ _ _ h => h) (Or.inl ⟨by rfl,?_⟩) (by assumption) ?_
     rotate_left
     ·(intro wq hSw; (try dsimp only at hSw); go_simp; all_goals (with_reducible rfl))
     simp only [zA,zB,zC,Act.put,zD,zE,zF]
     refine wpAnyH_take (i:=21) (v:=?_) rfl (by kernel_rfl) (by kernel_rfl) (by kernel_rfl) (fun _ _ _ h => h) (Or.inl ⟨by rfl,?_⟩) (by assumption) ?_
     rotate_left
     ·(intro wq hSw; (try dsimp only at hSw); go_simp; all_goals (with_reducible rfl))
     simp only [zA,zB,zC,Act.put,zD,zE,zF]
     refine wpAnyH_done (by kernel_rfl) ?_ _
     go_wp2_with fail
     go_round
     case rel =>
      refine ⟨1,by omega,by simp,?_,chain (chain hbw (Below.refl _ _).drew) hb1⟩
      have:=hf.out
      rw [rG HK.out,HB.out] at this
      show oq none ls = _
      rw [this]
      simp [behind,prev]
     case measure => simp [intOf]; omega
    ·obtain ⟨q,hq⟩ : ∃ s,ls[k - 1]? = some s:=⟨_,List.getElem?_eq_getElem (by rw [HL.out]; omega)⟩
     have HQ:=zH hq
     have c1 : wr.cell? ⟨b,off + (k - 1),none⟩ = some (.string ⟨q.toArray⟩):=ae (HW.out (k - 1) q hq) hbw
     have cs0 : (k : Int) - 1 = ((k - 1 : Nat) : Int):=by omega
     have cs1 : IntKind.i64.wrap ((k - 1 : Nat) : Int) = ((k - 1 : Nat) : Int):=wrap_small (by omega)
     have cs2 : (0 : Int) ≤ ((k - 1 : Nat) : Int):=by omega
     have cs3 : ((k - 1 : Nat) : Int) < (L : Int):=by omega
     have hz : decide ((0 : Int) < (k : Int)) = true:=by simp; omega
     clear hq
     have he : prev ls k = some q:=by unfold prev; rw [if_neg (by omega),HQ.out]
     have HE:=zH he; clear he
     go_wp2_with fail
     refine wp_region_held_drew (S:=fun w' => w'.cell? ⟨b,off + k,none⟩ = some (.string ⟨s.toArray⟩) ∧ w'.cell? ⟨b,off + (k - 1),none⟩ = some (.string ⟨q.toArray⟩)) (by kernel_rfl) ⟨c0,c1⟩ (fun hHeld => ?_)
     refine wpAnyH_take (i:=0) (v:=?_) rfl (by kernel_rfl) (by kernel_rfl) (by kernel_rfl) (fun _ _ _ h => h) (Or.inl ⟨by rfl,?_⟩) (by assumption) ?_
     rotate_left
     ·(intro wq hSw; (try dsimp only at hSw); go_simp; all_goals (with_reducible rfl))
     simp only [zA,zB,zC,Act.put,zD,zE,zF]
     refine wpAnyH_take (i:=1) (v:=?_) rfl (by kernel_rfl) (by kernel_rfl) (by kernel_rfl) (fun _ _ _ h => h) (Or.inl ⟨by rfl,?_⟩) (by assumption) ?_
     rotate_left
     ·(intro wq hSw; (try dsimp only at hSw); go_simp; all_goals (with_reducible rfl))
     simp only [zA,zB,zC,Act.put,zD,zE,zF]
     refine wpAnyH_take (i:=2) (v:=?_) rfl (by kernel_rfl) (by kernel_rfl) (by kernel_rfl) (fun _ _ _ h => h) (Or.inl ⟨by rfl,?_⟩) (by assumption) ?_
     rotate_left
     ·(intro wq hSw; (try dsimp only at hSw); go_simp; all_goals (with_reducible rfl))
     simp only [zA,zB,zC,Act.put,zD,zE,zF]
     refine wpAnyH_take (i:=3) (v:=?_) rfl (by kernel_rfl) (by kernel_rfl) (by kernel_rfl) (fun _ _ _ h => h) (Or.inl ⟨by rfl,?_⟩) (by assumption) ?_
     rotate_left
     ·(intro wq hSw; (try dsimp only at hSw); go_simp; all_goals (with_reducible rfl))
     simp only [zA,zB,zC,Act.put,zD,zE,zF]
     refine wpAnyH_ready (rs:=[4]) (by kernel_rfl) (by simp) ?_
     refine AllReadyH.cons rfl (fun K hK => ?_) AllReadyH.nil
     go_simp
     refine (lI s _ hsl).mono ?_; rw [HB.out]; rintro e w1 ⟨rfl,hb1⟩
     have d0:=ae (w:=wr.drew) c0 hb1
     have d1:=ae (w:=wr.drew) c1 hb1
     refine hK.out _ _ ⟨d0,d1⟩ (fun hHeld2 => ?_)
     clear hK K hHeld
     try simp only [zA,zB,zC,Act.put,zD,zE,zF]
     refine wpAnyH_take (i:=5) (v:=?_) rfl (by kernel_rfl) (by kernel_rfl) (by kernel_rfl) (fun _ _ _ h => h) (Or.inl ⟨by rfl,?_⟩) (by assumption) ?_
     rotate_left
     ·(intro wq hSw; (try dsimp only at hSw); go_simp; all_goals (with_reducible rfl))
     simp only [zA,zB,zC,Act.put,zD,zE,zF]
     refine wpAnyH_take (i:=6) (v:=?_) rfl (by kernel_rfl) (by kernel_rfl) (by kernel_rfl) (fun _ _ _ h => h) (Or.inl ⟨by rfl,?_⟩) (by assumption) ?_
     rotate_left
     ·(intro wq hSw; (try dsimp only at hSw); go_simp; all_goals (with_reducible rfl))
     simp only [zA,zB,zC,Act.put,zD,zE,zF]
     refine wpAnyH_take (i:=7) (v:=?_) rfl (by kernel_rfl) (by kernel_rfl) (by kernel_rfl) (fun _ _ _ h => h) (Or.inl ⟨by rfl,?_⟩) (by assumption) ?_
     rotate_left
     ·(intro wq hSw; (try dsimp only at hSw); go_simp; all_goals (with_reducible rfl))
     simp only [zA,zB,zC,Act.put,zD,zE,zF]
     refine wpAnyH_take (i:=8) (v:=?_) rfl (by kernel_rfl) (by kernel_rfl) (by kernel_rfl) (fun _ _ _ h => h) (Or.inl ⟨by rfl,?_⟩) (by assumption) ?_
     rotate_left
     ·(intro wq hSw; (try dsimp only at hSw); go_simp; all_goals (with_reducible rfl))
     simp only [zA,zB,zC,Act.put,zD,zE,zF]
     refine wpAnyH_take (i:=9) (v:=?_) rfl (by kernel_rfl) (by kernel_rfl) (by kernel_rfl) (fun _ _ _ h => h) (Or.inl ⟨by rfl,?_⟩) (by assumption) ?_
     rotate_left
     ·(intro wq hSw; (try dsimp only at hSw); go_simp; all_goals (with_reducible rfl))
     simp only [zA,zB,zC,Act.put,zD,zE,zF]
     refine wpAnyH_take (i:=10) (v:=?_) rfl (by kernel_rfl) (by kernel_rfl) (by kernel_rfl) (fun _ _ _ h => h) (Or.inl ⟨by rfl,?_⟩) (by assumption) ?_
     rotate_left
     ·(intro wq hSw; (try dsimp only at hSw); go_simp; all_goals (with_reducible rfl))
     simp only [zA,zB,zC,Act.put,zD,zE,zF]
     refine wpAnyH_take (i:=11) (v:=?_) rfl (by kernel_rfl) (by kernel_rfl) (by kernel_rfl) (fun _ _ _ h => h) (Or.inl ⟨by rfl,?_⟩) (by assumption) ?_
     rotate_left
     ·(intro wq hSw; (try dsimp only at hSw); go_simp; all_goals (with_reducible rfl))
     simp only [zA,zB,zC,Act.put,zD,zE,zF]
     refine wpAnyH_take (i:=12) (v:=?_) rfl (by kernel_rfl) (by kernel_rfl) (by kernel_rfl) (fun _ _ _ h => h) (Or.inl ⟨by rfl,?_⟩) (by assumption) ?_
     rotate_left
     ·(intro wq hSw; (try dsimp only at hSw); go_simp; all_goals (with_reducible rfl))
     simp only [zA,zB,zC,Act.put,zD,zE,zF]
     refine wpAnyH_take (i:=13) (v:=?_) rfl (by kernel_rfl) (by kernel_rfl) (by kernel_rfl) (fun _ _ _ h => h) (Or.inl ⟨by rfl,?_⟩) (by assumption) ?_
     rotate_left
     ·(intro wq hSw; (try dsimp only at hSw); go_simp; all_goals (with_reducible rfl))
     simp only [zA,zB,zC,Act.put,zD,zE,zF]
     refine wpAnyH_take (i:=14) (v:=?_) rfl (by kernel_rfl) (by kernel_rfl) (by kernel_rfl) (fun _ _ _ h => h) (Or.inl ⟨by rfl,?_⟩) (by assumption) ?_
     rotate_left
     ·(intro wq hSw; (try dsimp only at hSw); go_simp; all_goals (with_reducible rfl))
     simp only [zA,zB,zC,Act.put,zD,zE,zF]
     refine wpAnyH_take (i:=15) (v:=?_) rfl (by kernel_rfl) (by kernel_rfl) (by kernel_rfl) (fun _ _ _ h => h) (Or.inl ⟨by rfl,?_⟩) (by assumption) ?_
     rotate_left
     ·(intro wq hSw; (try dsimp only at hSw); go_simp; all_goals (with_reducible rfl))
     simp only [zA,zB,zC,Act.put,zD,zE,zF]
     refine wpAnyH_take (i:=16) (v:=?_) rfl (by kernel_rfl) (by kernel_rfl) (by kernel_rfl) (fun _ _ _ h => h) (Or.inl ⟨by rfl,?_⟩) (by assumption) ?_
     rotate_left
     ·(intro wq hSw; (try dsimp only at hSw); go_simp; all_goals (with_reducible rfl))
     simp only [zA,zB,zC,Act.put,zD,zE,zF]
     refine wpAnyH_take (i:=17) (v:=?_) rfl (by kernel_rfl) (by kernel_rfl) (by kernel_rfl) (fun _ _ _ h => h) (Or.inl ⟨by rfl,?_⟩) (by assumption) ?_
     rotate_left
     ·(intro wq hSw; (try dsimp only at hSw); go_simp; all_goals (with_reducible rfl))
     simp only [zA,zB,zC,Act.put,zD,zE,zF]
     refine wpAnyH_take (i:=18) (v:=?_) rfl (by kernel_rfl) (by kernel_rfl) (by kernel_rfl) (fun _ _ _ h => h) (Or.inl ⟨by rfl,?_⟩) (by assumption) ?_
     rotate_left
     ·(intro wq hSw; (try dsimp only at hSw); go_simp; all_goals (with_reducible rfl))
     simp only [zA,zB,zC,Act.put,zD,zE,zF]
     refine wpAnyH_take (i:=19) (v:=?_) rfl (by kernel_rfl) (by kernel_rfl) (by kernel_rfl) (fun _ _ _ h => h) (Or.inl ⟨by rfl,?_⟩) (by assumption) ?_
     rotate_left
     ·(intro wq hSw; (try dsimp only at hSw); go_simp; all_goals (with_reducible rfl))
     simp only [zA,zB,zC,Act.put,zD,zE,zF]
     refine wpAnyH_take (i:=20) (v:=?_) rfl (by kernel_rfl) (by kernel_rfl) (by kernel_rfl) (fun _ _ _ h => h) (Or.inl ⟨by rfl,?_⟩) (by assumption) ?_
     rotate_left
     ·(intro wq hSw; (try dsimp only at hSw); go_simp; all_goals (with_reducible rfl))
     simp only [zA,zB,zC,Act.put,zD,zE,zF]
     refine wpAnyH_take (i:=21) (v:=?_) rfl (by kernel_rfl) (by kernel_rfl) (by kernel_rfl) (fun _ _ _ h => h) (Or.inl ⟨by rfl,?_⟩) (by assumption) ?_
     rotate_left
     ·(intro wq hSw; (try dsimp only at hSw); go_simp; all_goals (with_reducible rfl))
     simp only [zA,zB,zC,Act.put,zD,zE,zF]
     refine wpAnyH_done (by kernel_rfl) ?_ _
     go_wp2_with fail
     ·go_ret
      refine ⟨ax ?_,chain (chain hbw (Below.refl _ _).drew) hb1⟩
      have:=hf.out
      have h2 : behind (prev ls k) s = false:=by
       rw [HE.out,xw]
       simpa using ‹(!Op.bytesLess q s) = true›
      rw [rG HK.out,HB.out,h2] at this
      rw [← HA.out]; simp [aJ,this]
     ·refine ⟨⟨k + 1,by omega,by simp,?_,chain (chain hbw (Below.refl _ _).drew) hb1⟩,by simp [intOf]; omega⟩
      have:=hf.out
      have h2 : behind (prev ls k) s = true:=by
       rw [HE.out,xw]
       simpa using ‹(!Op.bytesLess q s) = false›
      rw [rG HK.out,HB.out,h2] at this
      show oq none ls = _
      rw [this]
      rfl
  ·have hk' : k = L:=by omega
   subst hk'
   have HF:=hf; clear hf hlt
   go_wp2_with fail
   all_goals
    go_ret
    refine ⟨ax ?_,hbw⟩
    have:=HF.out
    rw [← HL.out,List.drop_length] at this
    rw [← HA.out]
    unfold aJ
    rw [this,HL.out]
    simp only [oq,Bool.true_and]
    first
     | (rw [Bool.eq_iff_iff]; simp; omega)
     | (symm; simp; omega)
end Go.Proofs.YtpidjanngbaiiaaGreatDoor
namespace Go.Proofs.YtpidjanngbaiiaaGreatDoor
open Go.ChangeShapes Go.WideShapes Go.ChangeAt Go.RowKit Go.Joins Go.Lib
set_option maxRecDepth 100000
set_option maxHeartbeats 32000000

section
variable {H : Type} {enc : TypeId × Value → H} {P : Program}
theorem trodAll_below (hl : laidOutB P = true) {W W' : World} (hb : Below W.heap.size W W') : ∀ {ts : List TypeId} {vs : List Value} {ds : List (DataW H)} {ps : List MemPlace},(∀ t ∈ ts,P.readableRec t = true ∧ t < P.types.size) →
  DataW.TrodAll enc P W 0 (fun _ => true) true ts vs ds ps → (∀ x ∈ ps,x.block < W.heap.size) → DataW.TrodAll enc P W' 0 (fun b => decide (b < W.heap.size)) true ts vs ds ps:=by
 intro ts
 induction ts with
 | nil =>
  intro vs ds ps _ h _
  match vs,ds,h with
  | [],[],h => exact h
 | cons t ts ih =>
  intro vs ds ps hr h hlt
  cases vs with
  | nil => cases h
  | cons v vs =>
   cases ds with
   | nil => cases h
   | cons d ds =>
    obtain ⟨p,q,h1,h2,hp⟩:=h
    subst hp
    exact ⟨p,q,Below.trod hl (hr t (by simp)).1 (hr t (by simp)).2 h1 hb (fun x hx => hlt x (by simp [hx])),ih (fun t ht => hr t (by simp [ht])) h2 (fun x hx => hlt x (by simp [hx])),rfl⟩

theorem law_post {f : FuncId} {fn : Func} {s : ChangeSpec} {W : World} {args : Array Value} {ds gs : List (DataW H)} {before : List MemPlace} {tb : TypeId} (hl : laidOutB P = true) (hr : (fn.params.toList.all fun t => P.readableRec t && decide (t < P.types.size)) = true)
  (hvars : s.vars = []) (hres : fn.resultTypes = #[tb]) (htb : P.underlying tb = some .bool)
  (hW : DataW.Whole enc P fn.params.toList s.vars false W args.toList ds gs before) (hspec : s.fn H ds = { results:=[.lit (.bool true)],args:=ds })
  (walk : Calls P f args W fun e w' => e = .returned (.bool true) ∧ Below W.heap.size W w') :
  Calls P f args W fun e W' => ∃ v,e = .returned v ∧ s.post enc P fn false true false false W args v W':=by
 refine walk.mono fun e W' ⟨he,hb⟩ => ?_
 subst he
 have hlt : ∀ p ∈ before,p.block < W.heap.size:=fun p hp => hW.lt p hp
 have hW':=hW
 obtain ⟨p,q,hA,hV,rfl,hz,hn⟩:=hW'
 rw [hvars] at hV
 have hgs : gs = [] ∧ q = []:=by
  cases gs with
  | nil => exact ⟨rfl,hV⟩
  | cons a b => cases hV
 obtain ⟨rfl,rfl⟩:=hgs
 have hr' : ∀ t ∈ fn.params.toList,P.readableRec t = true ∧ t < P.types.size:=by
  intro t ht
  have:=List.all_eq_true.1 hr t ht
  simpa using this
 refine ⟨.bool true,rfl,ds,[],p ++ [],[],p,[],hW,?_,?_,?_,hb.frame _,fun h => by cases h⟩
 ·rw [List.append_nil,hspec,hres]
  exact trodAll_mk1 (shut_bool htb _)
 ·rw [List.append_nil,hspec]
  exact trodAll_below hl hb hr' hA (fun x hx => hlt x (by simp [hx]))
 ·rw [hvars,List.append_nil,hspec]
  rfl
end

theorem own : ownKnob Tryz.prog.godebug = none:=by kernel_rfl
theorem laidOut : laidOutB Tryz.prog = true:=by kernel_rfl

theorem u8types : U8Types Tryz.prog Tryz.lays196_ren:=U8Types.of196 Tryz.lays196
theorem u8extra : U8Extra Tryz.prog Tryz.lays196_ren:=⟨by kernel_rfl,by kernel_rfl,by kernel_rfl,by kernel_rfl,by kernel_rfl,by kernel_rfl,by kernel_rfl⟩
theorem tabs_of {laid : List (String × DataW Unit)} {W : World} (h : laidMet Tryz.prog laid W) (h1 : ("unicode/utf8.first", Go.Pinned.utf8First) ∈ laid) (h2 : ("unicode/utf8.acceptRanges", acceptData) ∈ laid) : Tabs W :=
 utf8Tabs_of_readsT u8types u8extra (by rw [← Go.Pinned.utf8First_eq]; exact laidMet.reads h h1) (laidMet.reads h h2)
end Go.Proofs.YtpidjanngbaiiaaGreatDoor
namespace Go.Proofs.YtpidjanngbaiiaaGreatDoor
open Go.ChangeShapes Go.WideShapes Go.ChangeAt Go.RowKit Go.Joins Go.Lib Go.Deep
set_option maxRecDepth 100000
set_option maxHeartbeats 32000000

theorem qH : Tryz.prog.cellsOf 9 = 1:=by kernel_rfl
theorem Ci : Tryz.prog.cellsOf 3 = 1:=by kernel_rfl
theorem yg : Tryz.prog.cellsOf 27 = 1:=by kernel_rfl
section
variable {H : Type} {enc : TypeId × Value → H} {P : Program} {w : World} {base : Nat} {spare : Nat → Bool} {held : Bool}
theorem trod_fields {t : TypeId} {fs : Array Field} {fuel : Nat} {cs : List Value} {x : DataW H × List MemPlace} (ht : P.underlying t = some (.struct fs)) (hone : oneCellFields P fs = true) (hC : P.cellsOf t = fs.size) (h : DataW.trod enc P w base spare held fuel t cs = some x) :
  ∃ n,fuel = n + 1 ∧ cs.length = fs.size ∧ ∀ (i : Nat) (f : Field),fs[i]? = some f → ∃ c y,cs[i]? = some c ∧ DataW.trod enc P w base spare held n f.type [c] = some y:=by
 obtain ⟨xs,n,rfl,-,hl,hlen,hf⟩:=DataW.trod_struct ht h
 refine ⟨n,rfl,by rw [hl,hC],fun i f hi => ?_⟩
 obtain ⟨k1,k2⟩:=hone_of hone i f hi
 have hi' : i < fs.size:=(Array.getElem?_eq_some_iff.1 hi).1
 have:=hf i f hi
 rw [k1,k2,take1_drop cs i (.bool false) (by omega),List.getElem?_eq_getElem (by omega)] at this
 exact ⟨_,_,by rw [List.getElem?_eq_getElem (by omega)],by rw [← this,List.getD,List.getElem?_eq_getElem (by omega)]; rfl⟩
end
section
variable {H : Type} {enc : TypeId × Value → H} {W : World}
theorem open_texts {fuel : Nat} {cs : List Value} {x : DataW H × List MemPlace} (h : DataW.trod enc Tryz.prog W 0 (fun _ => true) true fuel 27 cs = some x) :
  ∃ (v : Value) (l : List Str),cs = [v] ∧ aF W v l ∧ l.length ≤ maxLen ∧ ∀ s ∈ l,s.length ≤ maxLen:=by
 rcases open_strs Tryz.underlying27 Tryz.underlying9 qH h with ⟨rfl,-⟩ | ⟨a,len,cap,m,Sx,rfl,-,hl,hm,hmm,-,hx⟩
 ·exact ⟨_,[],rfl,⟨none,0,rfl,Nat.le_refl _,fun h => by simp at h⟩,by simp,by simp⟩
 ·have hmc : m = cap:=by simpa using hmm
  refine ⟨_,(List.range len).map fun i => (Sx i).data.toList,rfl,⟨some a,cap,by simp,by simpa using hl,fun h0 => ?_⟩,by simp; omega,?_⟩
  ·simp only [List.length_map,List.length_range] at h0
   obtain ⟨b,off,spot⟩:=a
   have hspot : spot = none:=by simpa [Addr.add] using World.cell?_spot (hx 0 (by omega)).1
   subst hspot
   refine ⟨b,off,rfl,fun i s hi => ?_⟩
   simp only [List.getElem?_map,Option.map_eq_some_iff] at hi
   obtain ⟨j,hj,rfl⟩:=hi
   obtain ⟨hj1,hj2⟩:=List.getElem?_eq_some_iff.1 hj
   simp only [List.length_range,List.getElem_range] at hj1 hj2
   subst hj2
   have:=(hx i (by omega)).1
   rw [Go.WideShapes.add_plain] at this
   rw [this,mk_data]
  ·intro s hs
   obtain ⟨i,hi,rfl⟩:=List.mem_map.1 hs
   have hi':=List.mem_range.1 hi
   have:=(hx i (by omega)).2
   rw [size_eq] at this
   exact this
end
end Go.Proofs.YtpidjanngbaiiaaGreatDoor
namespace Go.Proofs.YtpidjanngbaiiaaGreatDoor
open Go.ChangeShapes Go.WideShapes Go.ChangeAt Go.RowKit Go.Joins Go.Lib Go.Deep
set_option maxRecDepth 100000
set_option maxHeartbeats 32000000

inductive Fit : Ty → Prop where
 | mk (k s : Int) (n : Str) (ls : List Str) (ks : List Ty) (hk : (Lit.int .i64 k).wf = true) (hs : (Lit.int .i64 s).wf = true) (hn : n.length ≤ maxLen) (hl : ls.length ≤ maxLen) (hls : ∀ l ∈ ls,l.length ≤ maxLen) (hc : ks.length ≤ maxLen) (hks : ∀ t ∈ ks,Fit t) : Fit (.mk k s n ls ks)

theorem Fit.parts {t : Ty} (h : Fit t) : t.name.length ≤ maxLen ∧ t.labels.length ≤ maxLen ∧ (∀ l ∈ t.labels,l.length ≤ maxLen) ∧ t.kids.length ≤ maxLen ∧ ∀ k ∈ t.kids,Fit k:=by
 cases h with
 | mk k s n ls ks hk hs hn hl hls hc hks => exact ⟨hn,hl,hls,hc,hks⟩

theorem zq : Tryz.prog.cellsOf 30 = 5:=by kernel_rfl
theorem cellsTys : Tryz.prog.cellsOf 28 = 1:=by kernel_rfl

section
variable {H : Type} {enc : TypeId × Value → H} {P : Program} {w : World} {base : Nat} {spare : Nat → Bool} {held : Bool}
end

section
variable {H : Type} {enc : TypeId × Value → H} {W : World}

theorem wX : ∀ (fuel : Nat) (cs : List Value) (x : DataW H × List MemPlace),DataW.trod enc Tryz.prog W 0 (fun _ => true) true fuel 30 cs = some x →
  ∃ (t : Ty) (lv kv : Value),cs = [.int .i64 t.kind,.int .i64 t.sort,.string ⟨t.name.toArray⟩,lv,kv] ∧ aF W lv t.labels ∧ qg W kv t.kids ∧ Fit t:=by
 intro fuel
 induction fuel using Nat.strongRecOn with
 | _ fuel ih =>
 intro cs x h
 obtain ⟨n,rfl,hl,hf⟩:=trod_fields Tryz.underlying30 (by kernel_rfl) zq h
 obtain ⟨c0,c1,c2,c3,c4,rfl⟩ : ∃ c0 c1 c2 c3 c4,cs = [c0,c1,c2,c3,c4]:=by
  match cs,hl with
  | [c0,c1,c2,c3,c4],_ => exact ⟨c0,c1,c2,c3,c4,rfl⟩
 obtain ⟨_,x0,e,h0⟩:=hf 0 _ rfl
 obtain rfl:=Option.some.inj e
 obtain ⟨_,x1,e,h1⟩:=hf 1 _ rfl
 obtain rfl:=Option.some.inj e
 obtain ⟨_,x2,e,h2⟩:=hf 2 _ rfl
 obtain rfl:=Option.some.inj e
 obtain ⟨_,x3,e,h3⟩:=hf 3 _ rfl
 obtain rfl:=Option.some.inj e
 obtain ⟨_,x4,e,h4⟩:=hf 4 _ rfl
 obtain rfl:=Option.some.inj e
 obtain ⟨k,e0,-,hk⟩:=DataW.trod_int Tryz.underlying3 h0
 obtain ⟨s,e1,-,hs⟩:=DataW.trod_int Tryz.underlying3 h1
 obtain ⟨nm,e2,-,hn⟩:=DataW.trod_string Tryz.underlying9 h2
 obtain ⟨lv,ls,e3,h3,hl3,hl3'⟩:=open_texts h3
 simp only [List.cons.injEq,and_true] at e0 e1 e2 e3
 subst e0 e1 e2 e3
 have hks : ∃ ks : List Ty,qg W c4 ks ∧ ks.length ≤ maxLen ∧ ∀ t ∈ ks,Fit t:=by
  rcases DataW.trod_slice Tryz.underlying28 h4 with ⟨e,-⟩ | ⟨a,len,cap,elems,rest,m,rfl,e,-,-,hl,hm,hlen,hel,-,-⟩
  ·simp only [List.cons.injEq,and_true] at e
   subst e
   exact ⟨[],⟨none,0,rfl,Nat.le_refl _,fun h => by simp at h⟩,by simp,by simp⟩
  ·simp only [List.cons.injEq,and_true] at e
   subst e
   rw [zq] at hel
   have each : ∀ i,i < len → ∃ (t : Ty),(∃ lv kv,(∀ j,j < 5 → W.cell? ((a.add (i * 5)).add j) = ([.int .i64 t.kind,.int .i64 t.sort,.string ⟨t.name.toArray⟩,lv,kv] : List Value)[j]?) ∧ aF W lv t.labels ∧ qg W kv t.kids) ∧ Fit t:=by
    intro i hi
    have he:=hel i hi
    rw [List.getElem?_eq_getElem (by omega)] at he
    obtain ⟨cs',hc1,hc2⟩:=Option.bind_eq_some_iff.1 he
    obtain ⟨t,lv,kv,rfl,h5,h6,h7⟩:=ih m (by omega) cs' _ hc2
    exact ⟨t,⟨lv,kv,(World.cells?_some hc1).2.2,h5,h6⟩,h7⟩
   haveI : Inhabited Ty:=⟨.mk 0 0 [] [] []⟩
   obtain ⟨T,hT⟩:=choose_lt each
   refine ⟨(List.range len).map T,⟨some a,cap,by simp,by rw [List.length_map,List.length_range]; omega,fun h0 => ?_⟩,by simp; omega,?_⟩
   ·simp only [List.length_map,List.length_range] at h0
    obtain ⟨b,off,spot⟩:=a
    have hspot : spot = none:=by
     obtain ⟨⟨_,_,hc,_⟩,_⟩:=hT 0 h0
     have:=hc 0 (by omega)
     simp only [Nat.zero_mul] at this
     simpa [Addr.add] using World.cell?_spot this
    subst hspot
    refine ⟨b,off,rfl,Ff fun i t hi => ?_⟩
    simp only [List.getElem?_map,Option.map_eq_some_iff] at hi
    obtain ⟨j,hj,rfl⟩:=hi
    obtain ⟨hj1,hj2⟩:=List.getElem?_eq_some_iff.1 hj
    simp only [List.length_range,List.getElem_range] at hj1 hj2
    subst hj2
    obtain ⟨⟨lv,kv,hc,h5,h6⟩,_⟩:=hT i hj1
    refine (xq _ _ _ _).2 ⟨lv,kv,?_,?_,?_,?_,?_,h5,h6⟩
    all_goals first
     | (have:=hc 0 (by omega); rw [Go.WideShapes.add_plain,Go.WideShapes.add_plain] at this; exact this)
     | (have:=hc 1 (by omega); rw [Go.WideShapes.add_plain,Go.WideShapes.add_plain] at this; exact this)
     | (have:=hc 2 (by omega); rw [Go.WideShapes.add_plain,Go.WideShapes.add_plain] at this; exact this)
     | (have:=hc 3 (by omega); rw [Go.WideShapes.add_plain,Go.WideShapes.add_plain] at this; exact this)
     | (have:=hc 4 (by omega); rw [Go.WideShapes.add_plain,Go.WideShapes.add_plain] at this; exact this)
   ·intro t ht
    obtain ⟨i,hi,rfl⟩:=List.mem_map.1 ht
    exact (hT i (List.mem_range.1 hi)).2
 obtain ⟨ks,OC,QE,OD⟩:=hks
 refine ⟨.mk k s nm.data.toList ls ks,c3,c4,?_,h3,OC,?_⟩
 ·simp only [Ty.kind,Ty.sort,Ty.name,mk_data]
 ·exact .mk _ _ _ _ _ hk hs (by rw [← size_eq]; exact hn) hl3 hl3' QE OD

end
end Go.Proofs.YtpidjanngbaiiaaGreatDoor
namespace Go.Proofs.YtpidjanngbaiiaaGreatDoor
open Go.RowKit Go.Proofs
set_option maxRecDepth 100000
set_option maxHeartbeats 32000000

def aA (k s : Int) (n : Str) (nl : Nat) (lok : Bool) (kids : Nat) : Bool :=
 if k = 1 then decide (s = 0) && n.isEmpty && decide (nl = 0) && decide (kids = 0)
 else if k = 2 ∨ k = 3 then decide (1 ≤ s) && decide (s ≤ 3) && n.isEmpty && decide (nl = 0) && decide (kids = 1)
 else if k = 4 ∨ k = 5 then decide (s = 0) && n.isEmpty && decide (nl = 0) && decide (kids = 2)
 else if k = 6 ∨ k = 7 then decide (s = 0) && n.isEmpty && lok && decide (kids = nl)
 else if k = 8 then decide (s = 0) && isVar n && decide (nl = 0) && decide (kids = 1)
 else if k = 9 then decide (s = 0) && isVar n && decide (nl = 0) && decide (kids = 0)
 else false
def ay (k s : Int) (n : Str) (ls : List Str) (kids : Nat) : Bool:=aA k s n ls.length (aJ ls) kids
theorem lG {a b : Nat} (ha : a ≤ 9223372036854775807) (hb : b ≤ 9223372036854775807) : (wrap64 ((a : Int) + b) == 0) = (decide (a = 0) && decide (b = 0)):=by
 rw [Bool.eq_iff_iff]
 simp only [beq_iff_eq,Bool.and_eq_true,decide_eq_true_eq,wrap64]
 omega

theorem shaped_1 (s : Int) (n : Str) (ls : List Str) (kids : Nat) (lv : Value) (A' : Option Addr) (cap' : Nat) (w : World) (hn : n.length ≤ 9223372036854775807) (hl : ls.length ≤ 9223372036854775807) (hs : ∀ s ∈ ls,s.length ≤ 9223372036854775807) (hk : kids ≤ 9223372036854775807) (hv : aF w lv ls) :
  Calls Tryz.prog 114 #[.agg #[.int .i64 1,.int .i64 s,.string ⟨n.toArray⟩,lv,.slice A' kids cap']] w fun e w' => e = .returned (.bool (ay 1 s n ls kids)) ∧ Below w.heap.size w w':=by
 have HV:=zH hv
 obtain ⟨A,cap,rfl,-,-⟩:=hv
 obtain ⟨ANS,hA⟩ : ∃ x,ay 1 s n ls kids = x:=⟨_,rfl⟩
 rw [hA]
 have HS:=zH hs; clear hs
 obtain ⟨L,hL⟩ : ∃ L,ls.length = L:=⟨_,rfl⟩
 have HL:=zH hL
 obtain ⟨B,hB⟩ : ∃ x,aJ ls = x:=⟨_,rfl⟩
 have HB:=zH hB
 unfold ay at hA
 rw [hL,hB] at hA
 have HA:=zH hA
 rw [hL] at hl HV ⊢; clear hL hA hB
 go_enter Tryz.func114,Tryz.ntmps114
 go_wp2_with fail
 all_goals
  go_ret
  refine ⟨ax ?_,by go_grown⟩
  rw [← HA.out]
  first | (simp [aA, *]; done) | (simp [aA, *]; omega) | (rw [Bool.eq_iff_iff]; simp [aA, *]; done) | (rw [Bool.eq_iff_iff]; simp [aA, *]; omega) | (rw [lG hl hk]; simp [aA, *]; done)
theorem shaped_2 (s : Int) (n : Str) (ls : List Str) (kids : Nat) (lv : Value) (A' : Option Addr) (cap' : Nat) (w : World) (hn : n.length ≤ 9223372036854775807) (hl : ls.length ≤ 9223372036854775807) (hs : ∀ s ∈ ls,s.length ≤ 9223372036854775807) (hk : kids ≤ 9223372036854775807) (hv : aF w lv ls) :
  Calls Tryz.prog 114 #[.agg #[.int .i64 2,.int .i64 s,.string ⟨n.toArray⟩,lv,.slice A' kids cap']] w fun e w' => e = .returned (.bool (ay 2 s n ls kids)) ∧ Below w.heap.size w w':=by
 have HV:=zH hv
 obtain ⟨A,cap,rfl,-,-⟩:=hv
 obtain ⟨ANS,hA⟩ : ∃ x,ay 2 s n ls kids = x:=⟨_,rfl⟩
 rw [hA]
 have HS:=zH hs; clear hs
 obtain ⟨L,hL⟩ : ∃ L,ls.length = L:=⟨_,rfl⟩
 have HL:=zH hL
 obtain ⟨B,hB⟩ : ∃ x,aJ ls = x:=⟨_,rfl⟩
 have HB:=zH hB
 unfold ay at hA
 rw [hL,hB] at hA
 have HA:=zH hA
 rw [hL] at hl HV ⊢; clear hL hA hB
 go_enter Tryz.func114,Tryz.ntmps114
 go_wp2_with fail
 all_goals
  go_ret
  refine ⟨ax ?_,by go_grown⟩
  rw [← HA.out]
  first | (simp [aA, *]; done) | (simp [aA, *]; omega) | (rw [Bool.eq_iff_iff]; simp [aA, *]; done) | (rw [Bool.eq_iff_iff]; simp [aA, *]; omega) | (rw [lG hl hk]; simp [aA, *]; done)
theorem shaped_3 (s : Int) (n : Str) (ls : List Str) (kids : Nat) (lv : Value) (A' : Option Addr) (cap' : Nat) (w : World) (hn : n.length ≤ 9223372036854775807) (hl : ls.length ≤ 9223372036854775807) (hs : ∀ s ∈ ls,s.length ≤ 9223372036854775807) (hk : kids ≤ 9223372036854775807) (hv : aF w lv ls) :
  Calls Tryz.prog 114 #[.agg #[.int .i64 3,.int .i64 s,.string ⟨n.toArray⟩,lv,.slice A' kids cap']] w fun e w' => e = .returned (.bool (ay 3 s n ls kids)) ∧ Below w.heap.size w w':=by
 have HV:=zH hv
 obtain ⟨A,cap,rfl,-,-⟩:=hv
 obtain ⟨ANS,hA⟩ : ∃ x,ay 3 s n ls kids = x:=⟨_,rfl⟩
 rw [hA]
 have HS:=zH hs; clear hs
 obtain ⟨L,hL⟩ : ∃ L,ls.length = L:=⟨_,rfl⟩
 have HL:=zH hL
 obtain ⟨B,hB⟩ : ∃ x,aJ ls = x:=⟨_,rfl⟩
 have HB:=zH hB
 unfold ay at hA
 rw [hL,hB] at hA
 have HA:=zH hA
 rw [hL] at hl HV ⊢; clear hL hA hB
 go_enter Tryz.func114,Tryz.ntmps114
 go_wp2_with fail
 all_goals
  go_ret
  refine ⟨ax ?_,by go_grown⟩
  rw [← HA.out]
  first | (simp [aA, *]; done) | (simp [aA, *]; omega) | (rw [Bool.eq_iff_iff]; simp [aA, *]; done) | (rw [Bool.eq_iff_iff]; simp [aA, *]; omega) | (rw [lG hl hk]; simp [aA, *]; done)
theorem shaped_4 (s : Int) (n : Str) (ls : List Str) (kids : Nat) (lv : Value) (A' : Option Addr) (cap' : Nat) (w : World) (hn : n.length ≤ 9223372036854775807) (hl : ls.length ≤ 9223372036854775807) (hs : ∀ s ∈ ls,s.length ≤ 9223372036854775807) (hk : kids ≤ 9223372036854775807) (hv : aF w lv ls) :
  Calls Tryz.prog 114 #[.agg #[.int .i64 4,.int .i64 s,.string ⟨n.toArray⟩,lv,.slice A' kids cap']] w fun e w' => e = .returned (.bool (ay 4 s n ls kids)) ∧ Below w.heap.size w w':=by
 have HV:=zH hv
 obtain ⟨A,cap,rfl,-,-⟩:=hv
 obtain ⟨ANS,hA⟩ : ∃ x,ay 4 s n ls kids = x:=⟨_,rfl⟩
 rw [hA]
 have HS:=zH hs; clear hs
 obtain ⟨L,hL⟩ : ∃ L,ls.length = L:=⟨_,rfl⟩
 have HL:=zH hL
 obtain ⟨B,hB⟩ : ∃ x,aJ ls = x:=⟨_,rfl⟩
 have HB:=zH hB
 unfold ay at hA
 rw [hL,hB] at hA
 have HA:=zH hA
 rw [hL] at hl HV ⊢; clear hL hA hB
 go_enter Tryz.func114,Tryz.ntmps114
 go_wp2_with fail
 all_goals
  go_ret
  refine ⟨ax ?_,by go_grown⟩
  rw [← HA.out]
  first | (simp [aA, *]; done) | (simp [aA, *]; omega) | (rw [Bool.eq_iff_iff]; simp [aA, *]; done) | (rw [Bool.eq_iff_iff]; simp [aA, *]; omega) | (rw [lG hl hk]; simp [aA, *]; done)
theorem shaped_5 (s : Int) (n : Str) (ls : List Str) (kids : Nat) (lv : Value) (A' : Option Addr) (cap' : Nat) (w : World) (hn : n.length ≤ 9223372036854775807) (hl : ls.length ≤ 9223372036854775807) (hs : ∀ s ∈ ls,s.length ≤ 9223372036854775807) (hk : kids ≤ 9223372036854775807) (hv : aF w lv ls) :
  Calls Tryz.prog 114 #[.agg #[.int .i64 5,.int .i64 s,.string ⟨n.toArray⟩,lv,.slice A' kids cap']] w fun e w' => e = .returned (.bool (ay 5 s n ls kids)) ∧ Below w.heap.size w w':=by
 have HV:=zH hv
 obtain ⟨A,cap,rfl,-,-⟩:=hv
 obtain ⟨ANS,hA⟩ : ∃ x,ay 5 s n ls kids = x:=⟨_,rfl⟩
 rw [hA]
 have HS:=zH hs; clear hs
 obtain ⟨L,hL⟩ : ∃ L,ls.length = L:=⟨_,rfl⟩
 have HL:=zH hL
 obtain ⟨B,hB⟩ : ∃ x,aJ ls = x:=⟨_,rfl⟩
 have HB:=zH hB
 unfold ay at hA
 rw [hL,hB] at hA
 have HA:=zH hA
 rw [hL] at hl HV ⊢; clear hL hA hB
 go_enter Tryz.func114,Tryz.ntmps114
 go_wp2_with fail
 all_goals
  go_ret
  refine ⟨ax ?_,by go_grown⟩
  rw [← HA.out]
  first | (simp [aA, *]; done) | (simp [aA, *]; omega) | (rw [Bool.eq_iff_iff]; simp [aA, *]; done) | (rw [Bool.eq_iff_iff]; simp [aA, *]; omega) | (rw [lG hl hk]; simp [aA, *]; done)
theorem shaped_6 (s : Int) (n : Str) (ls : List Str) (kids : Nat) (lv : Value) (A' : Option Addr) (cap' : Nat) (w : World) (hn : n.length ≤ 9223372036854775807) (hl : ls.length ≤ 9223372036854775807) (hs : ∀ s ∈ ls,s.length ≤ 9223372036854775807) (hk : kids ≤ 9223372036854775807) (hv : aF w lv ls) :
  Calls Tryz.prog 114 #[.agg #[.int .i64 6,.int .i64 s,.string ⟨n.toArray⟩,lv,.slice A' kids cap']] w fun e w' => e = .returned (.bool (ay 6 s n ls kids)) ∧ Below w.heap.size w w':=by
 have HV:=zH hv
 obtain ⟨A,cap,rfl,-,-⟩:=hv
 obtain ⟨ANS,hA⟩ : ∃ x,ay 6 s n ls kids = x:=⟨_,rfl⟩
 rw [hA]
 have HS:=zH hs; clear hs
 obtain ⟨L,hL⟩ : ∃ L,ls.length = L:=⟨_,rfl⟩
 have HL:=zH hL
 obtain ⟨B,hB⟩ : ∃ x,aJ ls = x:=⟨_,rfl⟩
 have HB:=zH hB
 unfold ay at hA
 rw [hL,hB] at hA
 have HA:=zH hA
 rw [hL] at hl HV ⊢; clear hL hA hB
 cases B
 all_goals
  go_enter Tryz.func114,Tryz.ntmps114
  go_wp2_with (go_at_call 150; go_must (refine (CZ _ ls _ (HV.out.keep (by go_grown)) HS.out (by rw [HL.out]; exact hl)).mono ?_; rw [HB.out]; rintro e w1 ⟨rfl,hb1⟩; obtain ⟨hc1,hf1,hz1⟩:=AV hb1))
  all_goals
   go_ret
   refine ⟨ax ?_,by first | (exact chain (by go_grown) hb1) | go_grown⟩
   rw [← HA.out]
   first | (simp [aA, *]; done) | (simp [aA, *]; omega) | (rw [Bool.eq_iff_iff]; simp [aA, *]; done) | (rw [Bool.eq_iff_iff]; simp [aA, *]; omega) | (rw [lG hl hk]; simp [aA, *]; done)
theorem shaped_7 (s : Int) (n : Str) (ls : List Str) (kids : Nat) (lv : Value) (A' : Option Addr) (cap' : Nat) (w : World) (hn : n.length ≤ 9223372036854775807) (hl : ls.length ≤ 9223372036854775807) (hs : ∀ s ∈ ls,s.length ≤ 9223372036854775807) (hk : kids ≤ 9223372036854775807) (hv : aF w lv ls) :
  Calls Tryz.prog 114 #[.agg #[.int .i64 7,.int .i64 s,.string ⟨n.toArray⟩,lv,.slice A' kids cap']] w fun e w' => e = .returned (.bool (ay 7 s n ls kids)) ∧ Below w.heap.size w w':=by
 have HV:=zH hv
 obtain ⟨A,cap,rfl,-,-⟩:=hv
 obtain ⟨ANS,hA⟩ : ∃ x,ay 7 s n ls kids = x:=⟨_,rfl⟩
 rw [hA]
 have HS:=zH hs; clear hs
 obtain ⟨L,hL⟩ : ∃ L,ls.length = L:=⟨_,rfl⟩
 have HL:=zH hL
 obtain ⟨B,hB⟩ : ∃ x,aJ ls = x:=⟨_,rfl⟩
 have HB:=zH hB
 unfold ay at hA
 rw [hL,hB] at hA
 have HA:=zH hA
 rw [hL] at hl HV ⊢; clear hL hA hB
 cases B
 all_goals
  go_enter Tryz.func114,Tryz.ntmps114
  go_wp2_with (go_at_call 150; go_must (refine (CZ _ ls _ (HV.out.keep (by go_grown)) HS.out (by rw [HL.out]; exact hl)).mono ?_; rw [HB.out]; rintro e w1 ⟨rfl,hb1⟩; obtain ⟨hc1,hf1,hz1⟩:=AV hb1))
  all_goals
   go_ret
   refine ⟨ax ?_,by first | (exact chain (by go_grown) hb1) | go_grown⟩
   rw [← HA.out]
   first | (simp [aA, *]; done) | (simp [aA, *]; omega) | (rw [Bool.eq_iff_iff]; simp [aA, *]; done) | (rw [Bool.eq_iff_iff]; simp [aA, *]; omega) | (rw [lG hl hk]; simp [aA, *]; done)
theorem shaped_8 (s : Int) (n : Str) (ls : List Str) (kids : Nat) (lv : Value) (A' : Option Addr) (cap' : Nat) (w : World) (hn : n.length ≤ 9223372036854775807) (hl : ls.length ≤ 9223372036854775807) (hs : ∀ s ∈ ls,s.length ≤ 9223372036854775807) (hk : kids ≤ 9223372036854775807) (hv : aF w lv ls) :
  Calls Tryz.prog 114 #[.agg #[.int .i64 8,.int .i64 s,.string ⟨n.toArray⟩,lv,.slice A' kids cap']] w fun e w' => e = .returned (.bool (ay 8 s n ls kids)) ∧ Below w.heap.size w w':=by
 have HV:=zH hv
 obtain ⟨A,cap,rfl,-,-⟩:=hv
 obtain ⟨ANS,hA⟩ : ∃ x,ay 8 s n ls kids = x:=⟨_,rfl⟩
 rw [hA]
 have HS:=zH hs; clear hs
 obtain ⟨L,hL⟩ : ∃ L,ls.length = L:=⟨_,rfl⟩
 have HL:=zH hL
 obtain ⟨B,hB⟩ : ∃ x,aJ ls = x:=⟨_,rfl⟩
 have HB:=zH hB
 unfold ay at hA
 rw [hL,hB] at hA
 have HA:=zH hA
 rw [hL] at hl HV ⊢; clear hL hA hB
 obtain ⟨C,hC⟩ : ∃ x,isVar n = x:=⟨_,rfl⟩
 have HC:=zH hC; clear hC
 cases C
 all_goals
  go_enter Tryz.func114,Tryz.ntmps114
  go_wp2_with (go_at_call 149; go_must (refine (D9 n _ hn).mono ?_; rw [HC.out]; rintro e w1 ⟨rfl,hb1⟩; obtain ⟨hc1,hf1,hz1⟩:=AV hb1))
  all_goals
   go_ret
   refine ⟨ax ?_,by first | (exact chain (by go_grown) hb1) | go_grown⟩
   rw [← HA.out]
   have hC:=HC.out
   first | (simp [aA, *]; done) | (simp [aA, *]; omega) | (rw [Bool.eq_iff_iff]; simp [aA, *]; done) | (rw [Bool.eq_iff_iff]; simp [aA, *]; omega) | (rw [lG hl hk]; simp [aA, *]; done)
theorem shaped_9 (s : Int) (n : Str) (ls : List Str) (kids : Nat) (lv : Value) (A' : Option Addr) (cap' : Nat) (w : World) (hn : n.length ≤ 9223372036854775807) (hl : ls.length ≤ 9223372036854775807) (hs : ∀ s ∈ ls,s.length ≤ 9223372036854775807) (hk : kids ≤ 9223372036854775807) (hv : aF w lv ls) :
  Calls Tryz.prog 114 #[.agg #[.int .i64 9,.int .i64 s,.string ⟨n.toArray⟩,lv,.slice A' kids cap']] w fun e w' => e = .returned (.bool (ay 9 s n ls kids)) ∧ Below w.heap.size w w':=by
 have HV:=zH hv
 obtain ⟨A,cap,rfl,-,-⟩:=hv
 obtain ⟨ANS,hA⟩ : ∃ x,ay 9 s n ls kids = x:=⟨_,rfl⟩
 rw [hA]
 have HS:=zH hs; clear hs
 obtain ⟨L,hL⟩ : ∃ L,ls.length = L:=⟨_,rfl⟩
 have HL:=zH hL
 obtain ⟨B,hB⟩ : ∃ x,aJ ls = x:=⟨_,rfl⟩
 have HB:=zH hB
 unfold ay at hA
 rw [hL,hB] at hA
 have HA:=zH hA
 rw [hL] at hl HV ⊢; clear hL hA hB
 obtain ⟨C,hC⟩ : ∃ x,isVar n = x:=⟨_,rfl⟩
 have HC:=zH hC; clear hC
 cases C
 all_goals
  go_enter Tryz.func114,Tryz.ntmps114
  go_wp2_with (go_at_call 149; go_must (refine (D9 n _ hn).mono ?_; rw [HC.out]; rintro e w1 ⟨rfl,hb1⟩; obtain ⟨hc1,hf1,hz1⟩:=AV hb1))
  all_goals
   go_ret
   refine ⟨ax ?_,by first | (exact chain (by go_grown) hb1) | go_grown⟩
   rw [← HA.out]
   have hC:=HC.out
   first | (simp [aA, *]; done) | (simp [aA, *]; omega) | (rw [Bool.eq_iff_iff]; simp [aA, *]; done) | (rw [Bool.eq_iff_iff]; simp [aA, *]; omega) | (rw [lG hl hk]; simp [aA, *]; done)
theorem shaped_o (k : Int) (h1 : k ≠ 1) (h2 : k ≠ 2) (h3 : k ≠ 3) (h4 : k ≠ 4) (h5 : k ≠ 5) (h6 : k ≠ 6) (h7 : k ≠ 7) (h8 : k ≠ 8) (h9 : k ≠ 9) (s : Int) (n : Str) (ls : List Str) (kids : Nat) (lv : Value) (A' : Option Addr) (cap' : Nat) (w : World) (hn : n.length ≤ 9223372036854775807) (hl : ls.length ≤ 9223372036854775807) (hs : ∀ s ∈ ls,s.length ≤ 9223372036854775807) (hk : kids ≤ 9223372036854775807) (hv : aF w lv ls) :
  Calls Tryz.prog 114 #[.agg #[.int .i64 k,.int .i64 s,.string ⟨n.toArray⟩,lv,.slice A' kids cap']] w fun e w' => e = .returned (.bool (ay k s n ls kids)) ∧ Below w.heap.size w w':=by
 have HV:=zH hv
 obtain ⟨A,cap,rfl,-,-⟩:=hv
 obtain ⟨ANS,hA⟩ : ∃ x,ay k s n ls kids = x:=⟨_,rfl⟩
 rw [hA]
 have HS:=zH hs; clear hs
 obtain ⟨L,hL⟩ : ∃ L,ls.length = L:=⟨_,rfl⟩
 have HL:=zH hL
 obtain ⟨B,hB⟩ : ∃ x,aJ ls = x:=⟨_,rfl⟩
 have HB:=zH hB
 unfold ay at hA
 rw [hL,hB] at hA
 have HA:=zH hA
 rw [hL] at hl HV ⊢; clear hL hA hB
 go_enter Tryz.func114,Tryz.ntmps114
 go_wp2_with fail
 all_goals
  go_ret
  refine ⟨ax ?_,by go_grown⟩
  rw [← HA.out]
  first | (simp [aA, *]; done) | (simp [aA, *]; omega) | (rw [Bool.eq_iff_iff]; simp [aA, *]; done) | (rw [Bool.eq_iff_iff]; simp [aA, *]; omega) | (rw [lG hl hk]; simp [aA, *]; done)
end Go.Proofs.YtpidjanngbaiiaaGreatDoor
