/-
  PrK PrF Held Chn TyT Bits TyK TyK2
-/
import Derived.Test.YtpidjanngbaiiaaGreatDoorM5
import Derived.Test.YtpidjanngbaiiaaGreatDoorM6
import Derived.Test.YtpidjanngbaiiaaGreatDoorM2
import Derived.Deep.RegionHeld3
import Derived.Deep.DrawnRows
import Derived.Laws.AppendOwnNone
import Derived.Test.YtpidjanngbaiiaaGreatDoorM4
namespace Go.Proofs.YtpidjanngbaiiaaGreatDoor
open Go.RowKit Go.Proofs
set_option maxRecDepth 100000
set_option maxHeartbeats 32000000

theorem vO (a b c : Bool) (w : World) :
  Calls Tryz.prog 117 #[.bool a,.bool b,.bool c] w fun e w' => e = .returned (.bool (ai a b c)) ∧ w' = w:=by
 cases a <;> cases b <;> cases c
 all_goals
  go_enter Tryz.func117,Tryz.ntmps117
  go_wp2_with fail
  go_ret
  exact ⟨rfl,rfl⟩
def rW (w : World) : Prop:=∃ b o c,w.cell? ⟨1,0,none⟩ = some (.slice (some ⟨b,o,none⟩) 14 c) ∧ 14 ≤ c ∧ vF w b o su
theorem rW.keep {w w' : World} (h : rW w) (hb : Below w.heap.size w w') : rW w':=by
 obtain ⟨b,o,c,h1,h2,h3⟩:=h
 exact ⟨b,o,c,ae h1 hb,h2,h3.keep hb⟩
def xh (w : World) : Prop:=∃ b o c,w.cell? ⟨0,0,none⟩ = some (.slice (some ⟨b,o,none⟩) 4 c) ∧ 4 ≤ c ∧ vF w b o [[],[105,110,116],[98,111,111,108],[116,101,120,116]]
theorem xh.keep {w w' : World} (h : xh w) (hb : Below w.heap.size w w') : xh w':=by
 obtain ⟨b,o,c,h1,h2,h3⟩:=h
 exact ⟨b,o,c,ae h1 hb,h2,h3.keep hb⟩
theorem rY (l : Str) (w : World) (hl : l.length ≤ 9223372036854775807) (hW : rW w) :
  Calls Tryz.prog 48 #[.string ⟨l.toArray⟩] w fun e w' => e = .returned (.bool (nz l)) ∧ Below w.heap.size w w':=by
 obtain ⟨ANS,hA⟩ : ∃ x,nz l = x:=⟨_,rfl⟩
 have HA:=zH hA; rw [hA]; clear hA
 have HW:=zH hW; clear hW
 cases hs : ah l with
 | false =>
  have HS:=zH hs; clear hs
  go_enter Tryz.func48,Tryz.ntmps48
  go_wp2_with fail
  refine (ig l _ hl).mono ?_; rw [HS.out]; rintro e w1 ⟨rfl,hb1⟩
  go_wp2_with fail
  go_ret
  exact ⟨ax (by rw [← HA.out]; simp [nz,HS.out]),by go_grown⟩
 | true =>
  have HS:=zH hs; clear hs
  go_enter Tryz.func48,Tryz.ntmps48
  go_wp2_with fail
  refine (ig l _ hl).mono ?_; rw [HS.out]; rintro e w1 ⟨rfl,hb1⟩
  obtain ⟨b,o,c,c0,hc,hr⟩:=HW.out.keep hb1
  have HR : aF w1 (.slice (some ⟨b,o,none⟩) 14 c) su:=⟨_,c,rfl,hc,fun _ => ⟨b,o,rfl,hr⟩⟩
  clear hr
  go_wp2_with fail
  refine (nY HR (by decide) l).mono ?_; rintro e w2 ⟨rfl,rfl⟩
  go_wp2_with fail
  go_ret
  exact ⟨ax (by rw [← HA.out]; simp [nz,HS.out]),hb1⟩
theorem pwords_in (w : World) : aF (w.alloc (.cells #[.string ⟨#[100,101,102]⟩,.string ⟨#[115,116,111,112]⟩,.string ⟨#[115,101,110,100]⟩,.string ⟨#[114,101,99,118]⟩,.string ⟨#[103,105,118,101]⟩,.string ⟨#[116,97,107,101]⟩,.string ⟨#[112,105,99,107]⟩,.string ⟨#[99,97,115,101]⟩,.string ⟨#[101,110,100]⟩,.string ⟨#[115,112,97,119,110]⟩,.string ⟨#[105,102]⟩,.string ⟨#[101,108,115,101]⟩,.string ⟨#[108,101,116]⟩,.string ⟨#[112,114,105,110,116]⟩] 9)) (.slice (some ⟨w.heap.size,0,none⟩) 14 14) su:=by
 refine ⟨_,14,rfl,by decide,fun _ => ⟨w.heap.size,0,rfl,fun i s hi => ?_⟩⟩
 match i,hi with
 | 0,hi | 1,hi | 2,hi | 3,hi | 4,hi | 5,hi | 6,hi | 7,hi | 8,hi | 9,hi | 10,hi | 11,hi | 12,hi | 13,hi => simp [su] at hi; subst hi; simp [go_sem]
 | i + 14,hi => simp [su] at hi
theorem qf (l : Str) (w : World) (hl : l.length ≤ 9223372036854775807) :
  Calls Tryz.prog 39 #[.string ⟨l.toArray⟩] w fun e w' => e = .returned (.bool (nz l)) ∧ Below w.heap.size w w':=by
 obtain ⟨ANS,hA⟩ : ∃ x,nz l = x:=⟨_,rfl⟩
 have HA:=zH hA; rw [hA]; clear hA
 cases hs : ah l with
 | false =>
  have HS:=zH hs; clear hs
  go_enter Tryz.func39,Tryz.ntmps39
  go_wp2_with fail
  refine (lI l _ hl).mono ?_; rw [HS.out]; rintro e w1 ⟨rfl,hb1⟩
  go_wp2_with fail
  go_ret
  exact ⟨ax (by rw [← HA.out]; simp [nz,HS.out]),by go_grown⟩
 | true =>
  have HS:=zH hs; clear hs
  go_enter Tryz.func39,Tryz.ntmps39
  go_wp2_with fail
  refine (lI l _ hl).mono ?_; rw [HS.out]; rintro e w1 ⟨rfl,hb1⟩
  go_wp2_with fail
  refine (nY (pwords_in _) (by decide) l).mono ?_; rintro e w2 ⟨rfl,rfl⟩
  go_wp2_with fail
  go_ret
  exact ⟨ax (by rw [← HA.out]; simp [nz,HS.out]),chain hb1 (by go_grown)⟩
theorem Dh (l : Str) (w : World) (hl : l.length ≤ 9223372036854775807) :
  Calls Tryz.prog 82 #[.string ⟨l.toArray⟩] w fun e w' => e = .returned (.bool (!ah l)) ∧ Below w.heap.size w w':=by
 obtain ⟨ANS,hA⟩ : ∃ x,ah l = x:=⟨_,rfl⟩
 have HA:=zH hA; rw [hA]; clear hA
 go_enter Tryz.func82,Tryz.ntmps82
 go_wp2_with fail
 refine (ig l _ hl).mono ?_; rw [HA.out]; rintro e w1 ⟨rfl,hb1⟩
 go_wp2_with fail
 go_ret
 exact ⟨rfl,by go_grown⟩
def EL (ls : List Str) : Int:=match ls.findIdx? (fun s => !ah s) with | some k => k | none => -1
theorem noAt_lt {ls : List Str} {k : Nat} {s : Str} (h : ls[k]? = some s) (hb : ah s = false) (hp : ∀ j t,j < k → ls[j]? = some t → ah t = true) : EL ls = k:=by
 have hk:=(List.getElem?_eq_some_iff.1 h).1
 have : ls.findIdx? (fun s => !ah s) = some k:=by
  rw [List.findIdx?_eq_some_iff_getElem]
  refine ⟨hk,?_,fun j hj => ?_⟩
  ·rw [(List.getElem?_eq_some_iff.1 h).2,hb]; rfl
  ·rw [hp j _ hj (List.getElem?_eq_getElem (by omega))]; simp
 unfold EL
 rw [this]
theorem Eb {ls : List Str} (hp : ∀ (j : Nat) t,ls[j]? = some t → ah t = true) : EL ls = -1:=by
 have : ls.findIdx? (fun s => !ah s) = none:=by
  rw [List.findIdx?_eq_none_iff]
  intro s hs
  obtain ⟨j,hj⟩:=List.getElem?_of_mem hs
  rw [hp j s hj]; rfl
 unfold EL
 rw [this]
theorem all_noAt (ls : List Str) : ls.all ah = decide (EL ls < 0):=by
 by_cases h : ∀ (j : Nat) t,ls[j]? = some t → ah t = true
 ·rw [Eb h]
  rw [show decide ((-1 : Int) < 0) = true by decide]
  rw [List.all_eq_true]
  intro s hs
  obtain ⟨j,hj⟩:=List.getElem?_of_mem hs
  exact h j s hj
 ·have h1 : ls.all ah = false:=by
   rw [Bool.eq_false_iff]
   intro h2
   rw [List.all_eq_true] at h2
   exact h fun j t ht => h2 t (List.mem_of_getElem? ht)
  rw [h1]
  have : 0 ≤ EL ls:=by
   unfold EL
   split
   ·omega
   ·rename_i h3
    rw [List.findIdx?_eq_none_iff] at h3
    exact absurd (fun j t ht => by have:=h3 t (List.mem_of_getElem? ht); simpa using this) h
  rw [decide_eq_false (by omega)]
theorem noIdx_any (v : Value) (ls : List Str) (w : World) (hv : aF w v ls) (hs : ∀ s ∈ ls,s.length ≤ 9223372036854775807) (hl : ls.length ≤ 9223372036854775807) :
  Calls Tryz.prog 113 #[v,.func (.func 82) #[] #[]] w fun e w' => e = .returned (.int .i64 (EL ls)) ∧ Below w.heap.size w w':=by
 obtain ⟨A,cap,rfl,hc,hr⟩:=hv
 have HR:=zH hr; have HS:=zH hs; clear hr hs
 obtain ⟨L,hL⟩ : ∃ L,ls.length = L:=⟨_,rfl⟩
 have HL:=zH hL
 rw [hL] at hc hl ⊢; clear hL
 go_enter Tryz.func113,Tryz.ntmps113
 go_wp2_with fail
 go_loopw [8] (fun i wr => ∃ k : Nat,k ≤ L ∧ i = .int .i64 k ∧ Hid (∀ j t,j < k → ls[j]? = some t → ah t = true) ∧ Below w.heap.size w wr) (fun i _ => L - (intOf i).toNat)
 case atStart => exact ⟨0,by omega,rfl,zH (fun j t h => by omega),Below.refl _ _⟩
 case round =>
  obtain ⟨k,hk,rfl,hf,hbw⟩:=hrel
  by_cases hlt : k < L
  ·obtain ⟨b,off,rfl,hrow⟩:=HR.out (by rw [HL.out]; omega)
   obtain ⟨s,hs⟩ : ∃ s,ls[k]? = some s:=⟨_,List.getElem?_eq_getElem (by rw [HL.out]; exact hlt)⟩
   have HK:=zH hs
   have hsl:=HS.out s (List.mem_of_getElem? hs)
   have c0 : wr.cell? ⟨b,off + k,none⟩ = some (.string ⟨s.toArray⟩):=ae (hrow k s hs) hbw
   clear hs hrow
   obtain ⟨B,hB⟩ : ∃ x,ah s = x:=⟨_,rfl⟩
   have HB:=zH hB; clear hB
   cases B with
   | false =>
    go_wp2_with fail
    refine (Dh s _ hsl).mono ?_; rw [HB.out]; rintro e w1 ⟨rfl,hb1⟩
    go_wp2_with fail
    go_ret
    exact ⟨by rw [noAt_lt HK.out HB.out hf.out]; rfl,chain hbw hb1⟩
   | true =>
    go_wp2_with fail
    refine (Dh s _ hsl).mono ?_; rw [HB.out]; rintro e w1 ⟨rfl,hb1⟩
    go_wp2_with fail
    go_round
    case rel =>
     refine ⟨k + 1,by omega,by simp,zH (fun j t hj ht => ?_),chain hbw hb1⟩
     rcases Nat.lt_or_ge j k with h | h
     ·exact hf.out j t h ht
     ·obtain rfl : j = k:=by omega
      rw [HK.out] at ht
      obtain rfl:=Option.some.inj ht
      exact HB.out
    case measure => simp [intOf]; omega
  ·have hk' : k = L:=by omega
   subst hk'
   go_wp2_with fail
   go_ret
   refine ⟨?_,hbw⟩
   rw [Eb fun j t ht => hf.out j t (by have:=(List.getElem?_eq_some_iff.1 ht).1; rw [HL.out] at this; exact this) ht]
   rfl
theorem noIn_any (v : Value) (ls : List Str) (w : World) (hv : aF w v ls) (hs : ∀ s ∈ ls,s.length ≤ 9223372036854775807) (hl : ls.length ≤ 9223372036854775807) :
  Calls Tryz.prog 81 #[v,.func (.func 82) #[] #[]] w fun e w' => e = .returned (.bool (!ls.all ah)) ∧ Below w.heap.size w w':=by
 have HC:=zH (noIdx_any v ls w hv hs hl)
 have HN:=zH (all_noAt ls)
 obtain ⟨N,hN⟩ : ∃ n,EL ls = n:=⟨_,rfl⟩
 rw [hN] at HC HN
 clear hN hv hs hl
 by_cases h0 : N < 0
 ·go_enter Tryz.func81,Tryz.ntmps81
  go_wp2_with fail
  refine HC.out.mono ?_; rintro e w1 ⟨rfl,hb1⟩
  go_wp2_with fail
  go_ret
  exact ⟨by rw [HN.out]; simp [h0],by go_grown⟩
 ·go_enter Tryz.func81,Tryz.ntmps81
  go_wp2_with fail
  refine HC.out.mono ?_; rintro e w1 ⟨rfl,hb1⟩
  have h1 : 0 ≤ N:=by omega
  go_wp2_with fail
  go_ret
  exact ⟨by rw [HN.out]; simp [h0],by go_grown⟩
theorem uV (v : Value) (ls : List Str) (w : World) (hv : aF w v ls) (hs : ∀ s ∈ ls,s.length ≤ 9223372036854775807) (hl : ls.length ≤ 9223372036854775807) :
  Calls Tryz.prog 49 #[v] w fun e w' => e = .returned (.bool (aZ ls)) ∧ Below w.heap.size w w':=by
 have HC:=zH (noIn_any v ls w hv hs hl)
 obtain ⟨A,cap,rfl,hc,-⟩:=hv
 obtain ⟨B,hB⟩ : ∃ n,ls.all ah = n:=⟨_,rfl⟩
 have HN : Hid (aZ ls = (decide (ls.length ≤ 6) && B)):=zH (by rw [← hB]; rfl)
 rw [hB] at HC
 clear hB hs
 obtain ⟨L,hL⟩ : ∃ L,ls.length = L:=⟨_,rfl⟩
 rw [hL] at hc hl HC HN ⊢; clear hL
 by_cases h6 : L ≤ 6
 ·go_enter Tryz.func49,Tryz.ntmps49
  go_wp2_with fail
  refine HC.out.mono ?_; rintro e w1 ⟨rfl,hb1⟩
  go_wp2_with fail
  go_ret
  exact ⟨by rw [HN.out]; simp [h6],by go_grown⟩
 ·go_enter Tryz.func49,Tryz.ntmps49
  go_wp2_with fail
  go_ret
  exact ⟨by rw [HN.out]; simp [h6],by go_grown⟩
theorem emptyType_cells (k s : Int) (n : Str) (A : Option Addr) (L c : Nat) (A' : Option Addr) (K c' : Nat) (w : World) (hL : L ≤ 1048576) (hK : K ≤ 1048576) :
  Calls Tryz.prog 119 #[.agg #[.int .i64 k,.int .i64 s,.string ⟨n.toArray⟩,.slice A L c,.slice A' K c']] w fun e w' => e = .returned (.bool (decide (k = 0) && (decide (s = 0) && (decide (n = []) && decide (L + K = 0))))) ∧ Below w.heap.size w w':=by
 by_cases h1 : k = 0
 ·subst h1
  by_cases h2 : s = 0
  ·subst h2
   by_cases h3 : n = []
   ·subst h3
    have hz : ((L : Int) + K == 0) = decide (L + K = 0):=by rw [Bool.eq_iff_iff,beq_iff_eq,decide_eq_true_eq]; omega
    have hw : IntKind.i64.wrap ((L : Int) + K) = (L : Int) + K:=by rw [show (L : Int) + K = ((L + K : Nat) : Int) by omega]; exact wrap_small (by omega)
    go_enter Tryz.func119,Tryz.ntmps119
    go_wp2_with fail
    go_ret
    exact ⟨ax (by simp),by go_grown⟩
   ·have e : n.isEmpty = false:=by simpa using h3
    go_enter Tryz.func119,Tryz.ntmps119
    go_wp2_with fail
    go_ret
    exact ⟨ax (by simp [h3]),by go_grown⟩
  ·have e : (s == 0) = false:=by simpa using h2
   go_enter Tryz.func119,Tryz.ntmps119
   go_wp2_with fail
   go_ret
   exact ⟨ax (by simp [h2]),by go_grown⟩
 ·have e : (k == 0) = false:=by simpa using h1
  go_enter Tryz.func119,Tryz.ntmps119
  go_wp2_with fail
  go_ret
  exact ⟨ax (by simp [h1]),by go_grown⟩
theorem emptyExpr_cells (k : Int) (n : Str) (s v : Int) (x : Str) (A : Option Addr) (L c : Nat) (w : World) :
  Calls Tryz.prog 118 #[.agg #[.int .i64 k,.string ⟨n.toArray⟩,.int .i64 s,.int .i64 v,.string ⟨x.toArray⟩,.slice A L c]] w fun e w' => e = .returned (.bool (decide (k = 0) && (decide (n = []) && ((decide (s = 0) && (decide (v = 0) && decide (x = []))) && decide (L = 0))))) ∧ Below w.heap.size w w':=by
 by_cases h1 : k = 0
 ·subst h1
  by_cases h2 : n = []
  ·subst h2
   obtain ⟨B,hB⟩ : ∃ B,(decide (s = 0) && (decide (v = 0) && decide (x = []))) = B:=⟨_,rfl⟩
   have hr:=fun w => oz w s v x
   rw [hB] at hr ⊢
   clear hB
   have hz : ((L : Int) == 0) = decide (L = 0):=by rw [Bool.eq_iff_iff,beq_iff_eq,decide_eq_true_eq]; omega
   cases B with
   | true =>
    go_enter Tryz.func118,Tryz.ntmps118
    go_wp2_with fail
    go_ret
    exact ⟨ax (by simp),by go_grown⟩
   | false =>
    go_enter Tryz.func118,Tryz.ntmps118
    go_wp2_with fail
    go_ret
    exact ⟨ax (by simp),by go_grown⟩
  ·have e : n.isEmpty = false:=by simpa using h2
   go_enter Tryz.func118,Tryz.ntmps118
   go_wp2_with fail
   go_ret
   exact ⟨ax (by simp [h2]),by go_grown⟩
 ·have e : (k == 0) = false:=by simpa using h1
  go_enter Tryz.func118,Tryz.ntmps118
  go_wp2_with fail
  go_ret
  exact ⟨ax (by simp [h1]),by go_grown⟩
def rf (f : uN) : Value:=.agg #[.bool f.chan,.bool f.name,.bool f.label,.bool f.expr,.bool f.exprs,.bool f.names,.bool f.type,.bool f.labels,.int .i64 f.kids]
def dQ (b : Bool) (n : Int) : Int:=if b then n else 0
def rq (f : uN) : Value:=.agg #[.int .i64 (dQ f.chan 1),.int .i64 (dQ f.name 1),.int .i64 (dQ f.label 1),.int .i64 (dQ f.labels 1),.int .i64 (dQ f.names (-1)),.int .i64 (dQ f.expr 1),.int .i64 (dQ f.exprs (-1)),.int .i64 (dQ f.type 1),.int .i64 f.kids]
def isKind (k : Int) : Bool:=decide (1 ≤ k) && decide (k ≤ 13)
theorem formed_cells (k : Int) (chan name label : Str) (xk : Int) (xn : Str) (xs xv : Int) (xt : Str) (A1 : Option Addr) (n1 c1 : Nat) (A2 : Option Addr) (n2 c2 : Nat) (A3 : Option Addr) (n3 c3 : Nat) (tk ts : Int) (tn : Str) (A4 : Option Addr) (n4 c4 : Nat) (A5 : Option Addr) (n5 c5 : Nat) (A6 : Option Addr) (n6 c6 : Nat) (A7 : Option Addr) (n7 c7 : Nat) (w : World) :
  Calls Tryz.prog 116 #[.agg #[.int .i64 k,.string ⟨chan.toArray⟩,.string ⟨name.toArray⟩,.string ⟨label.toArray⟩,.int .i64 xk,.string ⟨xn.toArray⟩,.int .i64 xs,.int .i64 xv,.string ⟨xt.toArray⟩,.slice A1 n1 c1,.slice A2 n2 c2,.slice A3 n3 c3,.int .i64 tk,.int .i64 ts,.string ⟨tn.toArray⟩,.slice A4 n4 c4,.slice A5 n5 c5,.slice A6 n6 c6,.slice A7 n7 c7]] w fun e w' => e = .returned (.tuple #[rf (jw k n6),.bool (isKind k)]) ∧ Below w.heap.size w w':=by
 by_cases h1 : k = 1
 ·subst h1
  go_enter Tryz.func116,Tryz.ntmps116
  go_wp2_with fail
  exact bodyPost_ret (v:=.tuple #[rf (jw 1 n6),.bool (isKind 1)]) (by simp [results,Tryz.results116,go_sem,rf,jw,jO,dQ,isKind]) rfl ⟨rfl,by go_grown⟩
 by_cases h2 : k = 2
 ·subst h2
  go_enter Tryz.func116,Tryz.ntmps116
  go_wp2_with fail
  exact bodyPost_ret (v:=.tuple #[rf (jw 2 n6),.bool (isKind 2)]) (by simp [results,Tryz.results116,go_sem,rf,jw,jO,dQ,isKind]) rfl ⟨rfl,by go_grown⟩
 by_cases h3 : k = 3
 ·subst h3
  go_enter Tryz.func116,Tryz.ntmps116
  go_wp2_with fail
  exact bodyPost_ret (v:=.tuple #[rf (jw 3 n6),.bool (isKind 3)]) (by simp [results,Tryz.results116,go_sem,rf,jw,jO,dQ,isKind]) rfl ⟨rfl,by go_grown⟩
 by_cases h4 : k = 4
 ·subst h4
  go_enter Tryz.func116,Tryz.ntmps116
  go_wp2_with fail
  exact bodyPost_ret (v:=.tuple #[rf (jw 4 n6),.bool (isKind 4)]) (by simp [results,Tryz.results116,go_sem,rf,jw,jO,dQ,isKind]) rfl ⟨rfl,by go_grown⟩
 by_cases h5 : k = 5
 ·subst h5
  go_enter Tryz.func116,Tryz.ntmps116
  go_wp2_with fail
  exact bodyPost_ret (v:=.tuple #[rf (jw 5 n6),.bool (isKind 5)]) (by simp [results,Tryz.results116,go_sem,rf,jw,jO,dQ,isKind]) rfl ⟨rfl,by go_grown⟩
 by_cases h6 : k = 6
 ·subst h6
  go_enter Tryz.func116,Tryz.ntmps116
  go_wp2_with fail
  exact bodyPost_ret (v:=.tuple #[rf (jw 6 n6),.bool (isKind 6)]) (by simp [results,Tryz.results116,go_sem,rf,jw,jO,dQ,isKind]) rfl ⟨rfl,by go_grown⟩
 by_cases h7 : k = 7
 ·subst h7
  go_enter Tryz.func116,Tryz.ntmps116
  go_wp2_with fail
  exact bodyPost_ret (v:=.tuple #[rf (jw 7 n6),.bool (isKind 7)]) (by simp [results,Tryz.results116,go_sem,rf,jw,jO,dQ,isKind]) rfl ⟨rfl,by go_grown⟩
 by_cases h8 : k = 8
 ·subst h8
  go_enter Tryz.func116,Tryz.ntmps116
  go_wp2_with fail
  exact bodyPost_ret (v:=.tuple #[rf (jw 8 n6),.bool (isKind 8)]) (by simp [results,Tryz.results116,go_sem,rf,jw,jO,dQ,isKind]) rfl ⟨rfl,by go_grown⟩
 by_cases h9 : k = 9
 ·subst h9
  go_enter Tryz.func116,Tryz.ntmps116
  go_wp2_with fail
  exact bodyPost_ret (v:=.tuple #[rf (jw 9 n6),.bool (isKind 9)]) (by simp [results,Tryz.results116,go_sem,rf,jw,jO,dQ,isKind]) rfl ⟨rfl,by go_grown⟩
 by_cases h10 : k = 10
 ·subst h10
  go_enter Tryz.func116,Tryz.ntmps116
  go_wp2_with fail
  exact bodyPost_ret (v:=.tuple #[rf (jw 10 n6),.bool (isKind 10)]) (by simp [results,Tryz.results116,go_sem,rf,jw,jO,dQ,isKind]) rfl ⟨rfl,by go_grown⟩
 by_cases h11 : k = 11
 ·subst h11
  go_enter Tryz.func116,Tryz.ntmps116
  go_wp2_with fail
  exact bodyPost_ret (v:=.tuple #[rf (jw 11 n6),.bool (isKind 11)]) (by simp [results,Tryz.results116,go_sem,rf,jw,jO,dQ,isKind]) rfl ⟨rfl,by go_grown⟩
 by_cases h12 : k = 12
 ·subst h12
  go_enter Tryz.func116,Tryz.ntmps116
  go_wp2_with fail
  exact bodyPost_ret (v:=.tuple #[rf (jw 12 n6),.bool (isKind 12)]) (by simp [results,Tryz.results116,go_sem,rf,jw,jO,dQ,isKind]) rfl ⟨rfl,by go_grown⟩
 by_cases h13 : k = 13
 ·subst h13
  go_enter Tryz.func116,Tryz.ntmps116
  go_wp2_with fail
  exact bodyPost_ret (v:=.tuple #[rf (jw 13 n6),.bool (isKind 13)]) (by simp [results,Tryz.results116,go_sem,rf,jw,jO,dQ,isKind]) rfl ⟨rfl,by go_grown⟩
 have hf : jw k n6 = jO:=by unfold jw; rw [if_neg h2,if_neg (by omega),if_neg h6,if_neg h7,if_neg h8,if_neg h9,if_neg h10,if_neg h11,if_neg h12,if_neg h13]
 have hk : isKind k = false:=by unfold isKind; simp only [Bool.and_eq_false_iff,decide_eq_false_iff_not]; omega
 rw [hf,hk]
 clear hf hk
 have e1 : (k == 1) = false:=by rw [beq_eq_false_iff_ne]; exact h1
 clear h1
 have e2 : (k == 2) = false:=by rw [beq_eq_false_iff_ne]; exact h2
 clear h2
 have e3 : (k == 3) = false:=by rw [beq_eq_false_iff_ne]; exact h3
 clear h3
 have e4 : (k == 4) = false:=by rw [beq_eq_false_iff_ne]; exact h4
 clear h4
 have e5 : (k == 5) = false:=by rw [beq_eq_false_iff_ne]; exact h5
 clear h5
 have e6 : (k == 6) = false:=by rw [beq_eq_false_iff_ne]; exact h6
 clear h6
 have e7 : (k == 7) = false:=by rw [beq_eq_false_iff_ne]; exact h7
 clear h7
 have e8 : (k == 8) = false:=by rw [beq_eq_false_iff_ne]; exact h8
 clear h8
 have e9 : (k == 9) = false:=by rw [beq_eq_false_iff_ne]; exact h9
 clear h9
 have e10 : (k == 10) = false:=by rw [beq_eq_false_iff_ne]; exact h10
 clear h10
 have e11 : (k == 11) = false:=by rw [beq_eq_false_iff_ne]; exact h11
 clear h11
 have e12 : (k == 12) = false:=by rw [beq_eq_false_iff_ne]; exact h12
 clear h12
 have e13 : (k == 13) = false:=by rw [beq_eq_false_iff_ne]; exact h13
 clear h13
 go_enter Tryz.func116,Tryz.ntmps116
 go_wp2_with fail
 exact bodyPost_ret (v:=.tuple #[rf jO,.bool false]) (by simp [results,Tryz.results116,go_sem,rf,jO,dQ]) rfl ⟨rfl,by go_grown⟩
theorem allows_cells (k : Int) (chan name label : Str) (xk : Int) (xn : Str) (xs xv : Int) (xt : Str) (A1 : Option Addr) (n1 c1 : Nat) (A2 : Option Addr) (n2 c2 : Nat) (A3 : Option Addr) (n3 c3 : Nat) (tk ts : Int) (tn : Str) (A4 : Option Addr) (n4 c4 : Nat) (A5 : Option Addr) (n5 c5 : Nat) (A6 : Option Addr) (n6 c6 : Nat) (A7 : Option Addr) (n7 c7 : Nat) (w : World) :
  Calls Tryz.prog 74 #[.agg #[.int .i64 k,.string ⟨chan.toArray⟩,.string ⟨name.toArray⟩,.string ⟨label.toArray⟩,.int .i64 xk,.string ⟨xn.toArray⟩,.int .i64 xs,.int .i64 xv,.string ⟨xt.toArray⟩,.slice A1 n1 c1,.slice A2 n2 c2,.slice A3 n3 c3,.int .i64 tk,.int .i64 ts,.string ⟨tn.toArray⟩,.slice A4 n4 c4,.slice A5 n5 c5,.slice A6 n6 c6,.slice A7 n7 c7]] w fun e w' => e = .returned (.tuple #[rq (jw k n6),.bool (isKind k)]) ∧ Below w.heap.size w w':=by
 by_cases h1 : k = 1
 ·subst h1
  go_enter Tryz.func74,Tryz.ntmps74
  go_wp2_with fail
  exact bodyPost_ret (v:=.tuple #[rq (jw 1 n6),.bool (isKind 1)]) (by simp [results,Tryz.results74,go_sem,rq,jw,jO,dQ,isKind]) rfl ⟨rfl,by go_grown⟩
 by_cases h2 : k = 2
 ·subst h2
  go_enter Tryz.func74,Tryz.ntmps74
  go_wp2_with fail
  exact bodyPost_ret (v:=.tuple #[rq (jw 2 n6),.bool (isKind 2)]) (by simp [results,Tryz.results74,go_sem,rq,jw,jO,dQ,isKind]) rfl ⟨rfl,by go_grown⟩
 by_cases h3 : k = 3
 ·subst h3
  go_enter Tryz.func74,Tryz.ntmps74
  go_wp2_with fail
  exact bodyPost_ret (v:=.tuple #[rq (jw 3 n6),.bool (isKind 3)]) (by simp [results,Tryz.results74,go_sem,rq,jw,jO,dQ,isKind]) rfl ⟨rfl,by go_grown⟩
 by_cases h4 : k = 4
 ·subst h4
  go_enter Tryz.func74,Tryz.ntmps74
  go_wp2_with fail
  exact bodyPost_ret (v:=.tuple #[rq (jw 4 n6),.bool (isKind 4)]) (by simp [results,Tryz.results74,go_sem,rq,jw,jO,dQ,isKind]) rfl ⟨rfl,by go_grown⟩
 by_cases h5 : k = 5
 ·subst h5
  go_enter Tryz.func74,Tryz.ntmps74
  go_wp2_with fail
  exact bodyPost_ret (v:=.tuple #[rq (jw 5 n6),.bool (isKind 5)]) (by simp [results,Tryz.results74,go_sem,rq,jw,jO,dQ,isKind]) rfl ⟨rfl,by go_grown⟩
 by_cases h6 : k = 6
 ·subst h6
  go_enter Tryz.func74,Tryz.ntmps74
  go_wp2_with fail
  exact bodyPost_ret (v:=.tuple #[rq (jw 6 n6),.bool (isKind 6)]) (by simp [results,Tryz.results74,go_sem,rq,jw,jO,dQ,isKind]) rfl ⟨rfl,by go_grown⟩
 by_cases h7 : k = 7
 ·subst h7
  go_enter Tryz.func74,Tryz.ntmps74
  go_wp2_with fail
  exact bodyPost_ret (v:=.tuple #[rq (jw 7 n6),.bool (isKind 7)]) (by simp [results,Tryz.results74,go_sem,rq,jw,jO,dQ,isKind]) rfl ⟨rfl,by go_grown⟩
 by_cases h8 : k = 8
 ·subst h8
  go_enter Tryz.func74,Tryz.ntmps74
  go_wp2_with fail
  exact bodyPost_ret (v:=.tuple #[rq (jw 8 n6),.bool (isKind 8)]) (by simp [results,Tryz.results74,go_sem,rq,jw,jO,dQ,isKind]) rfl ⟨rfl,by go_grown⟩
 by_cases h9 : k = 9
 ·subst h9
  go_enter Tryz.func74,Tryz.ntmps74
  go_wp2_with fail
  exact bodyPost_ret (v:=.tuple #[rq (jw 9 n6),.bool (isKind 9)]) (by simp [results,Tryz.results74,go_sem,rq,jw,jO,dQ,isKind]) rfl ⟨rfl,by go_grown⟩
 by_cases h10 : k = 10
 ·subst h10
  go_enter Tryz.func74,Tryz.ntmps74
  go_wp2_with fail
  exact bodyPost_ret (v:=.tuple #[rq (jw 10 n6),.bool (isKind 10)]) (by simp [results,Tryz.results74,go_sem,rq,jw,jO,dQ,isKind]) rfl ⟨rfl,by go_grown⟩
 by_cases h11 : k = 11
 ·subst h11
  go_enter Tryz.func74,Tryz.ntmps74
  go_wp2_with fail
  exact bodyPost_ret (v:=.tuple #[rq (jw 11 n6),.bool (isKind 11)]) (by simp [results,Tryz.results74,go_sem,rq,jw,jO,dQ,isKind]) rfl ⟨rfl,by go_grown⟩
 by_cases h12 : k = 12
 ·subst h12
  go_enter Tryz.func74,Tryz.ntmps74
  go_wp2_with fail
  exact bodyPost_ret (v:=.tuple #[rq (jw 12 n6),.bool (isKind 12)]) (by simp [results,Tryz.results74,go_sem,rq,jw,jO,dQ,isKind]) rfl ⟨rfl,by go_grown⟩
 by_cases h13 : k = 13
 ·subst h13
  go_enter Tryz.func74,Tryz.ntmps74
  go_wp2_with fail
  exact bodyPost_ret (v:=.tuple #[rq (jw 13 n6),.bool (isKind 13)]) (by simp [results,Tryz.results74,go_sem,rq,jw,jO,dQ,isKind]) rfl ⟨rfl,by go_grown⟩
 have hf : jw k n6 = jO:=by unfold jw; rw [if_neg h2,if_neg (by omega),if_neg h6,if_neg h7,if_neg h8,if_neg h9,if_neg h10,if_neg h11,if_neg h12,if_neg h13]
 have hk : isKind k = false:=by unfold isKind; simp only [Bool.and_eq_false_iff,decide_eq_false_iff_not]; omega
 rw [hf,hk]
 clear hf hk
 have e1 : (k == 1) = false:=by rw [beq_eq_false_iff_ne]; exact h1
 clear h1
 have e2 : (k == 2) = false:=by rw [beq_eq_false_iff_ne]; exact h2
 clear h2
 have e3 : (k == 3) = false:=by rw [beq_eq_false_iff_ne]; exact h3
 clear h3
 have e4 : (k == 4) = false:=by rw [beq_eq_false_iff_ne]; exact h4
 clear h4
 have e5 : (k == 5) = false:=by rw [beq_eq_false_iff_ne]; exact h5
 clear h5
 have e6 : (k == 6) = false:=by rw [beq_eq_false_iff_ne]; exact h6
 clear h6
 have e7 : (k == 7) = false:=by rw [beq_eq_false_iff_ne]; exact h7
 clear h7
 have e8 : (k == 8) = false:=by rw [beq_eq_false_iff_ne]; exact h8
 clear h8
 have e9 : (k == 9) = false:=by rw [beq_eq_false_iff_ne]; exact h9
 clear h9
 have e10 : (k == 10) = false:=by rw [beq_eq_false_iff_ne]; exact h10
 clear h10
 have e11 : (k == 11) = false:=by rw [beq_eq_false_iff_ne]; exact h11
 clear h11
 have e12 : (k == 12) = false:=by rw [beq_eq_false_iff_ne]; exact h12
 clear h12
 have e13 : (k == 13) = false:=by rw [beq_eq_false_iff_ne]; exact h13
 clear h13
 go_enter Tryz.func74,Tryz.ntmps74
 go_wp2_with fail
 exact bodyPost_ret (v:=.tuple #[rq jO,.bool false]) (by simp [results,Tryz.results74,go_sem,rq,jO,dQ]) rfl ⟨rfl,by go_grown⟩
end Go.Proofs.YtpidjanngbaiiaaGreatDoor
namespace Go.Proofs.YtpidjanngbaiiaaGreatDoor
open Go.RowKit Go.Proofs
set_option maxRecDepth 100000
set_option maxHeartbeats 32000000

section
variable {P : Program} {ops : Array Oper} {Q : Exit → Act → World → Prop} {md : Region.Mode} {S : World → Prop} {n : Nat}

def wZ (P : Program) (md : Region.Mode) (ops : Array Oper) (Q : Exit → Act → World → Prop) (S : World → Prop) (n : Nat) : Nat → Array Bool → Act → World → Prop
 | 0,L,a,w => Region.ready md ops L = [] ∧ Q .normal a w
 | g + 1,L,a,w => (Region.ready md ops L = [] → Q .normal a w) ∧ ∀ i ∈ Region.ready md ops L,wpOp P ops Q i (fun a' w' => (i < n → S w') ∧ wZ P md ops Q S n g (L.setIfInBounds i true) a' w') a w

theorem DK : ∀ (g : Nat) (L : Array Bool) (a : Act) (w : World),wZ P md ops Q S n g L a w → wpAny P md ops Q g L a w
 | 0,_,_,_,h => h
 | g + 1,_,_,_,h => ⟨h.1,fun i hi => wpOp_mono (fun a' w' h' => DK g _ a' w' h'.2) (h.2 i hi)⟩

def ve (md : Region.Mode) (ops : Array Oper) (n i : Nat) : Bool :=
 (List.range ops.size).all fun j => decide (j < n) || (match ops[j]? with | some o => o.after.any fun e => Region.binds md e && e.on == i | none => true)
theorem tailWaits_lt {i j : Nat} {L : Array Bool} (h : ve md ops n i = true) (hi : L.getD i true = false) (hj : j ∈ Region.ready md ops L) : j < n:=by
 obtain ⟨hu,o,ho,hall⟩:=mem_ready.1 hj
 have hjs : j < ops.size:=(Array.getElem?_eq_some_iff.1 ho).1
 have h1:=List.all_eq_true.1 h j (List.mem_range.2 hjs)
 simp only [ho,Bool.or_eq_true,decide_eq_true_eq] at h1
 rcases h1 with h1 | h1
 ·exact h1
 ·obtain ⟨k,hk,he⟩:=Array.any_eq_true.1 h1
  simp only [Bool.and_eq_true,beq_iff_eq] at he
  have h2:=hall _ (Array.getElem_mem hk) he.1
  rw [he.2] at h2
  rcases Nat.lt_or_ge i L.size with h' | h'
  ·simp only [Array.getD,h',dite_true] at hi h2
   exact absurd (hi.symm.trans h2) (by simp)
  ·simp [Array.getD,Nat.not_lt.2 h'] at hi

theorem wpT_first {i : Nat} {oi : Oper} {v : Value} (hi : ops[i]? = some oi) (hsel : ∀ (j : Nat) (o : Oper) cs b,ops[j]? = some o → o.op ≠ .select cs b) (htail : ve md ops n i = true)
  (hQ : ∀ c a w,Q (.panic c) (a.put oi.dst v) w → Q (.panic c) a w) :
  ∀ (g : Nat) (L : Array Bool) (a : Act) (w : World),
   (∀ j oj,ops[j]? = some oj → j ≠ i → L.getD j true = false → (∀ e ∈ oj.after,Region.binds md e = true → e.on ≠ i) → oi.apart ops oj = true) →
   i ∈ Region.ready md ops L → YieldsIf P ops S oi v a → S w → wZ P md ops Q S n g (L.setIfInBounds i true) (a.put oi.dst v) w → wZ P md ops Q S n (g + 1) L a w:=by
 intro g
 induction g with
 | zero =>
  intro L a w _ hr hy hS H
  refine ⟨fun h => (by rw [h] at hr; cases hr),fun j hj => ?_⟩
  by_cases hji : j = i
  ·subst hji
   exact hy.wpOp hi hS ⟨fun _ => hS,H⟩
  ·have h1:=ready_mono hj hji
   rw [H.1] at h1
   cases h1
 | succ g ih =>
  intro L a w hfree hr hy hS H
  refine ⟨fun h => (by rw [h] at hr; cases hr),fun j hj => ?_⟩
  by_cases hji : j = i
  ·subst hji
   exact hy.wpOp hi hS ⟨fun _ => hS,H⟩
  have hiL:=(mem_ready.1 hr).1
  have hjn : j < n:=tailWaits_lt htail hiL hj
  have h1:=H.2 j (ready_mono hj hji)
  obtain ⟨QC,oj,hoj,hall⟩:=mem_ready.1 hj
  have hno : ∀ e ∈ oj.after,Region.binds md e = true → e.on ≠ i:=by
   intro e he hb TS
   have h2:=hall e he hb
   rw [TS] at h2
   rcases Nat.lt_or_ge i L.size with h' | h'
   ·simp only [Array.getD,h',dite_true] at hiL h2
    exact absurd (hiL.symm.trans h2) (by simp)
   ·simp [Array.getD,Nat.not_lt.2 h'] at hiL
  have h2:=wpOp_putIf hoj (hfree j oj hoj hji QC hno) (fun cs b => hsel i oi cs b hi) (fun cs b => hsel j oj cs b hoj) hQ hy h1
  refine wpOp_mono (fun a' w' h3 => ⟨h3.2.1,?_⟩) h2
  refine ih (L.setIfInBounds j true) a' w' (fun k ok hk hki hun hno' => ?_) (ready_mono hr (Ne.symm hji)) h3.1 (h3.2.1 hjn) ?_
  ·refine hfree k ok hk hki ?_ hno'
   by_cases hjk : j = k
   ·subst hjk; exact QC
   ·rw [getD_set_ne true hjk] at hun; exact hun
  ·rw [Array.setIfInBounds_comm _ _ hji]
   exact h3.2.2

theorem jF {i : Nat} {oi : Oper} {v : Value} {g : Nat} {L : Array Bool} {a : Act} {w : World} (hi : ops[i]? = some oi)
  (hs : Region.noSelect ops = true) (hf : Region.free md ops L i = true) (hr : (Region.ready md ops L).contains i = true) (ht : ve md ops n i = true)
  (hQ : ∀ c a w,Q (.panic c) (a.put oi.dst v) w → Q (.panic c) a w) (hy : YieldsIf P ops S oi v a) (hS : S w)
  (h : wZ P md ops Q S n g (L.setIfInBounds i true) (a.put oi.dst v) w) : wZ P md ops Q S n (g + 1) L a w :=
 wpT_first hi (Region.noSelect_spec hs) ht hQ g L a w (Region.free_spec hi hf) (by simpa using hr) hy hS h

theorem zT (i : Nat) (v : Value) {oi : Oper} {g : Nat} {L : Array Bool} {a : Act} {w : World} (hi : ops[i]? = some oi) (hy : YieldsIf P ops S oi v a) (hS : S w)
  (h : wZ P md ops Q S n g (L.setIfInBounds i true) (a.put oi.dst v) w)
  (hs : Region.noSelect ops = true:=by kernel_rfl) (hf : Region.free md ops L i = true:=by kernel_rfl) (hr : (Region.ready md ops L).contains i = true:=by kernel_rfl) (ht : ve md ops n i = true:=by kernel_rfl)
  (hQ : ∀ c a w,Q (.panic c) (a.put oi.dst v) w → Q (.panic c) a w:=by exact fun _ _ _ h => h) : wZ P md ops Q S n (g + 1) L a w :=
 jF hi hs hf hr ht hQ hy hS h

theorem Ii {i : Nat} {o : Oper} {g : Nat} {L : Array Bool} {a : Act} {w : World} (ho : ops[i]? = some o) (hr : Region.ready md ops L = [i])
  (h : ∀ K' : Act → World → Prop,Shut (∀ a w,(i < n → S w) → wZ P md ops Q S n g (L.setIfInBounds i true) a w → K' a w) → if Region.wanted o (yielded ops a.tmps) = true then Oper.wp P o a w K' Q else K' (a.put o.dst undef) w) : wZ P md ops Q S n (g + 1) L a w:=by
 refine ⟨fun h0 => (by rw [hr] at h0; cases h0),fun j hj => ?_⟩
 rw [hr] at hj
 obtain rfl : j = i:=by simpa using hj
 exact wpOp_step ho fun K' hK => h K' fun a w hS hW => hK a w ⟨hS,hW⟩
theorem zO (i : Nat) {o : Oper} {g : Nat} {L : Array Bool} {a : Act} {w : World}
  (h : ∀ K' : Act → World → Prop,Shut (∀ a w,(i < n → S w) → wZ P md ops Q S n g (L.setIfInBounds i true) a w → K' a w) → if Region.wanted o (yielded ops a.tmps) = true then Oper.wp P o a w K' Q else K' (a.put o.dst undef) w)
  (ho : ops[i]? = some o:=by rfl) (hr : Region.ready md ops L = [i]:=by kernel_rfl) : wZ P md ops Q S n (g + 1) L a w:=Ii ho hr h
theorem zU (hP : ∀ c (a : Act) i (v : Value) w,Q (.panic c) (a.put i v) w → Q (.panic c) a w) (i : Nat) (v : Value) {oi : Oper} {g : Nat} {L : Array Bool} {a : Act} {w : World} (hi : ops[i]? = some oi) (hy : YieldsIf P ops S oi v a) (hS : S w)
 (h : wZ P md ops Q S n g (L.setIfInBounds i true) (a.put oi.dst v) w)
 (hs : Region.noSelect ops = true:=by kernel_rfl) (hf : Region.free md ops L i = true:=by kernel_rfl) (hr : (Region.ready md ops L).contains i = true:=by kernel_rfl) (ht : ve md ops n i = true:=by kernel_rfl) : wZ P md ops Q S n (g + 1) L a w:=jF hi hs hf hr ht (fun _ _ _ h => hP _ _ _ _ _ h) hy hS h
theorem BJ {i j : Nat} {o p : Oper} {g : Nat} {L : Array Bool} {a : Act} {w : World} (ho : ops[i]? = some o) (hp : ops[j]? = some p) (hr : Region.ready md ops L = [i,j])
  (h : ∀ K' : Act → World → Prop,Shut (∀ a w,(i < n → S w) → wZ P md ops Q S n g (L.setIfInBounds i true) a w → K' a w) → if Region.wanted o (yielded ops a.tmps) = true then Oper.wp P o a w K' Q else K' (a.put o.dst undef) w)
  (h' : ∀ K' : Act → World → Prop,Shut (∀ a w,(j < n → S w) → wZ P md ops Q S n g (L.setIfInBounds j true) a w → K' a w) → if Region.wanted p (yielded ops a.tmps) = true then Oper.wp P p a w K' Q else K' (a.put p.dst undef) w) : wZ P md ops Q S n (g + 1) L a w:=by
 refine ⟨fun h0 => (by rw [hr] at h0; cases h0),fun k hk => ?_⟩
 rw [hr] at hk
 rcases (by simpa using hk : k = i ∨ k = j) with rfl | rfl
 ·exact wpOp_step ho fun K' hK => h K' fun a w hS hW => hK a w ⟨hS,hW⟩
 ·exact wpOp_step hp fun K' hK => h' K' fun a w hS hW => hK a w ⟨hS,hW⟩
theorem bf {g : Nat} {L : Array Bool} {a : Act} {w : World} (hr : Region.ready md ops L = []) (h : Q .normal a w) : wZ P md ops Q S n g L a w:=by
 cases g with
 | zero => exact ⟨hr,h⟩
 | succ g => exact ⟨fun _ => h,by rw [hr]; simp⟩
theorem aC (n : Nat) (S : World → Prop) {id : Nat} {a : Act} {w : World} (hm : P.follows .mixedOrders = true) (h : wZ P .any ops Q S n ops.size (Array.replicate ops.size false) a w.drew) : (Code.region id ops true).wp P Q a w :=
 wp_region_any hm (DK _ _ _ _ h)

theorem o5 {T E : TypeId} {size bytes : Nat} (R : oD P T E size bytes) {o : Oper} {a : Act} {w : World} {K : Act → World → Prop} {X : Prop} (hgd : o.guard = none) (s x : Operand)
  (ho : o.op = .call { callee:=.builtin .append,args:=#[s,x],argTypes:=#[T,T] })
  (base : Nat) (v : Value) (m : Nat) (xs : List Value) (hs : a.eval s = v) (hown : w.ownsRow base E size v m xs)
  (ad : Addr) (k c : Nat) (news : List Value) (hx : a.eval x = .slice (some ad) k c) (hl : news.length = k * size) (hnews : ∀ j u,news[j]? = some u → w.cell? (ad.add j) = some u) (h1 : ∀ u ∈ news,u.oneCell' = true)
  (h63 : m + k ≤ maxLen) (hbytes : (m + k) * bytes ≤ 140737488355328) (hbase : base ≤ w.heap.size)
  (h : ∀ v' w',w'.ownsRow base E size v' (m + k) (xs ++ news) → w.grownBy w' v.ownBlock → (v'.ownBlock = v.ownBlock ∨ v'.ownBlock = some w.heap.size) → Below base w w' → K (a.put o.dst v') w') :
  if Region.wanted o (yielded ops a.tmps) = true then Oper.wp P o a w K Q else X:=by
 have hw : Region.wanted o (yielded ops a.tmps) = true:=by simp [Region.wanted,hgd]
 rw [if_pos hw]
 obtain ⟨i,z,hi,hz,hsize,hby,hzs⟩:=R.ex
 obtain ⟨v',w',hr,h2,h3,_,h5⟩:=run_append_own_at (P:=P) w base T o.type E i z size bytes R.ht hi hz hsize hby hzs R.pos v m xs hown ad k c news hl hnews h1 h63 hbytes hbase
 unfold Oper.wp execOp
 simp only [ho,resolve,invoke,builtin,Sem.run_bind,Sem.run_pure,Result.andThen_ok,List.map_toArray,List.map_cons,List.map_nil,hs,hx,hr]
 exact h _ _ h2 h3 h5 ((Below.refl _ _).grown h3 hbase (fun k hk => (hown.lt k hk).1))
theorem o6 {T E : TypeId} {size bytes : Nat} (R : oD P T E size bytes) {o : Oper} {a : Act} {w : World} {K : Act → World → Prop} {X : Prop} (hgd : o.guard = none) (s x : Operand)
  (ho : o.op = .call { callee:=.builtin .append,args:=#[s,x],argTypes:=#[T,T] })
  (base : Nat) (v : Value) (m : Nat) (xs : List Value) (hs : a.eval s = v) (hown : w.ownsRow base E size v m xs)
  (A : Option Addr) (k c : Nat) (hx : a.eval x = .slice A k c) (ys : List Value) (hl : ys.length = k * size) (hA : A = none → k = 0 ∧ c = 0) (hsrc : ∀ ad,A = some ad → ∀ j u,ys[j]? = some u → w.cell? (ad.add j) = some u) (h1 : ∀ u ∈ ys,u.oneCell' = true)
  (h63 : m + k ≤ maxLen) (hbytes : (m + k) * bytes ≤ 140737488355328) (hbase : base ≤ w.heap.size)
  (h : ∀ v' w',w'.ownsRow base E size v' (m + k) (xs ++ ys) → Below base w w' → K (a.put o.dst v') w') :
  if Region.wanted o (yielded ops a.tmps) = true then Oper.wp P o a w K Q else X:=by
 cases A with
 | none =>
  obtain ⟨rfl,rfl⟩:=hA rfl
  obtain ⟨i,z,hi,hz,hsize,hby,hzs⟩:=R.ex
  have hw : Region.wanted o (yielded ops a.tmps) = true:=by simp [Region.wanted,hgd]
  rw [if_pos hw]
  have hrun:=run_append_owned_none (P:=P) (w:=w) base T o.type E i size R.ht hi v m xs hown
  have hys : ys = []:=List.eq_nil_of_length_eq_zero (by omega)
  subst hys
  unfold Oper.wp
  simp [execOp,ho,resolve,invoke,builtin,hs,hx,hrun,Result.andThen]
  exact h v w (by simpa using hown) (Below.refl _ _)
 | some ad => exact o5 R hgd s x ho base v m xs hs hown ad k c ys hx hl (hsrc ad rfl) h1 h63 hbytes hbase fun v' w' k1 _ _ k4 => h v' w' k1 k4
end
end Go.Proofs.YtpidjanngbaiiaaGreatDoor
namespace Go.Proofs.YtpidjanngbaiiaaGreatDoor
open Go.RowKit Go.Proofs
set_option maxRecDepth 100000
set_option maxHeartbeats 32000000

def gv (B : Bool) (v : Value) : Value:=match B with | true => v | false => undef
theorem aG (v : Value) : gv true v = v:=rfl
section
variable {P : Program} {md : Region.Mode} {ops : Array Oper} {S : World → Prop} {Q : Exit → Act → World → Prop} {n : Nat}
theorem bu (i : Nat) (B : Bool) (val : Value) {oi : Oper} {g : Nat} {L : Array Bool} {a : Act} {w : World} (hi : ops[i]? = some oi)
  (h1 : B = true → Region.wanted oi (yielded ops a.tmps) = true ∧ ∀ w,S w → (execOp a.eval oi).run P w = .ok (.value val) w)
  (h0 : B = false → Region.wanted oi (yielded ops a.tmps) = false) (hS : S w)
  (hs : Region.noSelect ops = true) (hf : Region.free md ops L i = true) (hr : (Region.ready md ops L).contains i = true) (ht : ve md ops n i = true)
  (hQ : ∀ c a w,Q (.panic c) (a.put oi.dst (gv B val)) w → Q (.panic c) a w)
  (h : wZ P md ops Q S n g (L.setIfInBounds i true) (a.put oi.dst (gv B val)) w) : wZ P md ops Q S n (g + 1) L a w:=by
 refine jF hi hs hf hr ht hQ ?_ hS h
 cases B with
 | true => exact Or.inl (h1 rfl)
 | false => exact Or.inr ⟨h0 rfl,rfl⟩
theorem pI (i : Nat) (B : Bool) (X : Value) {o : Oper} {g : Nat} {L : Array Bool} {a : Act} {w : World} (ho : ops[i]? = some o) (hr : Region.ready md ops L = [i])
  (hw1 : B = true → Region.wanted o (yielded ops a.tmps) = true) (hw0 : B = false → Region.wanted o (yielded ops a.tmps) = false)
  (hcall : B = true → ∀ K' : Act → World → Prop,(∀ w1,Below w.heap.size w w1 → K' (a.put o.dst X) w1) → Oper.wp P o a w K' Q)
  (h : ∀ w1,Below w.heap.size w w1 → (i < n → S w1) ∧ wZ P md ops Q S n g (L.setIfInBounds i true) (a.put o.dst (gv B X)) w1) : wZ P md ops Q S n (g + 1) L a w:=by
 refine Ii ho hr fun K' hK => ?_
 cases B with
 | true =>
  rw [if_pos (hw1 rfl)]
  exact hcall rfl K' fun w1 hb => hK.out _ _ (h w1 hb).1 (h w1 hb).2
 | false =>
  rw [if_neg (by rw [hw0 rfl]; decide)]
  exact hK.out _ _ (h w (Below.refl _ _)).1 (h w (Below.refl _ _)).2
end
end Go.Proofs.YtpidjanngbaiiaaGreatDoor
namespace Go.Proofs.YtpidjanngbaiiaaGreatDoor
open Go.RowKit Go.Proofs
set_option maxRecDepth 100000
set_option maxHeartbeats 32000000

abbrev Bq:=Ty × List Str
inductive og (w : World) : List Value → List Bq → Prop where
 | nil : og w [] []
 | cons (t : Ty) (ns : List Str) (lv kv nv : Value) (xs : List Value) (ts : List Bq) (h1 : aF w lv t.labels) (h2 : qg w kv t.kids) (h3 : Names w nv ns) (h : og w xs ts) :
   og w (.int .i64 t.kind :: .int .i64 t.sort :: .string ⟨t.name.toArray⟩ :: lv :: kv :: nv :: xs) ((t,ns) :: ts)
theorem og.length {w : World} {xs : List Value} {ts : List Bq} (h : og w xs ts) : xs.length = ts.length * 6:=by
 induction h with
 | nil => rfl
 | cons => simp only [List.length_cons]; omega
theorem og.append {w : World} {xs ys : List Value} {ts us : List Bq} (h : og w xs ts) (h' : og w ys us) : og w (xs ++ ys) (ts ++ us):=by
 induction h with
 | nil => exact h'
 | cons t ns lv kv nv xs ts h1 h2 h3 _ ih => exact .cons t ns lv kv nv _ _ h1 h2 h3 ih
theorem og.keep {w w' : World} {xs : List Value} {ts : List Bq} (h : og w xs ts) (hb : Below w.heap.size w w') : og w' xs ts:=by
 induction h with
 | nil => exact .nil
 | cons t ns lv kv nv xs ts h1 h2 h3 _ ih => exact .cons t ns lv kv nv _ _ (h1.keep hb) (h2.keep hb) (h3.keep hb) ih
theorem og.one {w : World} {xs : List Value} {ts : List Bq} (h : og w xs ts) : ∀ u ∈ xs,u.oneCell' = true:=by
 induction h with
 | nil => simp
 | cons t ns lv kv nv xs ts h1 h2 h3 _ ih =>
  intro u hu
  simp only [List.mem_cons] at hu
  rcases hu with rfl | rfl | rfl | rfl | rfl | rfl | hu
  ·rfl
  ·rfl
  ·rfl
  ·exact h1.one
  ·exact h2.one
  ·exact h3.one
  ·exact ih u hu

def qM (w : World) (v : Value) (st : List Bq) : Prop:=∃ A cap xs,v = .slice A st.length cap ∧ st.length ≤ cap ∧ og w xs st ∧ (A = none → st = [] ∧ cap = 0) ∧ ∀ ad,A = some ad → ad.spot = none ∧ ∀ j u,xs[j]? = some u → w.cell? (ad.add j) = some u
theorem uY {w : World} {base : Nat} {E : TypeId} {v : Value} {xs : List Value} {st : List Bq} (h : w.ownsRow base E 6 v st.length xs) (hc : og w xs st) : qM w v st:=by
 have hcells:=fun g => h.cells (g:=g)
 rcases h.2 with ⟨rfl,h0⟩ | ⟨g,cap,cur,rfl,_,_,hn,_⟩
 ·exact ⟨none,0,xs,by rw [h0],by omega,hc,fun _ => ⟨List.eq_nil_of_length_eq_zero h0,rfl⟩,fun ad e => by cases e⟩
 ·refine ⟨_,cap,xs,rfl,hn,hc,(fun e => by cases e),fun ad e => ?_⟩
  cases e
  exact ⟨rfl,hcells g rfl⟩
theorem qM.keep {w w' : World} {v : Value} {st : List Bq} (h : qM w v st) (hb : Below w.heap.size w w') : qM w' v st:=by
 obtain ⟨A,cap,xs,h1,h2,h3,h4,h5⟩:=h
 refine ⟨A,cap,xs,h1,h2,h3.keep hb,h4,fun ad e => ⟨(h5 ad e).1,fun j u hj => ?_⟩⟩
 obtain ⟨b,off,spot⟩:=ad
 have h6:=(h5 _ e).1
 simp only at h6
 subst h6
 have:=(h5 _ e).2 j u hj
 rw [Go.WideShapes.add_plain] at this ⊢
 exact ae this hb
theorem qM.head {w : World} {A : Option Addr} {n cap : Nat} {t : Ty} {ns : List Str} {st : List Bq} (h : qM w (.slice A n cap) ((t,ns) :: st)) :
  n = st.length + 1 ∧ n ≤ cap ∧ ∃ b off lv kv nv,A = some ⟨b,off,none⟩ ∧ w.cell? ⟨b,off,none⟩ = some (.int .i64 t.kind) ∧ w.cell? ⟨b,off + 1,none⟩ = some (.int .i64 t.sort) ∧ w.cell? ⟨b,off + 2,none⟩ = some (.string ⟨t.name.toArray⟩) ∧
   w.cell? ⟨b,off + 3,none⟩ = some lv ∧ w.cell? ⟨b,off + 4,none⟩ = some kv ∧ w.cell? ⟨b,off + 5,none⟩ = some nv ∧ aF w lv t.labels ∧ qg w kv t.kids ∧ Names w nv ns ∧
   ∀ c,st.length ≤ c → qM w (.slice (some ⟨b,off + 6,none⟩) st.length c) st:=by
 obtain ⟨A',cap',xs,e,hle,hc,h0,h5⟩:=h
 injection e with e1 e2 e3
 subst e1 e2 e3
 simp only [List.length_cons] at hle ⊢
 refine ⟨trivial,hle,?_⟩
 cases A with
 | none => exact absurd (h0 rfl).1 (by simp)
 | some ad =>
  obtain ⟨b,off,spot⟩:=ad
  obtain ⟨h6,h7⟩:=h5 _ rfl
  simp only at h6
  subst h6
  cases hc with
  | cons t ns lv kv nv xs ts h1 h2 h3 h =>
   have hcell : ∀ j u,(Value.int .i64 t.kind :: Value.int .i64 t.sort :: Value.string ⟨t.name.toArray⟩ :: lv :: kv :: nv :: xs)[j]? = some u → w.cell? ⟨b,off + j,none⟩ = some u:=fun j u hj => by
    have:=h7 j u hj
    rw [Go.WideShapes.add_plain] at this
    exact this
   refine ⟨b,off,lv,kv,nv,rfl,hcell 0 _ rfl,hcell 1 _ rfl,hcell 2 _ rfl,hcell 3 _ rfl,hcell 4 _ rfl,hcell 5 _ rfl,h1,h2,h3,fun c hcl => ⟨_,c,xs,rfl,hcl,h,(fun e => by cases e),fun ad e => ?_⟩⟩
   cases e
   refine ⟨rfl,fun j u hj => ?_⟩
   have:=hcell (j + 6) u (by simpa using hj)
   rw [Go.WideShapes.add_plain,show off + 6 + j = off + (j + 6) by omega]
   exact this
theorem pW : oD Tryz.prog 124 123 6 104:=.mk' (z:=.agg #[.int .i64 0,.int .i64 0,.string ⟨#[]⟩,.slice none 0 0,.slice none 0 0,.slice none 0 0]) Tryz.underlying124 (by kernel_rfl) rfl (by decide)
theorem pz.grown {w w' : World} {b p : Nat} {t : Ty} {lv kv : Value} (h : pz w b t lv kv) (hg : w.grownBy w' (some p)) (hb : b ≠ p) : pz w' b t lv kv:=by
 have hne : some b ≠ some p:=fun e => hb (by injection e)
 have hc : ∀ j,w'.cell? ⟨b,j,none⟩ = w.cell? ⟨b,j,none⟩:=fun j => hg.cell_far ⟨b,j,none⟩ h.lt hne
 have hf : ∀ j,w'.frozen? ⟨b,j,none⟩ = w.frozen? ⟨b,j,none⟩:=fun j => hg.frozen_far ⟨b,j,none⟩ h.lt hne
 exact ⟨(hc 0).trans h.c0,(hc 1).trans h.c1,(hc 2).trans h.c2,(hc 3).trans h.c3,(hc 4).trans h.c4,fun j => (hf j).trans (h.fr j),Nat.lt_of_lt_of_le h.lt hg.size⟩
theorem pz.far5 {w : World} {b q : Nat} {t : Ty} {lv kv : Value} (h : pz w b t lv kv) (hq : q ≠ b) (x0 x1 x2 x3 x4 : Value) :
  pz (((((w.setCell ⟨q,0,none⟩ x0).setCell ⟨q,1,none⟩ x1).setCell ⟨q,2,none⟩ x2).setCell ⟨q,3,none⟩ x3).setCell ⟨q,4,none⟩ x4) b t lv kv:=by
 have h0:=h.far (p:=⟨q,0,none⟩) hq x0
 have h1:=h0.far (p:=⟨q,1,none⟩) hq x1
 have h2:=h1.far (p:=⟨q,2,none⟩) hq x2
 have h3:=h2.far (p:=⟨q,3,none⟩) hq x3
 exact h3.far (p:=⟨q,4,none⟩) hq x4
theorem yj {D : aj} {w : World} {v : Value} {l : List Str} (h : bD D w v l) (hl : l.length ≤ 1000) :
  Calls Tryz.prog 115 #[v] w fun e w' => ∃ v',e = .returned v' ∧ w'.ownsRow w.heap.size 9 1 v' l.length (l.map fun s => .string ⟨s.toArray⟩) ∧ Below w.heap.size w w':=by
 obtain ⟨A,cap,rfl,hc,h3⟩:=h
 cases A with
 | none =>
  have h0 : l = []:=by
   rcases Nat.eq_zero_or_pos l.length with h | h
   ·exact List.eq_nil_of_length_eq_zero h
   ·obtain ⟨b,off,e,_⟩:=h3 h
    cases e
  subst h0
  refine (Tryz.slices_Clone_string_nil _ _ w).mono ?_
  rintro e w' ⟨rfl,rfl⟩
  exact ⟨_,rfl,World.ownsRow_nil _ _ _ _,Below.refl _ _⟩
 | some a =>
  rcases Nat.eq_zero_or_pos l.length with h | h
  ·have h0:=List.eq_nil_of_length_eq_zero h
   subst h0
   refine (Tryz.slices_Clone_string_zero a cap w).mono ?_
   rintro e w' ⟨v',rfl,hown,_,hb⟩
   exact ⟨_,rfl,hown,hb⟩
  ·obtain ⟨b,off,e,_,hr⟩:=h3 h
   cases e
   refine (Tryz.slices_Clone_string b off l.length cap (l.map fun s => ⟨s.toArray⟩) w (by simp) (by omega) ?_).mono ?_
   ·intro j hj
    have hj' : j < l.length:=by simpa using hj
    rw [hr j l[j] (by simp [hj'])]
    simp [List.getD,hj']
   ·rintro e w' ⟨v',rfl,hown,_,hb⟩
    rw [List.take_of_length_le (by simp),List.map_map] at hown
    exact ⟨_,rfl,hown,hb⟩
theorem qM.form {w : World} {ad : Addr} {n c : Nat} {st : List Bq} (h : qM w (.slice (some ad) n c) st) : n = st.length ∧ ∃ xs,og w xs st ∧ ∀ j u,xs[j]? = some u → w.cell? (ad.add j) = some u:=by
 obtain ⟨A,cap,xs,e,_,h3,_,h5⟩:=h
 injection e with e1 e2 e3
 subst e1 e2 e3
 exact ⟨rfl,xs,h3,(h5 _ rfl).2⟩
def bJ (t : Ty) (v bv : Value) (bound : List Str) (p : Nat) (left : Int) (w : World) : Prop :=
 Calls Tryz.prog 83 #[v,bv,.pointer (some ⟨p,0,none⟩)] w fun e w' => e = .returned (.int .i64 (chk t bound left).1) ∧ w.grownBy w' (some p) ∧ w'.cell? ⟨p,0,none⟩ = some (.int .i64 (chk t bound left).2) ∧ w'.frozen? ⟨p,0,none⟩ = false


theorem qA {ks : List Ty} {b : List Str} {l : Int} {k : Nat} {c : Ty} (h : ks[k]? = some c) : dR (ks.drop k) b l = if (chk c b l).1 ≠ 0 then chk c b l else dR (ks.drop (k + 1)) b (chk c b l).2:=by
 obtain ⟨h1,h2⟩:=List.getElem?_eq_some_iff.1 h
 rw [List.drop_eq_getElem_cons h1,h2]
 rfl

theorem check_o (m : Nat) (ih : ∀ (t : Ty) (v bv : Value) (bound : List Str) (p : Nat) (left : Int) (w : World),parts t ≤ m → BC (· ≠ p) w v t → Fit t → bD (· ≠ p) w bv bound → (∀ s ∈ bound,s.length ≤ maxLen) → 0 ≤ left → (bound.length : Int) + left ≤ 60 → w.cell? ⟨p,0,none⟩ = some (.int .i64 left) → w.frozen? ⟨p,0,none⟩ = false → bJ t v bv bound p left w)
  (t : Ty) (v bv : Value) (bound : List Str) (p : Nat) (left : Int) (w : World) (hm : parts t ≤ m + 1) (hv : BC (· ≠ p) w v t) (hf : Fit t) (hbv : bD (· ≠ p) w bv bound) (hbl : ∀ s ∈ bound,s.length ≤ maxLen) (hl0 : 0 ≤ left) (hl : (bound.length : Int) + left ≤ 60) (hc : w.cell? ⟨p,0,none⟩ = some (.int .i64 left)) (hfr : w.frozen? ⟨p,0,none⟩ = false)
  (hans : chk t bound left = dR t.kids bound (left - 1)) (hpos : 1 ≤ left) (hsh : ay t.kind t.sort t.name t.labels t.kids.length = true) (h9 : (t.kind == 9) = false) (h8 : (t.kind == 8) = false) :
  bJ t v bv bound p left w:=by
 unfold bJ
 rw [hans]
 clear hans
 have HT:=zH hv
 have HB:=zH hbv
 obtain ⟨lv,kv,rfl,h1,h2⟩:=hv
 have HK:=zH h2
 obtain ⟨A0,p0,rfl,-,-⟩:=h1
 obtain ⟨A,cap,rfl,-,-⟩:=h2
 have HF:=zH hf
 have IE:=zH hbl
 have HC:=zH hc
 have hp:=cell_lt hc
 obtain ⟨ks,hks⟩ : ∃ x,t.kids = x:=⟨_,rfl⟩
 have AU : Hid (∀ c ∈ ks,Fit c):=by have:=HF.out.parts.2.2.2.2; rw [hks] at this; exact this
 have HP : Hid (1 + pO ks ≤ m + 1):=by cases t; subst hks; exact hm
 have hkl : ks.length ≤ maxLen:=by rw [← hks]; exact hf.parts.2.2.2.1
 unfold maxLen at hkl
 have zZ:=zH hks
 rw [hks] at HK hsh ⊢
 obtain ⟨L,hL⟩ : ∃ x,ks.length = x:=⟨_,rfl⟩
 have HL:=zH hL
 rw [hL] at HK hkl hsh ⊢
 clear hks hL
 go_enter Tryz.func83,Tryz.ntmps83
 go_wp2_with fail
 obtain ⟨W,hW⟩ : ∃ W,(w.setCell ⟨p,0,none⟩ (.int .i64 (left - 1))).alloc (.cells #[.int .i64 t.kind,.int .i64 t.sort,.string ⟨t.name.toArray⟩,.slice A0 t.labels.length p0,.slice A L cap] 30) = W:=⟨_,rfl⟩
 have hl1 : Left W p (left - 1):=by subst hW; exact ((⟨hc,hfr⟩ : Left w p left).set (left - 1)).keep ((Below.refl _ _).alloc (Nat.le_refl _) _)
 have hgW : w.grownBy W (some p):=by subst hW; exact (gW w p _).trans (World.grownBy_alloc _ _ _)
 have hTB : pz W w.heap.size t (.slice A0 t.labels.length p0) (.slice A L cap):=by subst hW; exact ⟨by simp [go_sem],by simp [go_sem],by simp [go_sem],by simp [go_sem],by simp [go_sem],fun j => by simp [go_sem],by simp⟩
 try rw [hW]
 clear hW
 refine (sF t _ W (by have:=(HT.out.keep (D':=(· ≠ p)) (jy hgW) (fun b h _ => h)).is; rw [zZ.out,HL.out] at this; exact this) HF.out).mono ?_
 rw [zZ.out,HL.out,hsh]
 rintro e w1 ⟨rfl,hb1⟩
 have hl2:=hl1.keep hb1
 have hg1:=hgW.trans (grown_below hb1 _)
 have ww:=hTB.keep hb1 hTB.lt
 obtain ⟨t0,t1,t2,t3,t4,t5,t6⟩:=id ww
 clear hl1 hgW hTB hb1
 have vM:=HB.out.keep (D':=(· ≠ p)) (jy hg1) (fun b h _ => h)
 go_wp2_with fail
 go_loopw [63] (fun i wr => ∃ (k : Nat) (lk : Int),k ≤ L ∧ i = .int .i64 k ∧ 0 ≤ lk ∧ lk ≤ left - 1 ∧ Left wr p lk ∧ w.grownBy wr (some p) ∧ bD (· ≠ p) wr bv bound ∧ Hid (dR ks bound (left - 1) = dR (ks.drop k) bound lk)) (fun i _ => L - (intOf i).toNat)
 case atStart => exact ⟨0,left - 1,by omega,rfl,by omega,by omega,hl2,hg1,vM,rfl⟩
 case round =>
  clear hl2 hg1 vM ww t0 t1 t2 t3 t4 t5 t6
  obtain ⟨k,lk,hk,rfl,hlk0,FN,hl2,hg1,vM,hs⟩:=hrel
  by_cases hlt : k < L
  ·obtain ⟨c,hc'⟩ : ∃ x,ks[k]? = some x:=⟨_,List.getElem?_eq_getElem (by rw [HL.out]; exact hlt)⟩
   have vY:=zH hc'
   obtain ⟨-,-,b,off,A1,n1,p1,A2,n2,p2,rfl,hbp,c0,c1,c2,c3,c4,hl',hk'⟩:=qi (HK.out.keep (D':=(· ≠ p)) (jy hg1) (fun b h _ => h)) hc'
   have vT:=zH hl'; have rP:=zH hk'; clear hl' hk' hc'
   have hcp : parts c ≤ m:=by have h1:=pV (az vY.out); have h2:=HP.out; omega
   have hcf : Fit c:=AU.out c (az vY.out)
   obtain ⟨wa,mQ⟩ : ∃ y,wr.alloc (.cells #[.int .i64 c.kind,.int .i64 c.sort,.string ⟨c.name.toArray⟩,.slice A1 n1 p1,.slice A2 n2 p2] 30) = y:=⟨_,rfl⟩
   have hba : Below wr.heap.size wr wa:=by subst mQ; exact (Below.refl _ _).alloc (Nat.le_refl _) _
   have hla:=hl2.keep hba
   have hga:=hg1.trans (grown_below hba _)
   have hkb : pz wa wr.heap.size c (.slice A1 n1 p1) (.slice A2 n2 p2):=by subst mQ; exact ⟨by simp [go_sem],by simp [go_sem],by simp [go_sem],by simp [go_sem],by simp [go_sem],fun j => by simp [go_sem],by simp⟩
   obtain ⟨k0,k1,k2,k3,k4,k5,k6⟩:=id hkb
   obtain ⟨R,hR⟩ : ∃ x,chk c bound lk = x:=⟨_,rfl⟩
   have HR:=zH hR
   have hstep:=hs.out
   rw [qA vY.out,hR] at hstep
   have hcall:=ih c (.agg #[.int .i64 c.kind,.int .i64 c.sort,.string ⟨c.name.toArray⟩,.slice A1 n1 p1,.slice A2 n2 p2]) bv bound p lk wa hcp ((vX vT.out rP.out).keep (Same.below hba) (fun b h _ => h)) hcf (vM.keep (Same.below hba) (fun b h _ => h)) IE.out hlk0 (by omega) hla.c hla.f
   unfold bJ at hcall
   rw [hR] at hcall
   have dP:=zH hcall
   clear hR hcall
   by_cases he : R.1 = 0
   ·have hp2 : 0 ≤ R.2 ∧ R.2 ≤ lk:=by
     have h1:=qV c bound lk (by rw [HR.out]; exact he)
     rw [HR.out] at h1
     omega
    rw [if_neg (by simpa using he)] at hstep
    have HST:=zH hstep
    have hE : (R.1 != 0) = false:=by rw [bne_eq_false_iff_eq]; exact he
    clear hstep hs he
    go_wp2_with fail
    try rw [mQ]
    clear mQ
    refine dP.out.mono ?_
    rintro e w2 ⟨rfl,hg2,hc2,hf2⟩
    go_wp2_with fail
    go_roundw
    case rel => exact ⟨k + 1,R.2,by omega,by go_num,hp2.1,by omega,⟨hc2,hf2⟩,hga.trans hg2,(vM.keep (Same.below hba) (fun b h _ => h)).keep (jy hg2) (fun b h _ => h),HST⟩
    case measure => simp [intOf]; omega
   ·rw [if_pos he] at hstep
    have HST:=zH hstep
    have hE : (R.1 != 0) = true:=by rw [bne_iff_ne]; exact he
    clear hstep hs he
    go_wp2_with fail
    try rw [mQ]
    clear mQ
    refine dP.out.mono ?_
    rintro e w2 ⟨rfl,hg2,hc2,hf2⟩
    go_wp2_with fail
    go_ret
    rw [HST.out]
    exact ⟨rfl,hga.trans hg2,hc2,hf2⟩
  ·have hend:=hs.out
   rw [List.drop_of_length_le (by rw [HL.out]; omega)] at hend
   have HE:=zH hend
   clear hend hs
   go_wp2_with fail
   go_ret
   rw [HE.out]
   exact ⟨rfl,hg1,hl2.c,hl2.f⟩
theorem check_z (m : Nat) (ih : ∀ (t : Ty) (v bv : Value) (bound : List Str) (p : Nat) (left : Int) (w : World),parts t ≤ m → BC (· ≠ p) w v t → Fit t → bD (· ≠ p) w bv bound → (∀ s ∈ bound,s.length ≤ maxLen) → 0 ≤ left → (bound.length : Int) + left ≤ 60 → w.cell? ⟨p,0,none⟩ = some (.int .i64 left) → w.frozen? ⟨p,0,none⟩ = false → bJ t v bv bound p left w)
  (t : Ty) (v bv : Value) (bound : List Str) (p : Nat) (left : Int) (w : World) (hm : parts t ≤ m + 1) (hv : BC (· ≠ p) w v t) (hf : Fit t) (hbv : bD (· ≠ p) w bv bound) (hbl : ∀ s ∈ bound,s.length ≤ maxLen) (hl0 : 0 ≤ left) (hl : (bound.length : Int) + left ≤ 60) (hc : w.cell? ⟨p,0,none⟩ = some (.int .i64 left)) (hfr : w.frozen? ⟨p,0,none⟩ = false)
  (hans : chk t bound left = (2,left - 1)) (hz : left = 0) :
  bJ t v bv bound p left w:=by
 unfold bJ
 rw [hans]
 clear hans
 have HT:=zH hv
 have HB:=zH hbv
 obtain ⟨lv,kv,rfl,h1,h2⟩:=hv
 have HK:=zH h2
 obtain ⟨A0,p0,rfl,-,-⟩:=h1
 obtain ⟨A,cap,rfl,-,-⟩:=h2
 have HF:=zH hf
 have IE:=zH hbl
 have HC:=zH hc
 have hp:=cell_lt hc
 obtain ⟨ks,hks⟩ : ∃ x,t.kids = x:=⟨_,rfl⟩
 have AU : Hid (∀ c ∈ ks,Fit c):=by have:=HF.out.parts.2.2.2.2; rw [hks] at this; exact this
 have HP : Hid (1 + pO ks ≤ m + 1):=by cases t; subst hks; exact hm
 have hkl : ks.length ≤ maxLen:=by rw [← hks]; exact hf.parts.2.2.2.1
 unfold maxLen at hkl
 have zZ:=zH hks
 rw [hks] at HK ⊢
 obtain ⟨L,hL⟩ : ∃ x,ks.length = x:=⟨_,rfl⟩
 have HL:=zH hL
 rw [hL] at HK hkl ⊢
 clear hks hL
 subst hz
 go_enter Tryz.func83,Tryz.ntmps83
 go_wp2_with fail
 go_ret
 have hgW : w.grownBy ((w.setCell ⟨p,0,none⟩ (.int .i64 (-1))).alloc (.cells #[.int .i64 t.kind,.int .i64 t.sort,.string ⟨t.name.toArray⟩,.slice A0 t.labels.length p0,.slice A L cap] 30)) (some p):=(gW w p _).trans (World.grownBy_alloc _ _ _)
 have hl1:=((⟨hc,hfr⟩ : Left w p 0).set (-1)).keep ((Below.refl _ _).alloc (Nat.le_refl _) (.cells #[.int .i64 t.kind,.int .i64 t.sort,.string ⟨t.name.toArray⟩,.slice A0 t.labels.length p0,.slice A L cap] 30))
 exact ⟨rfl,hgW,hl1.c,hl1.f⟩

theorem check_s (m : Nat) (ih : ∀ (t : Ty) (v bv : Value) (bound : List Str) (p : Nat) (left : Int) (w : World),parts t ≤ m → BC (· ≠ p) w v t → Fit t → bD (· ≠ p) w bv bound → (∀ s ∈ bound,s.length ≤ maxLen) → 0 ≤ left → (bound.length : Int) + left ≤ 60 → w.cell? ⟨p,0,none⟩ = some (.int .i64 left) → w.frozen? ⟨p,0,none⟩ = false → bJ t v bv bound p left w)
  (t : Ty) (v bv : Value) (bound : List Str) (p : Nat) (left : Int) (w : World) (hm : parts t ≤ m + 1) (hv : BC (· ≠ p) w v t) (hf : Fit t) (hbv : bD (· ≠ p) w bv bound) (hbl : ∀ s ∈ bound,s.length ≤ maxLen) (hl0 : 0 ≤ left) (hl : (bound.length : Int) + left ≤ 60) (hc : w.cell? ⟨p,0,none⟩ = some (.int .i64 left)) (hfr : w.frozen? ⟨p,0,none⟩ = false)
  (hans : chk t bound left = (1,left - 1)) (hpos : 1 ≤ left) (hsh : ay t.kind t.sort t.name t.labels t.kids.length = false) :
  bJ t v bv bound p left w:=by
 unfold bJ
 rw [hans]
 clear hans
 have HT:=zH hv
 have HB:=zH hbv
 obtain ⟨lv,kv,rfl,h1,h2⟩:=hv
 have HK:=zH h2
 obtain ⟨A0,p0,rfl,-,-⟩:=h1
 obtain ⟨A,cap,rfl,-,-⟩:=h2
 have HF:=zH hf
 have IE:=zH hbl
 have HC:=zH hc
 have hp:=cell_lt hc
 obtain ⟨ks,hks⟩ : ∃ x,t.kids = x:=⟨_,rfl⟩
 have AU : Hid (∀ c ∈ ks,Fit c):=by have:=HF.out.parts.2.2.2.2; rw [hks] at this; exact this
 have HP : Hid (1 + pO ks ≤ m + 1):=by cases t; subst hks; exact hm
 have hkl : ks.length ≤ maxLen:=by rw [← hks]; exact hf.parts.2.2.2.1
 unfold maxLen at hkl
 have zZ:=zH hks
 rw [hks] at HK hsh ⊢
 obtain ⟨L,hL⟩ : ∃ x,ks.length = x:=⟨_,rfl⟩
 have HL:=zH hL
 rw [hL] at HK hkl hsh ⊢
 clear hks hL
 go_enter Tryz.func83,Tryz.ntmps83
 go_wp2_with fail
 obtain ⟨W,hW⟩ : ∃ W,(w.setCell ⟨p,0,none⟩ (.int .i64 (left - 1))).alloc (.cells #[.int .i64 t.kind,.int .i64 t.sort,.string ⟨t.name.toArray⟩,.slice A0 t.labels.length p0,.slice A L cap] 30) = W:=⟨_,rfl⟩
 have hl1 : Left W p (left - 1):=by subst hW; exact ((⟨hc,hfr⟩ : Left w p left).set (left - 1)).keep ((Below.refl _ _).alloc (Nat.le_refl _) _)
 have hgW : w.grownBy W (some p):=by subst hW; exact (gW w p _).trans (World.grownBy_alloc _ _ _)
 have hTB : pz W w.heap.size t (.slice A0 t.labels.length p0) (.slice A L cap):=by subst hW; exact ⟨by simp [go_sem],by simp [go_sem],by simp [go_sem],by simp [go_sem],by simp [go_sem],fun j => by simp [go_sem],by simp⟩
 try rw [hW]
 clear hW
 refine (sF t _ W (by have:=(HT.out.keep (D':=(· ≠ p)) (jy hgW) (fun b h _ => h)).is; rw [zZ.out,HL.out] at this; exact this) HF.out).mono ?_
 rw [zZ.out,HL.out,hsh]
 rintro e w1 ⟨rfl,hb1⟩
 have hl2:=hl1.keep hb1
 have hg1:=hgW.trans (grown_below hb1 _)
 have ww:=hTB.keep hb1 hTB.lt
 go_wp2_with fail
 go_ret
 exact ⟨rfl,hg1,hl2.c,hl2.f⟩

theorem check_v4 (m : Nat) (ih : ∀ (t : Ty) (v bv : Value) (bound : List Str) (p : Nat) (left : Int) (w : World),parts t ≤ m → BC (· ≠ p) w v t → Fit t → bD (· ≠ p) w bv bound → (∀ s ∈ bound,s.length ≤ maxLen) → 0 ≤ left → (bound.length : Int) + left ≤ 60 → w.cell? ⟨p,0,none⟩ = some (.int .i64 left) → w.frozen? ⟨p,0,none⟩ = false → bJ t v bv bound p left w)
  (t : Ty) (v bv : Value) (bound : List Str) (p : Nat) (left : Int) (w : World) (hm : parts t ≤ m + 1) (hv : BC (· ≠ p) w v t) (hf : Fit t) (hbv : bD (· ≠ p) w bv bound) (hbl : ∀ s ∈ bound,s.length ≤ maxLen) (hl0 : 0 ≤ left) (hl : (bound.length : Int) + left ≤ 60) (hc : w.cell? ⟨p,0,none⟩ = some (.int .i64 left)) (hfr : w.frozen? ⟨p,0,none⟩ = false)
  (hans : chk t bound left = (4,left - 1)) (hpos : 1 ≤ left) (hsh : ay t.kind t.sort t.name t.labels t.kids.length = true) (h9 : (t.kind == 9) = true) (hin : decide (t.name ∈ bound) = false) :
  bJ t v bv bound p left w:=by
 unfold bJ
 rw [hans]
 clear hans
 have HT:=zH hv
 have HB:=zH hbv
 obtain ⟨lv,kv,rfl,h1,h2⟩:=hv
 have HK:=zH h2
 obtain ⟨A0,p0,rfl,-,-⟩:=h1
 obtain ⟨A,cap,rfl,-,-⟩:=h2
 have HF:=zH hf
 have IE:=zH hbl
 have HC:=zH hc
 have hp:=cell_lt hc
 obtain ⟨ks,hks⟩ : ∃ x,t.kids = x:=⟨_,rfl⟩
 have AU : Hid (∀ c ∈ ks,Fit c):=by have:=HF.out.parts.2.2.2.2; rw [hks] at this; exact this
 have HP : Hid (1 + pO ks ≤ m + 1):=by cases t; subst hks; exact hm
 have hkl : ks.length ≤ maxLen:=by rw [← hks]; exact hf.parts.2.2.2.1
 unfold maxLen at hkl
 have zZ:=zH hks
 rw [hks] at HK hsh ⊢
 obtain ⟨L,hL⟩ : ∃ x,ks.length = x:=⟨_,rfl⟩
 have HL:=zH hL
 rw [hL] at HK hkl hsh ⊢
 clear hks hL
 go_enter Tryz.func83,Tryz.ntmps83
 go_wp2_with fail
 obtain ⟨W,hW⟩ : ∃ W,(w.setCell ⟨p,0,none⟩ (.int .i64 (left - 1))).alloc (.cells #[.int .i64 t.kind,.int .i64 t.sort,.string ⟨t.name.toArray⟩,.slice A0 t.labels.length p0,.slice A L cap] 30) = W:=⟨_,rfl⟩
 have hl1 : Left W p (left - 1):=by subst hW; exact ((⟨hc,hfr⟩ : Left w p left).set (left - 1)).keep ((Below.refl _ _).alloc (Nat.le_refl _) _)
 have hgW : w.grownBy W (some p):=by subst hW; exact (gW w p _).trans (World.grownBy_alloc _ _ _)
 have hTB : pz W w.heap.size t (.slice A0 t.labels.length p0) (.slice A L cap):=by subst hW; exact ⟨by simp [go_sem],by simp [go_sem],by simp [go_sem],by simp [go_sem],by simp [go_sem],fun j => by simp [go_sem],by simp⟩
 try rw [hW]
 clear hW
 refine (sF t _ W (by have:=(HT.out.keep (D':=(· ≠ p)) (jy hgW) (fun b h _ => h)).is; rw [zZ.out,HL.out] at this; exact this) HF.out).mono ?_
 rw [zZ.out,HL.out,hsh]
 rintro e w1 ⟨rfl,hb1⟩
 have hl2:=hl1.keep hb1
 have hg1:=hgW.trans (grown_below hb1 _)
 have ww:=hTB.keep hb1 hTB.lt
 obtain ⟨t0,t1,t2,t3,t4,t5,t6⟩:=id ww
 clear hl1 hgW hTB hb1
 have vM:=HB.out.keep (D':=(· ≠ p)) (jy hg1) (fun b h _ => h)
 go_wp2_with fail
 refine (nY vM.is (by omega) t.name).mono ?_
 rw [hin]
 rintro e w1 ⟨rfl,rfl⟩
 go_wp2_with fail
 go_ret
 exact ⟨rfl,hg1,hl2.c,hl2.f⟩

theorem check_v0 (m : Nat) (ih : ∀ (t : Ty) (v bv : Value) (bound : List Str) (p : Nat) (left : Int) (w : World),parts t ≤ m → BC (· ≠ p) w v t → Fit t → bD (· ≠ p) w bv bound → (∀ s ∈ bound,s.length ≤ maxLen) → 0 ≤ left → (bound.length : Int) + left ≤ 60 → w.cell? ⟨p,0,none⟩ = some (.int .i64 left) → w.frozen? ⟨p,0,none⟩ = false → bJ t v bv bound p left w)
  (t : Ty) (v bv : Value) (bound : List Str) (p : Nat) (left : Int) (w : World) (hm : parts t ≤ m + 1) (hv : BC (· ≠ p) w v t) (hf : Fit t) (hbv : bD (· ≠ p) w bv bound) (hbl : ∀ s ∈ bound,s.length ≤ maxLen) (hl0 : 0 ≤ left) (hl : (bound.length : Int) + left ≤ 60) (hc : w.cell? ⟨p,0,none⟩ = some (.int .i64 left)) (hfr : w.frozen? ⟨p,0,none⟩ = false)
  (hans : chk t bound left = dR t.kids bound (left - 1)) (hpos : 1 ≤ left) (hsh : ay t.kind t.sort t.name t.labels t.kids.length = true) (h9 : (t.kind == 9) = true) (h8 : (t.kind == 8) = false) (hin : decide (t.name ∈ bound) = true) :
  bJ t v bv bound p left w:=by
 unfold bJ
 rw [hans]
 clear hans
 have HT:=zH hv
 have HB:=zH hbv
 obtain ⟨lv,kv,rfl,h1,h2⟩:=hv
 have HK:=zH h2
 obtain ⟨A0,p0,rfl,-,-⟩:=h1
 obtain ⟨A,cap,rfl,-,-⟩:=h2
 have HF:=zH hf
 have IE:=zH hbl
 have HC:=zH hc
 have hp:=cell_lt hc
 obtain ⟨ks,hks⟩ : ∃ x,t.kids = x:=⟨_,rfl⟩
 have AU : Hid (∀ c ∈ ks,Fit c):=by have:=HF.out.parts.2.2.2.2; rw [hks] at this; exact this
 have HP : Hid (1 + pO ks ≤ m + 1):=by cases t; subst hks; exact hm
 have hkl : ks.length ≤ maxLen:=by rw [← hks]; exact hf.parts.2.2.2.1
 unfold maxLen at hkl
 have zZ:=zH hks
 rw [hks] at HK hsh ⊢
 obtain ⟨L,hL⟩ : ∃ x,ks.length = x:=⟨_,rfl⟩
 have HL:=zH hL
 rw [hL] at HK hkl hsh ⊢
 clear hks hL
 go_enter Tryz.func83,Tryz.ntmps83
 go_wp2_with fail
 obtain ⟨W,hW⟩ : ∃ W,(w.setCell ⟨p,0,none⟩ (.int .i64 (left - 1))).alloc (.cells #[.int .i64 t.kind,.int .i64 t.sort,.string ⟨t.name.toArray⟩,.slice A0 t.labels.length p0,.slice A L cap] 30) = W:=⟨_,rfl⟩
 have hl1 : Left W p (left - 1):=by subst hW; exact ((⟨hc,hfr⟩ : Left w p left).set (left - 1)).keep ((Below.refl _ _).alloc (Nat.le_refl _) _)
 have hgW : w.grownBy W (some p):=by subst hW; exact (gW w p _).trans (World.grownBy_alloc _ _ _)
 have hTB : pz W w.heap.size t (.slice A0 t.labels.length p0) (.slice A L cap):=by subst hW; exact ⟨by simp [go_sem],by simp [go_sem],by simp [go_sem],by simp [go_sem],by simp [go_sem],fun j => by simp [go_sem],by simp⟩
 try rw [hW]
 clear hW
 refine (sF t _ W (by have:=(HT.out.keep (D':=(· ≠ p)) (jy hgW) (fun b h _ => h)).is; rw [zZ.out,HL.out] at this; exact this) HF.out).mono ?_
 rw [zZ.out,HL.out,hsh]
 rintro e w1 ⟨rfl,hb1⟩
 have hl2:=hl1.keep hb1
 have hg1:=hgW.trans (grown_below hb1 _)
 have ww:=hTB.keep hb1 hTB.lt
 obtain ⟨t0,t1,t2,t3,t4,t5,t6⟩:=id ww
 clear hl1 hgW hTB hb1
 have vM:=HB.out.keep (D':=(· ≠ p)) (jy hg1) (fun b h _ => h)
 go_wp2_with fail
 refine (nY vM.is (by omega) t.name).mono ?_
 rw [hin]
 rintro e w1 ⟨rfl,rfl⟩
 go_wp2_with fail
 go_loopw [63] (fun i wr => ∃ (k : Nat) (lk : Int),k ≤ L ∧ i = .int .i64 k ∧ 0 ≤ lk ∧ lk ≤ left - 1 ∧ Left wr p lk ∧ w.grownBy wr (some p) ∧ bD (· ≠ p) wr bv bound ∧ Hid (dR ks bound (left - 1) = dR (ks.drop k) bound lk)) (fun i _ => L - (intOf i).toNat)
 case atStart => exact ⟨0,left - 1,by omega,rfl,by omega,by omega,hl2,hg1,vM,rfl⟩
 case round =>
  clear hl2 hg1 vM ww t0 t1 t2 t3 t4 t5 t6
  obtain ⟨k,lk,hk,rfl,hlk0,FN,hl2,hg1,vM,hs⟩:=hrel
  by_cases hlt : k < L
  ·obtain ⟨c,hc'⟩ : ∃ x,ks[k]? = some x:=⟨_,List.getElem?_eq_getElem (by rw [HL.out]; exact hlt)⟩
   have vY:=zH hc'
   obtain ⟨-,-,b,off,A1,n1,p1,A2,n2,p2,rfl,hbp,c0,c1,c2,c3,c4,hl',hk'⟩:=qi (HK.out.keep (D':=(· ≠ p)) (jy hg1) (fun b h _ => h)) hc'
   have vT:=zH hl'; have rP:=zH hk'; clear hl' hk' hc'
   have hcp : parts c ≤ m:=by have h1:=pV (az vY.out); have h2:=HP.out; omega
   have hcf : Fit c:=AU.out c (az vY.out)
   obtain ⟨wa,mQ⟩ : ∃ y,wr.alloc (.cells #[.int .i64 c.kind,.int .i64 c.sort,.string ⟨c.name.toArray⟩,.slice A1 n1 p1,.slice A2 n2 p2] 30) = y:=⟨_,rfl⟩
   have hba : Below wr.heap.size wr wa:=by subst mQ; exact (Below.refl _ _).alloc (Nat.le_refl _) _
   have hla:=hl2.keep hba
   have hga:=hg1.trans (grown_below hba _)
   have hkb : pz wa wr.heap.size c (.slice A1 n1 p1) (.slice A2 n2 p2):=by subst mQ; exact ⟨by simp [go_sem],by simp [go_sem],by simp [go_sem],by simp [go_sem],by simp [go_sem],fun j => by simp [go_sem],by simp⟩
   obtain ⟨k0,k1,k2,k3,k4,k5,k6⟩:=id hkb
   obtain ⟨R,hR⟩ : ∃ x,chk c bound lk = x:=⟨_,rfl⟩
   have HR:=zH hR
   have hstep:=hs.out
   rw [qA vY.out,hR] at hstep
   have hcall:=ih c (.agg #[.int .i64 c.kind,.int .i64 c.sort,.string ⟨c.name.toArray⟩,.slice A1 n1 p1,.slice A2 n2 p2]) bv bound p lk wa hcp ((vX vT.out rP.out).keep (Same.below hba) (fun b h _ => h)) hcf (vM.keep (Same.below hba) (fun b h _ => h)) IE.out hlk0 (by omega) hla.c hla.f
   unfold bJ at hcall
   rw [hR] at hcall
   have dP:=zH hcall
   clear hR hcall
   by_cases he : R.1 = 0
   ·have hp2 : 0 ≤ R.2 ∧ R.2 ≤ lk:=by
     have h1:=qV c bound lk (by rw [HR.out]; exact he)
     rw [HR.out] at h1
     omega
    rw [if_neg (by simpa using he)] at hstep
    have HST:=zH hstep
    have hE : (R.1 != 0) = false:=by rw [bne_eq_false_iff_eq]; exact he
    clear hstep hs he
    go_wp2_with fail
    try rw [mQ]
    clear mQ
    refine dP.out.mono ?_
    rintro e w2 ⟨rfl,hg2,hc2,hf2⟩
    go_wp2_with fail
    go_roundw
    case rel => exact ⟨k + 1,R.2,by omega,by go_num,hp2.1,by omega,⟨hc2,hf2⟩,hga.trans hg2,(vM.keep (Same.below hba) (fun b h _ => h)).keep (jy hg2) (fun b h _ => h),HST⟩
    case measure => simp [intOf]; omega
   ·rw [if_pos he] at hstep
    have HST:=zH hstep
    have hE : (R.1 != 0) = true:=by rw [bne_iff_ne]; exact he
    clear hstep hs he
    go_wp2_with fail
    try rw [mQ]
    clear mQ
    refine dP.out.mono ?_
    rintro e w2 ⟨rfl,hg2,hc2,hf2⟩
    go_wp2_with fail
    go_ret
    rw [HST.out]
    exact ⟨rfl,hga.trans hg2,hc2,hf2⟩
  ·have hend:=hs.out
   rw [List.drop_of_length_le (by rw [HL.out]; omega)] at hend
   have HE:=zH hend
   clear hend hs
   go_wp2_with fail
   go_ret
   rw [HE.out]
   exact ⟨rfl,hg1,hl2.c,hl2.f⟩
end Go.Proofs.YtpidjanngbaiiaaGreatDoor
