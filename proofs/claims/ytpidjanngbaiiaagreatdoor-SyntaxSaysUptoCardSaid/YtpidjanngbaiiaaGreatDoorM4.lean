/-
  TyS2 TyC TyP TyP2 TyR TyD
-/
import Derived.Test.YtpidjanngbaiiaaGreatDoorM3
import Derived.Laws.AppendOwnNone
namespace Go.Proofs.YtpidjanngbaiiaaGreatDoor
open Go.RowKit Go.Proofs
set_option maxRecDepth 100000
set_option maxHeartbeats 32000000

theorem part_1 (s : Int) (n : Str) (ls : List Str) (kids : Nat) (lv : Value) (A' : Option Addr) (cap' : Nat) (w : World) (hn : n.length ≤ 9223372036854775807) (hl : ls.length ≤ 9223372036854775807) (hs : ∀ s ∈ ls,s.length ≤ 9223372036854775807) (hk : kids ≤ 9223372036854775807) (hv : aF w lv ls) :
  Calls Tryz.prog 65 #[.agg #[.int .i64 1,.int .i64 s,.string ⟨n.toArray⟩,lv,.slice A' kids cap']] w fun e w' => e = .returned (.bool (ay 1 s n ls kids)) ∧ Below w.heap.size w w':=by
 have HV:=zH hv
 obtain ⟨A,cap,rfl,-,-⟩:=hv
 obtain ⟨ANS,hA⟩ : ∃ x,ay 1 s n ls kids = x:=⟨_,rfl⟩
 rw [hA]
 have HS:=zH hs; clear hs
 obtain ⟨L,hL⟩ : ∃ L,ls.length = L:=⟨_,rfl⟩
 have HL:=zH hL
 obtain ⟨B,hB⟩ : ∃ x,aJ ls = x:=⟨_,rfl⟩
 have HB:=zH hB
 unfold ay at hA
 rw [hL,hB] at hA
 have HA:=zH hA
 rw [hL] at hl HV ⊢; clear hL hA hB
 go_enter Tryz.func65,Tryz.ntmps65
 go_wp2_with fail
 all_goals
  go_ret
  refine ⟨ax ?_,by go_grown⟩
  rw [← HA.out]
  first | (simp [aA, *]; done) | (simp [aA, *]; omega) | (rw [Bool.eq_iff_iff]; simp [aA, *]; done) | (rw [Bool.eq_iff_iff]; simp [aA, *]; omega) | (rw [lG hl hk]; simp [aA, *]; done)
theorem part_2 (s : Int) (n : Str) (ls : List Str) (kids : Nat) (lv : Value) (A' : Option Addr) (cap' : Nat) (w : World) (hn : n.length ≤ 9223372036854775807) (hl : ls.length ≤ 9223372036854775807) (hs : ∀ s ∈ ls,s.length ≤ 9223372036854775807) (hk : kids ≤ 9223372036854775807) (hv : aF w lv ls) :
  Calls Tryz.prog 65 #[.agg #[.int .i64 2,.int .i64 s,.string ⟨n.toArray⟩,lv,.slice A' kids cap']] w fun e w' => e = .returned (.bool (ay 2 s n ls kids)) ∧ Below w.heap.size w w':=by
 have HV:=zH hv
 obtain ⟨A,cap,rfl,-,-⟩:=hv
 obtain ⟨ANS,hA⟩ : ∃ x,ay 2 s n ls kids = x:=⟨_,rfl⟩
 rw [hA]
 have HS:=zH hs; clear hs
 obtain ⟨L,hL⟩ : ∃ L,ls.length = L:=⟨_,rfl⟩
 have HL:=zH hL
 obtain ⟨B,hB⟩ : ∃ x,aJ ls = x:=⟨_,rfl⟩
 have HB:=zH hB
 unfold ay at hA
 rw [hL,hB] at hA
 have HA:=zH hA
 rw [hL] at hl HV ⊢; clear hL hA hB
 go_enter Tryz.func65,Tryz.ntmps65
 go_wp2_with fail
 all_goals
  go_ret
  refine ⟨ax ?_,by go_grown⟩
  rw [← HA.out]
  first | (simp [aA, *]; done) | (simp [aA, *]; omega) | (rw [Bool.eq_iff_iff]; simp [aA, *]; done) | (rw [Bool.eq_iff_iff]; simp [aA, *]; omega) | (rw [lG hl hk]; simp [aA, *]; done)
theorem part_3 (s : Int) (n : Str) (ls : List Str) (kids : Nat) (lv : Value) (A' : Option Addr) (cap' : Nat) (w : World) (hn : n.length ≤ 9223372036854775807) (hl : ls.length ≤ 9223372036854775807) (hs : ∀ s ∈ ls,s.length ≤ 9223372036854775807) (hk : kids ≤ 9223372036854775807) (hv : aF w lv ls) :
  Calls Tryz.prog 65 #[.agg #[.int .i64 3,.int .i64 s,.string ⟨n.toArray⟩,lv,.slice A' kids cap']] w fun e w' => e = .returned (.bool (ay 3 s n ls kids)) ∧ Below w.heap.size w w':=by
 have HV:=zH hv
 obtain ⟨A,cap,rfl,-,-⟩:=hv
 obtain ⟨ANS,hA⟩ : ∃ x,ay 3 s n ls kids = x:=⟨_,rfl⟩
 rw [hA]
 have HS:=zH hs; clear hs
 obtain ⟨L,hL⟩ : ∃ L,ls.length = L:=⟨_,rfl⟩
 have HL:=zH hL
 obtain ⟨B,hB⟩ : ∃ x,aJ ls = x:=⟨_,rfl⟩
 have HB:=zH hB
 unfold ay at hA
 rw [hL,hB] at hA
 have HA:=zH hA
 rw [hL] at hl HV ⊢; clear hL hA hB
 go_enter Tryz.func65,Tryz.ntmps65
 go_wp2_with fail
 all_goals
  go_ret
  refine ⟨ax ?_,by go_grown⟩
  rw [← HA.out]
  first | (simp [aA, *]; done) | (simp [aA, *]; omega) | (rw [Bool.eq_iff_iff]; simp [aA, *]; done) | (rw [Bool.eq_iff_iff]; simp [aA, *]; omega) | (rw [lG hl hk]; simp [aA, *]; done)
theorem part_4 (s : Int) (n : Str) (ls : List Str) (kids : Nat) (lv : Value) (A' : Option Addr) (cap' : Nat) (w : World) (hn : n.length ≤ 9223372036854775807) (hl : ls.length ≤ 9223372036854775807) (hs : ∀ s ∈ ls,s.length ≤ 9223372036854775807) (hk : kids ≤ 9223372036854775807) (hv : aF w lv ls) :
  Calls Tryz.prog 65 #[.agg #[.int .i64 4,.int .i64 s,.string ⟨n.toArray⟩,lv,.slice A' kids cap']] w fun e w' => e = .returned (.bool (ay 4 s n ls kids)) ∧ Below w.heap.size w w':=by
 have HV:=zH hv
 obtain ⟨A,cap,rfl,-,-⟩:=hv
 obtain ⟨ANS,hA⟩ : ∃ x,ay 4 s n ls kids = x:=⟨_,rfl⟩
 rw [hA]
 have HS:=zH hs; clear hs
 obtain ⟨L,hL⟩ : ∃ L,ls.length = L:=⟨_,rfl⟩
 have HL:=zH hL
 obtain ⟨B,hB⟩ : ∃ x,aJ ls = x:=⟨_,rfl⟩
 have HB:=zH hB
 unfold ay at hA
 rw [hL,hB] at hA
 have HA:=zH hA
 rw [hL] at hl HV ⊢; clear hL hA hB
 go_enter Tryz.func65,Tryz.ntmps65
 go_wp2_with fail
 all_goals
  go_ret
  refine ⟨ax ?_,by go_grown⟩
  rw [← HA.out]
  first | (simp [aA, *]; done) | (simp [aA, *]; omega) | (rw [Bool.eq_iff_iff]; simp [aA, *]; done) | (rw [Bool.eq_iff_iff]; simp [aA, *]; omega) | (rw [lG hl hk]; simp [aA, *]; done)
theorem part_5 (s : Int) (n : Str) (ls : List Str) (kids : Nat) (lv : Value) (A' : Option Addr) (cap' : Nat) (w : World) (hn : n.length ≤ 9223372036854775807) (hl : ls.length ≤ 9223372036854775807) (hs : ∀ s ∈ ls,s.length ≤ 9223372036854775807) (hk : kids ≤ 9223372036854775807) (hv : aF w lv ls) :
  Calls Tryz.prog 65 #[.agg #[.int .i64 5,.int .i64 s,.string ⟨n.toArray⟩,lv,.slice A' kids cap']] w fun e w' => e = .returned (.bool (ay 5 s n ls kids)) ∧ Below w.heap.size w w':=by
 have HV:=zH hv
 obtain ⟨A,cap,rfl,-,-⟩:=hv
 obtain ⟨ANS,hA⟩ : ∃ x,ay 5 s n ls kids = x:=⟨_,rfl⟩
 rw [hA]
 have HS:=zH hs; clear hs
 obtain ⟨L,hL⟩ : ∃ L,ls.length = L:=⟨_,rfl⟩
 have HL:=zH hL
 obtain ⟨B,hB⟩ : ∃ x,aJ ls = x:=⟨_,rfl⟩
 have HB:=zH hB
 unfold ay at hA
 rw [hL,hB] at hA
 have HA:=zH hA
 rw [hL] at hl HV ⊢; clear hL hA hB
 go_enter Tryz.func65,Tryz.ntmps65
 go_wp2_with fail
 all_goals
  go_ret
  refine ⟨ax ?_,by go_grown⟩
  rw [← HA.out]
  first | (simp [aA, *]; done) | (simp [aA, *]; omega) | (rw [Bool.eq_iff_iff]; simp [aA, *]; done) | (rw [Bool.eq_iff_iff]; simp [aA, *]; omega) | (rw [lG hl hk]; simp [aA, *]; done)
theorem part_6 (s : Int) (n : Str) (ls : List Str) (kids : Nat) (lv : Value) (A' : Option Addr) (cap' : Nat) (w : World) (hn : n.length ≤ 9223372036854775807) (hl : ls.length ≤ 9223372036854775807) (hs : ∀ s ∈ ls,s.length ≤ 9223372036854775807) (hk : kids ≤ 9223372036854775807) (hv : aF w lv ls) :
  Calls Tryz.prog 65 #[.agg #[.int .i64 6,.int .i64 s,.string ⟨n.toArray⟩,lv,.slice A' kids cap']] w fun e w' => e = .returned (.bool (ay 6 s n ls kids)) ∧ Below w.heap.size w w':=by
 have HV:=zH hv
 obtain ⟨A,cap,rfl,-,-⟩:=hv
 obtain ⟨ANS,hA⟩ : ∃ x,ay 6 s n ls kids = x:=⟨_,rfl⟩
 rw [hA]
 have HS:=zH hs; clear hs
 obtain ⟨L,hL⟩ : ∃ L,ls.length = L:=⟨_,rfl⟩
 have HL:=zH hL
 obtain ⟨B,hB⟩ : ∃ x,aJ ls = x:=⟨_,rfl⟩
 have HB:=zH hB
 unfold ay at hA
 rw [hL,hB] at hA
 have HA:=zH hA
 rw [hL] at hl HV ⊢; clear hL hA hB
 cases B
 all_goals
  go_enter Tryz.func65,Tryz.ntmps65
  go_wp2_with (go_at_call 76; go_must (refine (uC _ ls _ (HV.out.keep (by go_grown)) HS.out (by rw [HL.out]; exact hl)).mono ?_; rw [HB.out]; rintro e w1 ⟨rfl,hb1⟩; obtain ⟨hc1,hf1,hz1⟩:=AV hb1))
  all_goals
   go_ret
   refine ⟨ax ?_,by first | (exact chain (by go_grown) hb1) | go_grown⟩
   rw [← HA.out]
   first | (simp [aA, *]; done) | (simp [aA, *]; omega) | (rw [Bool.eq_iff_iff]; simp [aA, *]; done) | (rw [Bool.eq_iff_iff]; simp [aA, *]; omega) | (rw [lG hl hk]; simp [aA, *]; done)
theorem part_7 (s : Int) (n : Str) (ls : List Str) (kids : Nat) (lv : Value) (A' : Option Addr) (cap' : Nat) (w : World) (hn : n.length ≤ 9223372036854775807) (hl : ls.length ≤ 9223372036854775807) (hs : ∀ s ∈ ls,s.length ≤ 9223372036854775807) (hk : kids ≤ 9223372036854775807) (hv : aF w lv ls) :
  Calls Tryz.prog 65 #[.agg #[.int .i64 7,.int .i64 s,.string ⟨n.toArray⟩,lv,.slice A' kids cap']] w fun e w' => e = .returned (.bool (ay 7 s n ls kids)) ∧ Below w.heap.size w w':=by
 have HV:=zH hv
 obtain ⟨A,cap,rfl,-,-⟩:=hv
 obtain ⟨ANS,hA⟩ : ∃ x,ay 7 s n ls kids = x:=⟨_,rfl⟩
 rw [hA]
 have HS:=zH hs; clear hs
 obtain ⟨L,hL⟩ : ∃ L,ls.length = L:=⟨_,rfl⟩
 have HL:=zH hL
 obtain ⟨B,hB⟩ : ∃ x,aJ ls = x:=⟨_,rfl⟩
 have HB:=zH hB
 unfold ay at hA
 rw [hL,hB] at hA
 have HA:=zH hA
 rw [hL] at hl HV ⊢; clear hL hA hB
 cases B
 all_goals
  go_enter Tryz.func65,Tryz.ntmps65
  go_wp2_with (go_at_call 76; go_must (refine (uC _ ls _ (HV.out.keep (by go_grown)) HS.out (by rw [HL.out]; exact hl)).mono ?_; rw [HB.out]; rintro e w1 ⟨rfl,hb1⟩; obtain ⟨hc1,hf1,hz1⟩:=AV hb1))
  all_goals
   go_ret
   refine ⟨ax ?_,by first | (exact chain (by go_grown) hb1) | go_grown⟩
   rw [← HA.out]
   first | (simp [aA, *]; done) | (simp [aA, *]; omega) | (rw [Bool.eq_iff_iff]; simp [aA, *]; done) | (rw [Bool.eq_iff_iff]; simp [aA, *]; omega) | (rw [lG hl hk]; simp [aA, *]; done)
theorem part_8 (s : Int) (n : Str) (ls : List Str) (kids : Nat) (lv : Value) (A' : Option Addr) (cap' : Nat) (w : World) (hn : n.length ≤ 9223372036854775807) (hl : ls.length ≤ 9223372036854775807) (hs : ∀ s ∈ ls,s.length ≤ 9223372036854775807) (hk : kids ≤ 9223372036854775807) (hv : aF w lv ls) :
  Calls Tryz.prog 65 #[.agg #[.int .i64 8,.int .i64 s,.string ⟨n.toArray⟩,lv,.slice A' kids cap']] w fun e w' => e = .returned (.bool (ay 8 s n ls kids)) ∧ Below w.heap.size w w':=by
 have HV:=zH hv
 obtain ⟨A,cap,rfl,-,-⟩:=hv
 obtain ⟨ANS,hA⟩ : ∃ x,ay 8 s n ls kids = x:=⟨_,rfl⟩
 rw [hA]
 have HS:=zH hs; clear hs
 obtain ⟨L,hL⟩ : ∃ L,ls.length = L:=⟨_,rfl⟩
 have HL:=zH hL
 obtain ⟨B,hB⟩ : ∃ x,aJ ls = x:=⟨_,rfl⟩
 have HB:=zH hB
 unfold ay at hA
 rw [hL,hB] at hA
 have HA:=zH hA
 rw [hL] at hl HV ⊢; clear hL hA hB
 obtain ⟨C,hC⟩ : ∃ x,isVar n = x:=⟨_,rfl⟩
 have HC:=zH hC; clear hC
 cases C
 all_goals
  go_enter Tryz.func65,Tryz.ntmps65
  go_wp2_with (go_at_call 102; go_must (refine (zS n _ hn).mono ?_; rw [HC.out]; rintro e w1 ⟨rfl,hb1⟩; obtain ⟨hc1,hf1,hz1⟩:=AV hb1))
  all_goals
   go_ret
   refine ⟨ax ?_,by first | (exact chain (by go_grown) hb1) | go_grown⟩
   rw [← HA.out]
   have hC:=HC.out
   first | (simp [aA, *]; done) | (simp [aA, *]; omega) | (rw [Bool.eq_iff_iff]; simp [aA, *]; done) | (rw [Bool.eq_iff_iff]; simp [aA, *]; omega) | (rw [lG hl hk]; simp [aA, *]; done)
theorem part_9 (s : Int) (n : Str) (ls : List Str) (kids : Nat) (lv : Value) (A' : Option Addr) (cap' : Nat) (w : World) (hn : n.length ≤ 9223372036854775807) (hl : ls.length ≤ 9223372036854775807) (hs : ∀ s ∈ ls,s.length ≤ 9223372036854775807) (hk : kids ≤ 9223372036854775807) (hv : aF w lv ls) :
  Calls Tryz.prog 65 #[.agg #[.int .i64 9,.int .i64 s,.string ⟨n.toArray⟩,lv,.slice A' kids cap']] w fun e w' => e = .returned (.bool (ay 9 s n ls kids)) ∧ Below w.heap.size w w':=by
 have HV:=zH hv
 obtain ⟨A,cap,rfl,-,-⟩:=hv
 obtain ⟨ANS,hA⟩ : ∃ x,ay 9 s n ls kids = x:=⟨_,rfl⟩
 rw [hA]
 have HS:=zH hs; clear hs
 obtain ⟨L,hL⟩ : ∃ L,ls.length = L:=⟨_,rfl⟩
 have HL:=zH hL
 obtain ⟨B,hB⟩ : ∃ x,aJ ls = x:=⟨_,rfl⟩
 have HB:=zH hB
 unfold ay at hA
 rw [hL,hB] at hA
 have HA:=zH hA
 rw [hL] at hl HV ⊢; clear hL hA hB
 obtain ⟨C,hC⟩ : ∃ x,isVar n = x:=⟨_,rfl⟩
 have HC:=zH hC; clear hC
 cases C
 all_goals
  go_enter Tryz.func65,Tryz.ntmps65
  go_wp2_with (go_at_call 102; go_must (refine (zS n _ hn).mono ?_; rw [HC.out]; rintro e w1 ⟨rfl,hb1⟩; obtain ⟨hc1,hf1,hz1⟩:=AV hb1))
  all_goals
   go_ret
   refine ⟨ax ?_,by first | (exact chain (by go_grown) hb1) | go_grown⟩
   rw [← HA.out]
   have hC:=HC.out
   first | (simp [aA, *]; done) | (simp [aA, *]; omega) | (rw [Bool.eq_iff_iff]; simp [aA, *]; done) | (rw [Bool.eq_iff_iff]; simp [aA, *]; omega) | (rw [lG hl hk]; simp [aA, *]; done)
theorem part_o (k : Int) (h1 : k ≠ 1) (h2 : k ≠ 2) (h3 : k ≠ 3) (h4 : k ≠ 4) (h5 : k ≠ 5) (h6 : k ≠ 6) (h7 : k ≠ 7) (h8 : k ≠ 8) (h9 : k ≠ 9) (s : Int) (n : Str) (ls : List Str) (kids : Nat) (lv : Value) (A' : Option Addr) (cap' : Nat) (w : World) (hn : n.length ≤ 9223372036854775807) (hl : ls.length ≤ 9223372036854775807) (hs : ∀ s ∈ ls,s.length ≤ 9223372036854775807) (hk : kids ≤ 9223372036854775807) (hv : aF w lv ls) :
  Calls Tryz.prog 65 #[.agg #[.int .i64 k,.int .i64 s,.string ⟨n.toArray⟩,lv,.slice A' kids cap']] w fun e w' => e = .returned (.bool (ay k s n ls kids)) ∧ Below w.heap.size w w':=by
 have HV:=zH hv
 obtain ⟨A,cap,rfl,-,-⟩:=hv
 obtain ⟨ANS,hA⟩ : ∃ x,ay k s n ls kids = x:=⟨_,rfl⟩
 rw [hA]
 have HS:=zH hs; clear hs
 obtain ⟨L,hL⟩ : ∃ L,ls.length = L:=⟨_,rfl⟩
 have HL:=zH hL
 obtain ⟨B,hB⟩ : ∃ x,aJ ls = x:=⟨_,rfl⟩
 have HB:=zH hB
 unfold ay at hA
 rw [hL,hB] at hA
 have HA:=zH hA
 rw [hL] at hl HV ⊢; clear hL hA hB
 go_enter Tryz.func65,Tryz.ntmps65
 go_wp2_with fail
 all_goals
  go_ret
  refine ⟨ax ?_,by go_grown⟩
  rw [← HA.out]
  first | (simp [aA, *]; done) | (simp [aA, *]; omega) | (rw [Bool.eq_iff_iff]; simp [aA, *]; done) | (rw [Bool.eq_iff_iff]; simp [aA, *]; omega) | (rw [lG hl hk]; simp [aA, *]; done)
theorem sF (t : Ty) (v : Value) (w : World) (hv : ny w v t) (hf : Fit t) :
  Calls Tryz.prog 114 #[v] w fun e w' => e = .returned (.bool (ay t.kind t.sort t.name t.labels t.kids.length)) ∧ Below w.heap.size w w':=by
 obtain ⟨lv,kv,rfl,h1,A,cap,rfl,-,-⟩:=hv
 obtain ⟨f1,f2,f3,f4,-⟩:=hf.parts
 unfold maxLen at f1 f2 f3 f4
 obtain ⟨k,s,n,ls,ks⟩:=t
 simp only [Ty.kind,Ty.sort,Ty.name,Ty.labels,Ty.kids] at *
 by_cases h : k = 1
 ·subst h; exact shaped_1 s n ls ks.length lv A cap w f1 f2 f3 f4 h1
 by_cases h2 : k = 2
 ·subst h2; exact shaped_2 s n ls ks.length lv A cap w f1 f2 f3 f4 h1
 by_cases h3 : k = 3
 ·subst h3; exact shaped_3 s n ls ks.length lv A cap w f1 f2 f3 f4 h1
 by_cases h4 : k = 4
 ·subst h4; exact shaped_4 s n ls ks.length lv A cap w f1 f2 f3 f4 h1
 by_cases h5 : k = 5
 ·subst h5; exact shaped_5 s n ls ks.length lv A cap w f1 f2 f3 f4 h1
 by_cases h6 : k = 6
 ·subst h6; exact shaped_6 s n ls ks.length lv A cap w f1 f2 f3 f4 h1
 by_cases h7 : k = 7
 ·subst h7; exact shaped_7 s n ls ks.length lv A cap w f1 f2 f3 f4 h1
 by_cases h8 : k = 8
 ·subst h8; exact shaped_8 s n ls ks.length lv A cap w f1 f2 f3 f4 h1
 by_cases h9 : k = 9
 ·subst h9; exact shaped_9 s n ls ks.length lv A cap w f1 f2 f3 f4 h1
 exact shaped_o k h h2 h3 h4 h5 h6 h7 h8 h9 s n ls ks.length lv A cap w f1 f2 f3 f4 h1

theorem part_any (t : Ty) (v : Value) (w : World) (hv : ny w v t) (hf : Fit t) :
  Calls Tryz.prog 65 #[v] w fun e w' => e = .returned (.bool (ay t.kind t.sort t.name t.labels t.kids.length)) ∧ Below w.heap.size w w':=by
 obtain ⟨lv,kv,rfl,h1,A,cap,rfl,-,-⟩:=hv
 obtain ⟨f1,f2,f3,f4,-⟩:=hf.parts
 unfold maxLen at f1 f2 f3 f4
 obtain ⟨k,s,n,ls,ks⟩:=t
 simp only [Ty.kind,Ty.sort,Ty.name,Ty.labels,Ty.kids] at *
 by_cases h : k = 1
 ·subst h; exact part_1 s n ls ks.length lv A cap w f1 f2 f3 f4 h1
 by_cases h2 : k = 2
 ·subst h2; exact part_2 s n ls ks.length lv A cap w f1 f2 f3 f4 h1
 by_cases h3 : k = 3
 ·subst h3; exact part_3 s n ls ks.length lv A cap w f1 f2 f3 f4 h1
 by_cases h4 : k = 4
 ·subst h4; exact part_4 s n ls ks.length lv A cap w f1 f2 f3 f4 h1
 by_cases h5 : k = 5
 ·subst h5; exact part_5 s n ls ks.length lv A cap w f1 f2 f3 f4 h1
 by_cases h6 : k = 6
 ·subst h6; exact part_6 s n ls ks.length lv A cap w f1 f2 f3 f4 h1
 by_cases h7 : k = 7
 ·subst h7; exact part_7 s n ls ks.length lv A cap w f1 f2 f3 f4 h1
 by_cases h8 : k = 8
 ·subst h8; exact part_8 s n ls ks.length lv A cap w f1 f2 f3 f4 h1
 by_cases h9 : k = 9
 ·subst h9; exact part_9 s n ls ks.length lv A cap w f1 f2 f3 f4 h1
 exact part_o k h h2 h3 h4 h5 h6 h7 h8 h9 s n ls ks.length lv A cap w f1 f2 f3 f4 h1
mutual
def bottom : Ty → Ty
 | .mk k s n ls ks => if k = 8 ∧ ks.length = 1 then bottomF ks else .mk k s n ls ks
def bottomF : List Ty → Ty
 | [] => .mk 0 0 [] [] []
 | t :: _ => bottom t
end
mutual
def chk : Ty → List Str → Int → Int × Int
 | .mk k s n ls ks,bound,left =>
  if left - 1 < 0 then (2,left - 1)
  else if ay k s n ls ks.length = false then (1,left - 1)
  else if k = 9 then (if n ∈ bound then dR ks bound (left - 1) else (4,left - 1))
  else if k = 8 then (if (bottom (.mk k s n ls ks)).kind = 9 then (7,left - 1) else dR ks (bound ++ [n]) (left - 1))
  else dR ks bound (left - 1)
def dR : List Ty → List Str → Int → Int × Int
 | [],_,left => (0,left)
 | k :: r,bound,left => if (chk k bound left).1 ≠ 0 then chk k bound left else dR r bound (chk k bound left).2
end
def nM : Nat → List (Ty × List Str) → Int
 | _,[] => 0
 | 0,_ :: _ => 2
 | m + 1,(t,b) :: rest =>
  if ay t.kind t.sort t.name t.labels t.kids.length = false then 1
  else if t.kind = 9 ∧ ¬ t.name ∈ b then 4
  else if t.kind = 8 then (if (bottom t).kind = 9 then 7 else nM m ((t.kids.map fun c => (c,b ++ [t.name])) ++ rest))
  else nM m ((t.kids.map fun c => (c,b)) ++ rest)
def pg (t : Ty) : Int:=(chk t [] 60).1

def Agree (m : Nat) (x : Int × Int) (stack rest : List (Ty × List Str)) : Prop :=
 (x.1 ≠ 0 → nM m stack = x.1) ∧ (x.1 = 0 → ∃ j : Nat,x.2 = j ∧ nM m stack = nM j rest)

mutual
theorem agree : ∀ (t : Ty) (b : List Str) (rest : List (Ty × List Str)) (m : Nat),Agree m (chk t b m) ((t,b) :: rest) rest
 | .mk k s n ls ks,b,rest,m => by
  cases m with
  | zero => simp [Agree,chk,nM]
  | succ m =>
   have hm : ((m + 1 : Nat) : Int) - 1 = (m : Int):=by omega
   have h0 : ¬ (m : Int) < 0:=by omega
   have hc : nM (m + 1) ((.mk k s n ls ks,b) :: rest) = (if ay k s n ls ks.length = false then 1 else if k = 9 ∧ ¬ n ∈ b then 4 else if k = 8 then (if (bottom (.mk k s n ls ks)).kind = 9 then 7 else nM m ((ks.map fun c => (c,b ++ [n])) ++ rest)) else nM m ((ks.map fun c => (c,b)) ++ rest)):=rfl
   have h4:=Af ks b rest m
   have h5:=Af ks (b ++ [n]) rest m
   unfold Agree at h4 h5 ⊢
   rw [hc]
   simp only [chk]
   rw [hm,if_neg h0]
   by_cases h1 : ay k s n ls ks.length = false
   ·rw [if_pos h1,if_pos h1]; simp
   rw [if_neg h1,if_neg h1]
   by_cases h9 : k = 9
   ·by_cases hb : n ∈ b
    ·rw [if_pos h9,if_pos hb,if_neg (fun h : k = 9 ∧ ¬ n ∈ b => h.2 hb),if_neg (by omega)]; exact h4
    ·rw [if_pos h9,if_neg hb,if_pos ⟨h9,hb⟩]; simp
   ·rw [if_neg h9,if_neg (fun h : k = 9 ∧ ¬ n ∈ b => h9 h.1)]
    by_cases h8 : k = 8
    ·rw [if_pos h8,if_pos h8]
     by_cases hq : (bottom (.mk k s n ls ks)).kind = 9
     ·rw [if_pos hq,if_pos hq]; simp
     ·rw [if_neg hq,if_neg hq]; exact h5
    ·rw [if_neg h8,if_neg h8]; exact h4
theorem Af : ∀ (ks : List Ty) (b : List Str) (rest : List (Ty × List Str)) (m : Nat),Agree m (dR ks b m) ((ks.map fun c => (c,b)) ++ rest) rest
 | [],b,rest,m => ⟨fun h => absurd rfl h,fun _ => ⟨m,rfl,rfl⟩⟩
 | k :: r,b,rest,m => by
  have h1:=agree k b ((r.map fun c => (c,b)) ++ rest) m
  simp only [dR,List.map_cons,List.cons_append]
  by_cases he : (chk k b m).1 = 0
  ·obtain ⟨j,hj,hl⟩:=h1.2 he
   have h2:=Af r b rest j
   simp only [he,ne_eq,not_true,if_false,hj]
   refine ⟨fun h => by rw [hl]; exact h2.1 h,fun h => ?_⟩
   obtain ⟨i,hi,hl2⟩:=h2.2 h
   exact ⟨i,hi,by rw [hl,hl2]⟩
  ·simp only [if_pos he]
   exact ⟨fun _ => h1.1 he,fun h => absurd h he⟩
end
theorem tyErr_list (t : Ty) : nM 60 [(t,[])] = pg t:=by
 have:=agree t [] [] 60
 unfold pg
 by_cases h : (chk t [] (60 : Nat)).1 = 0
 ·obtain ⟨j,-,hl⟩:=this.2 h
  rw [hl]
  cases j <;> exact h.symm
 ·exact this.1 h
inductive Good : Ty → Prop where
 | mk (k s : Int) (n : Str) (ls : List Str) (ks : List Ty) (h : ay k s n ls ks.length = true) (hk : ∀ t ∈ ks,Good t) : Good (.mk k s n ls ks)

mutual
theorem vN : ∀ (t : Ty) (b : List Str) (left : Int),(chk t b left).1 = 0 → Good t
 | .mk k s n ls ks,b,left,h => by
  simp only [chk] at h
  by_cases h1 : left - 1 < 0
  ·rw [if_pos h1] at h; simp at h
  rw [if_neg h1] at h
  by_cases h2 : ay k s n ls ks.length = false
  ·rw [if_pos h2] at h; simp at h
  rw [if_neg h2] at h
  refine .mk k s n ls ks (by simpa using h2) ?_
  by_cases h9 : k = 9
  ·rw [if_pos h9] at h
   by_cases hb : n ∈ b
   ·rw [if_pos hb] at h; exact yl ks _ _ h
   ·rw [if_neg hb] at h; simp at h
  rw [if_neg h9] at h
  by_cases h8 : k = 8
  ·rw [if_pos h8] at h
   by_cases hq : (bottom (.mk k s n ls ks)).kind = 9
   ·rw [if_pos hq] at h; simp at h
   ·rw [if_neg hq] at h; exact yl ks _ _ h
  ·rw [if_neg h8] at h; exact yl ks _ _ h
theorem yl : ∀ (ks : List Ty) (b : List Str) (left : Int),(dR ks b left).1 = 0 → ∀ t ∈ ks,Good t
 | [],_,_,_ => by simp
 | k :: r,b,left,h => by
  simp only [dR] at h
  by_cases h1 : (chk k b left).1 = 0
  ·rw [if_neg (by simpa using h1)] at h
   have g1:=vN k b left h1
   have g2:=yl r b _ h
   intro t ht
   rcases List.mem_cons.1 ht with e | ht
   ·rw [e]; exact g1
   ·exact g2 t ht
  ·rw [if_pos h1] at h; exact absurd h h1
end

theorem Good.shape {t : Ty} (h : Good t) : ay t.kind t.sort t.name t.labels t.kids.length = true:=by cases h; assumption
theorem Good.kid {t : Ty} (h : Good t) : ∀ k ∈ t.kids,Good k:=by cases h; assumption

theorem okFrom_names : ∀ {l : List Str} {p : Option Str},oq p l = true → ∀ s ∈ l,ah s = true:=by
 intro l
 induction l with
 | nil => intro p _ s hs; simp at hs
 | cons x r ih =>
  intro p h s hs
  simp only [oq,Bool.and_eq_true] at h
  rcases List.mem_cons.1 hs with rfl | hs
  ·exact h.1.1
  ·exact ih h.2 s hs
theorem pM {s : Str} (h : ah s = true) : 1 ≤ s.length ∧ s.length ≤ 8:=by
 simp only [ah,small,Bool.and_eq_true,decide_eq_true_eq] at h
 exact ⟨h.1.1.2,h.1.2⟩
theorem wC {s : Str} (h : isVar s = true) : 1 ≤ s.length ∧ s.length ≤ 8:=by
 simp only [isVar,Bool.and_eq_true] at h
 exact pM h.1
theorem rE {l : List Str} (h : aJ l = true) : 1 ≤ l.length ∧ l.length ≤ 6 ∧ ∀ s ∈ l,s.length ≤ 8:=by
 simp only [aJ,Bool.and_eq_true,decide_eq_true_eq] at h
 exact ⟨h.1.2,h.2,fun s hs => (pM (okFrom_names h.1.1 s hs)).2⟩

inductive Shape : Int → Int → Str → List Str → Nat → Prop where
 | fin : Shape 1 0 [] [] 0
 | value (k s : Int) (hk : k = 2 ∨ k = 3) (h1 : 1 ≤ s) (h3 : s ≤ 3) : Shape k s [] [] 1
 | channel (k : Int) (hk : k = 4 ∨ k = 5) : Shape k 0 [] [] 2
 | choice (k : Int) (hk : k = 6 ∨ k = 7) (ls : List Str) (h : aJ ls = true) : Shape k 0 [] ls ls.length
 | loop (n : Str) (h : isVar n = true) : Shape 8 0 n [] 1
 | var (n : Str) (h : isVar n = true) : Shape 9 0 n [] 0

theorem qy {k s : Int} {n : Str} {ls : List Str} {c : Nat} (h : ay k s n ls c = true) : Shape k s n ls c:=by
 unfold ay aA at h
 by_cases h1 : k = 1
 ·simp only [h1,if_true,Bool.and_eq_true,decide_eq_true_eq,List.isEmpty_iff,List.length_eq_zero_iff] at h
  obtain ⟨⟨⟨rfl,rfl⟩,rfl⟩,rfl⟩:=h
  subst h1; exact .fin
 rw [if_neg h1] at h
 by_cases h2 : k = 2 ∨ k = 3
 ·simp only [if_pos h2,Bool.and_eq_true,decide_eq_true_eq,List.isEmpty_iff,List.length_eq_zero_iff] at h
  obtain ⟨⟨⟨⟨ha,hb⟩,rfl⟩,rfl⟩,rfl⟩:=h
  exact .value k s h2 ha hb
 rw [if_neg h2] at h
 by_cases h4 : k = 4 ∨ k = 5
 ·simp only [if_pos h4,Bool.and_eq_true,decide_eq_true_eq,List.isEmpty_iff,List.length_eq_zero_iff] at h
  obtain ⟨⟨⟨rfl,rfl⟩,rfl⟩,rfl⟩:=h
  exact .channel k h4
 rw [if_neg h4] at h
 by_cases h6 : k = 6 ∨ k = 7
 ·simp only [if_pos h6,Bool.and_eq_true,decide_eq_true_eq,List.isEmpty_iff] at h
  obtain ⟨⟨⟨rfl,rfl⟩,hl⟩,rfl⟩:=h
  exact .choice k h6 ls hl
 rw [if_neg h6] at h
 by_cases h8 : k = 8
 ·simp only [if_pos h8,Bool.and_eq_true,decide_eq_true_eq,List.length_eq_zero_iff] at h
  obtain ⟨⟨⟨rfl,hn⟩,rfl⟩,rfl⟩:=h
  subst h8; exact .loop n hn
 rw [if_neg h8] at h
 by_cases h9 : k = 9
 ·simp only [if_pos h9,Bool.and_eq_true,decide_eq_true_eq,List.length_eq_zero_iff] at h
  obtain ⟨⟨⟨rfl,hn⟩,rfl⟩,rfl⟩:=h
  subst h9; exact .var n hn
 rw [if_neg h9] at h
 cases h

theorem Shape.small {k s : Int} {n : Str} {ls : List Str} {c : Nat} (h : Shape k s n ls c) : n.length ≤ 8 ∧ ls.length ≤ 6 ∧ (∀ l ∈ ls,l.length ≤ 8) ∧ c ≤ 6 ∧ 1 ≤ k ∧ k ≤ 9 ∧ 0 ≤ s ∧ s ≤ 3:=by
 cases h with
 | fin => simp
 | value k s hk h1 h3 => refine ⟨by simp,by simp,by simp,by omega,?_,?_,by omega,by omega⟩ <;> omega
 | channel k hk => refine ⟨by simp,by simp,by simp,by omega,?_,?_,by omega,by omega⟩ <;> omega
 | choice k hk ls h =>
  obtain ⟨h1,h2,h3⟩:=rE h
  refine ⟨by simp,h2,h3,by omega,?_,?_,by omega,by omega⟩ <;> omega
 | loop n h => exact ⟨(wC h).2,by simp,by simp,by omega,by omega,by omega,by omega,by omega⟩
 | var n h => exact ⟨(wC h).2,by simp,by simp,by omega,by omega,by omega,by omega,by omega⟩

theorem Good.small {t : Ty} (h : Good t) : t.name.length ≤ 8 ∧ t.labels.length ≤ 6 ∧ (∀ l ∈ t.labels,l.length ≤ 8) ∧ t.kids.length ≤ 6 :=
 let h:=(qy h.shape).small; ⟨h.1,h.2.1,h.2.2.1,h.2.2.2.1⟩

theorem Good.named {t : Ty} (h : Good t) (hk : t.kind = 8 ∨ t.kind = 9) : t.name ≠ []:=by
 have hs:=qy h.shape
 have : isVar t.name = true:=by
  cases t with
  | mk k s n ls ks =>
   simp only [Ty.kind,Ty.sort,Ty.name,Ty.labels,Ty.kids] at hs hk ⊢
   obtain ⟨c,hc⟩ : ∃ c,ks.length = c:=⟨_,rfl⟩
   rw [hc] at hs
   clear hc h
   cases hs with
   | fin => omega
   | value _ _ hk' => omega
   | channel _ hk' => omega
   | choice _ hk' => omega
   | loop _ h => exact h
   | var _ h => exact h
 intro h0
 have:=(wC this).1
 rw [h0] at this
 simp at this


def pX (s : Int) : Str:=if s = 1 then [105,110,116] else if s = 2 then [98,111,111,108] else if s = 3 then [116,101,120,116] else []
def pairs : List Str → List Str → List Str
 | [],_ => []
 | _,[] => []
 | l :: ls,t :: ts => (l ++ [58] ++ t) :: pairs ls ts
def joined : List Str → Str
 | [] => []
 | [a] => a
 | a :: b :: r => a ++ [44] ++ joined (b :: r)
mutual
def txt : Ty → Str
 | .mk k s n ls ks => qJ k s n ls (sG ks)
def sG : List Ty → List Str
 | [] => []
 | t :: r => txt t :: sG r
def qJ (k s : Int) (n : Str) (ls : List Str) (ts : List Str) : Str :=
 if k = 1 then [101,110,100]
 else if k = 2 then [33] ++ pX s ++ [46] ++ ts.getD 0 []
 else if k = 3 then [63] ++ pX s ++ [46] ++ ts.getD 0 []
 else if k = 4 then [33,123] ++ ts.getD 0 [] ++ [125,46] ++ ts.getD 1 []
 else if k = 5 then [63,123] ++ ts.getD 0 [] ++ [125,46] ++ ts.getD 1 []
 else if k = 6 then [43,123] ++ joined (pairs ls ts) ++ [125]
 else if k = 7 then [38,123] ++ joined (pairs ls ts) ++ [125]
 else if k = 8 then [114,101,99,32] ++ n ++ [46] ++ ts.getD 0 []
 else if k = 9 then n
 else []
end
mutual
def parts : Ty → Nat
 | .mk _ _ _ _ ks => 1 + pO ks
def pO : List Ty → Nat
 | [] => 0
 | t :: r => parts t + pO r
end
mutual
theorem qV : ∀ (t : Ty) (b : List Str) (left : Int),(chk t b left).1 = 0 → (chk t b left).2 = left - parts t ∧ 0 ≤ (chk t b left).2
 | .mk k s n ls ks,b,left,h => by
  simp only [chk] at h ⊢
  by_cases h1 : left - 1 < 0
  ·rw [if_pos h1] at h; simp at h
  rw [if_neg h1] at h ⊢
  by_cases h2 : ay k s n ls ks.length = false
  ·rw [if_pos h2] at h; simp at h
  rw [if_neg h2] at h ⊢
  have fin : ∀ b',(dR ks b' (left - 1)).1 = 0 → (dR ks b' (left - 1)).2 = left - parts (.mk k s n ls ks) ∧ 0 ≤ (dR ks b' (left - 1)).2:=by
   intro b' h'
   obtain ⟨e1,e2⟩:=yD ks b' (left - 1) (by omega) h'
   refine ⟨?_,e2⟩
   rw [e1]; simp only [parts]; omega
  by_cases h9 : k = 9
  ·rw [if_pos h9] at h ⊢
   by_cases hb : n ∈ b
   ·rw [if_pos hb] at h ⊢; exact fin _ h
   ·rw [if_neg hb] at h; simp at h
  rw [if_neg h9] at h ⊢
  by_cases h8 : k = 8
  ·rw [if_pos h8] at h ⊢
   by_cases hq : (bottom (.mk k s n ls ks)).kind = 9
   ·rw [if_pos hq] at h; simp at h
   ·rw [if_neg hq] at h ⊢; exact fin _ h
  ·rw [if_neg h8] at h ⊢; exact fin _ h
theorem yD : ∀ (ks : List Ty) (b : List Str) (left : Int),0 ≤ left → (dR ks b left).1 = 0 → (dR ks b left).2 = left - pO ks ∧ 0 ≤ (dR ks b left).2
 | [],_,left,h0,_ => by simp [dR,pO,h0]
 | k :: r,b,left,h0,h => by
  simp only [dR] at h ⊢
  by_cases h1 : (chk k b left).1 = 0
  ·rw [if_neg (by simpa using h1)] at h ⊢
   obtain ⟨e1,e2⟩:=qV k b left h1
   obtain ⟨e3,e4⟩:=yD r b _ e2 h
   refine ⟨?_,e4⟩
   rw [e3,e1]; simp only [pO]; omega
  ·rw [if_pos h1] at h; exact absurd h h1
end
theorem Di {t : Ty} (h : pg t = 0) : parts t ≤ 60:=by
 obtain ⟨h1,h2⟩:=qV t [] 60 h
 omega

theorem rO (s : Int) : (pX s).length ≤ 4:=by
 unfold pX; repeat' split
 all_goals simp
def total : List Str → Nat
 | [] => 0
 | s :: r => s.length + total r
theorem CJ (l : List Str) (i : Nat) : (l.getD i []).length ≤ total l:=by
 induction l generalizing i with
 | nil => simp
 | cons x r ih =>
  cases i with
  | zero => simp [total]
  | succ i => have:=ih i; simp only [List.getD_cons_succ,total]; omega
theorem getD_two (l : List Str) : (l.getD 0 []).length + (l.getD 1 []).length ≤ total l:=by
 cases l with
 | nil => simp
 | cons x r => have:=CJ r 0; simp only [List.getD_cons_zero,List.getD_cons_succ,total]; omega
theorem CY : ∀ (l : List Str),(joined l).length ≤ total l + l.length
 | [] => by simp [joined]
 | [a] => by simp [joined,total]
 | a :: b :: r => by
  have:=CY (b :: r)
  simp only [joined,total,zG,zJ,zK] at this ⊢
  omega
theorem Bc : ∀ (ls ts : List Str),(∀ l ∈ ls,l.length ≤ 8) → total (pairs ls ts) ≤ total ts + 9 * ls.length ∧ (pairs ls ts).length ≤ ls.length
 | [],_,_ => by simp [pairs,total]
 | _ :: _,[],_ => by simp [pairs,total]
 | l :: ls,t :: ts,h => by
  obtain ⟨h1,h2⟩:=Bc ls ts fun x hx => h x (by simp [hx])
  have:=h l (by simp)
  simp only [pairs,total,zG,zJ,zK] at h1 h2 ⊢
  omega
theorem txtOf_len {k s : Int} {n : Str} {ls ts : List Str} (hn : n.length ≤ 8) (hl : ls.length ≤ 6) (hls : ∀ l ∈ ls,l.length ≤ 8) : (qJ k s n ls ts).length ≤ 100 + total ts:=by
 have h1:=rO s
 have h2:=CJ ts 0
 have h3:=getD_two ts
 have h4:=CY (pairs ls ts)
 obtain ⟨h5,h6⟩:=Bc ls ts hls
 unfold qJ
 repeat' split
 all_goals (try simp only [zG,zJ,zK])
 all_goals omega
mutual
theorem lH : ∀ t : Ty,Good t → (txt t).length ≤ 100 * parts t
 | .mk k s n ls ks,h => by
  obtain ⟨h1,h2,h3,-⟩:=h.small
  have h4:=F8 ks h.kid
  have:=txtOf_len (k:=k) (s:=s) (ts:=sG ks) h1 h2 h3
  simp only [txt,parts,Ty.name,Ty.labels] at *
  omega
theorem F8 : ∀ ks : List Ty,(∀ t ∈ ks,Good t) → total (sG ks) ≤ 100 * pO ks
 | [],_ => by simp [sG,total]
 | t :: r,h => by
  have h1:=lH t (h t (by simp))
  have h2:=F8 r fun k hk => h k (by simp [hk])
  simp only [sG,total,pO]
  omega
end
theorem uJ : ∀ ks : List Ty,(sG ks).length = ks.length
 | [] => rfl
 | t :: r => by simp [sG,uJ r]
theorem zW : ∀ {ks : List Ty} {i : Nat} {t : Ty},ks[i]? = some t → (sG ks)[i]? = some (txt t)
 | [],i,t,h => by simp at h
 | k :: r,0,t,h => by simp at h; subst h; rfl
 | k :: r,i + 1,t,h => by simp only [sG,List.getElem?_cons_succ] at h ⊢; exact zW h
theorem pV : ∀ {ks : List Ty} {t : Ty},t ∈ ks → parts t ≤ pO ks
 | [],t,h => by simp at h
 | k :: r,t,h => by
  simp only [pO]
  rcases List.mem_cons.1 h with rfl | h
  ·omega
  ·have:=pV h; omega
theorem A8 : ∀ (l : List Str) (a : Str),l ≠ [] → joined (l ++ [a]) = joined l ++ [44] ++ a
 | [],_,h => absurd rfl h
 | [x],a,_ => by simp [joined]
 | x :: y :: r,a,_ => by
  have:=A8 (y :: r) a (by simp)
  simp only [List.cons_append,joined] at this ⊢
  rw [this]
  simp
end Go.Proofs.YtpidjanngbaiiaaGreatDoor
namespace Go.Proofs.YtpidjanngbaiiaaGreatDoor
open Go.RowKit Go.Proofs
set_option maxRecDepth 100000
set_option maxHeartbeats 32000000

section
variable {P : Program} {ops : Array Oper} {rest : List Oper} {o : Oper} {a : Act} {Q : Exit → Act → World → Prop} {w : World}
end

inductive qE (w : World) : List Value → List Ty → Prop where
 | nil : qE w [] []
 | cons (t : Ty) (lv kv : Value) (xs : List Value) (ts : List Ty) (h1 : aF w lv t.labels) (h2 : qg w kv t.kids) (h : qE w xs ts) :
   qE w (.int .i64 t.kind :: .int .i64 t.sort :: .string ⟨t.name.toArray⟩ :: lv :: kv :: xs) (t :: ts)
theorem qE.length {w : World} {xs : List Value} {ts : List Ty} (h : qE w xs ts) : xs.length = ts.length * 5:=by
 induction h with
 | nil => rfl
 | cons => simp only [List.length_cons]; omega
theorem qE.append {w : World} {xs ys : List Value} {ts us : List Ty} (h : qE w xs ts) (h' : qE w ys us) : qE w (xs ++ ys) (ts ++ us):=by
 induction h with
 | nil => exact h'
 | cons t lv kv xs ts h1 h2 _ ih => exact .cons t lv kv _ _ h1 h2 ih
theorem qE.keep {w w' : World} {xs : List Value} {ts : List Ty} (h : qE w xs ts) (hb : Below w.heap.size w w') : qE w' xs ts:=by
 induction h with
 | nil => exact .nil
 | cons t lv kv xs ts h1 h2 _ ih => exact .cons t lv kv _ _ (h1.keep hb) (h2.keep hb) ih
theorem qg.one {w : World} {v : Value} {l : List Ty} (h : qg w v l) : v.oneCell' = true:=by obtain ⟨A,cap,rfl,_⟩:=h; rfl
theorem qE.one {w : World} {xs : List Value} {ts : List Ty} (h : qE w xs ts) : ∀ u ∈ xs,u.oneCell' = true:=by
 induction h with
 | nil => simp
 | cons t lv kv xs ts h1 h2 _ ih =>
  intro u hu
  simp only [List.mem_cons] at hu
  rcases hu with rfl | rfl | rfl | rfl | rfl | hu
  ·rfl
  ·rfl
  ·rfl
  ·exact h1.one
  ·exact h2.one
  ·exact ih u hu
theorem qE.row {w : World} {b : Nat} {xs : List Value} {ts : List Ty} (h : qE w xs ts) : ∀ (off : Nat),(∀ j u,xs[j]? = some u → w.cell? ⟨b,off + j,none⟩ = some u) → qU w b off ts:=by
 induction h with
 | nil => intro off _; simp [qU]
 | cons t lv kv xs ts h1 h2 _ ih =>
  intro off hc
  refine ⟨(xq _ _ _ _).2 ⟨lv,kv,hc 0 _ rfl,hc 1 _ rfl,hc 2 _ rfl,hc 3 _ rfl,hc 4 _ rfl,h1,h2⟩,ih (off + 5) fun j u hj => ?_⟩
  have:=hc (j + 5) u (by simpa using hj)
  rw [show off + 5 + j = off + (j + 5) by omega]
  exact this
theorem nT {w : World} {A : Option Addr} {n cap : Nat} {ks : List Ty} {i : Nat} {t : Ty} (h : qg w (.slice A n cap) ks) (hi : ks[i]? = some t) :
  n = ks.length ∧ n ≤ cap ∧ ∃ b off A1 n1 p1 A2 n2 p2,A = some ⟨b,off,none⟩ ∧ w.cell? ⟨b,off + i * 5,none⟩ = some (.int .i64 t.kind) ∧ w.cell? ⟨b,off + i * 5 + 1,none⟩ = some (.int .i64 t.sort) ∧ w.cell? ⟨b,off + i * 5 + 2,none⟩ = some (.string ⟨t.name.toArray⟩) ∧
   w.cell? ⟨b,off + i * 5 + 3,none⟩ = some (.slice A1 n1 p1) ∧ w.cell? ⟨b,off + i * 5 + 4,none⟩ = some (.slice A2 n2 p2) ∧ aF w (.slice A1 n1 p1) t.labels ∧ qg w (.slice A2 n2 p2) t.kids:=by
 obtain ⟨A',cap',e,hle,h3⟩:=h
 injection e with e1 e2 e3
 subst e1 e2 e3
 have hlt:=(List.getElem?_eq_some_iff.1 hi).1
 obtain ⟨b,off,rfl,hr⟩:=h3 (by omega)
 obtain ⟨lv,kv,c0,c1,c2,c3,c4,h5,h6⟩:=(xq _ _ _ _).1 (TyRow_at hr hi)
 have h5':=h5
 have h6':=h6
 obtain ⟨A1,p1,rfl,_⟩:=h5
 obtain ⟨A2,p2,rfl,_⟩:=h6
 exact ⟨rfl,hle,b,off,A1,_,p1,A2,_,p2,rfl,c0,c1,c2,c3,c4,h5',h6'⟩
theorem mJ {w : World} {t : Ty} {lv kv : Value} (h1 : aF w lv t.labels) (h2 : qg w kv t.kids) : ny w (.agg #[.int .i64 t.kind,.int .i64 t.sort,.string ⟨t.name.toArray⟩,lv,kv]) t:=⟨lv,kv,rfl,h1,h2⟩
end Go.Proofs.YtpidjanngbaiiaaGreatDoor
namespace Go.Proofs.YtpidjanngbaiiaaGreatDoor
open Go.RowKit Go.Proofs
set_option maxRecDepth 100000
set_option maxHeartbeats 32000000

mutual
def xm (D : aj) (w : World) (b off : Nat) : Ty → Prop
 | .mk k s n ls ks => ∃ lv kv,w.cell? ⟨b,off,none⟩ = some (.int .i64 k) ∧ w.cell? ⟨b,off + 1,none⟩ = some (.int .i64 s) ∧ w.cell? ⟨b,off + 2,none⟩ = some (.string ⟨n.toArray⟩) ∧ w.cell? ⟨b,off + 3,none⟩ = some lv ∧ w.cell? ⟨b,off + 4,none⟩ = some kv ∧
   bD D w lv ls ∧ ∃ A cap,kv = .slice A ks.length cap ∧ ks.length ≤ cap ∧ (0 < ks.length → ∃ b' off',A = some ⟨b',off',none⟩ ∧ D b' ∧ qG D w b' off' ks)
def qG (D : aj) (w : World) (b off : Nat) : List Ty → Prop
 | [] => True
 | t :: r => xm D w b off t ∧ qG D w b (off + 5) r
end
def qZ (D : aj) (w : World) (v : Value) (ks : List Ty) : Prop:=∃ A cap,v = .slice A ks.length cap ∧ ks.length ≤ cap ∧ (0 < ks.length → ∃ b off,A = some ⟨b,off,none⟩ ∧ D b ∧ qG D w b off ks)
def BC (D : aj) (w : World) (v : Value) (t : Ty) : Prop:=∃ lv kv,v = .agg #[.int .i64 t.kind,.int .i64 t.sort,.string ⟨t.name.toArray⟩,lv,kv] ∧ bD D w lv t.labels ∧ qZ D w kv t.kids

theorem yf (D : aj) (w : World) (b off : Nat) (t : Ty) : xm D w b off t ↔ ∃ lv kv,w.cell? ⟨b,off,none⟩ = some (.int .i64 t.kind) ∧ w.cell? ⟨b,off + 1,none⟩ = some (.int .i64 t.sort) ∧ w.cell? ⟨b,off + 2,none⟩ = some (.string ⟨t.name.toArray⟩) ∧ w.cell? ⟨b,off + 3,none⟩ = some lv ∧ w.cell? ⟨b,off + 4,none⟩ = some kv ∧
  bD D w lv t.labels ∧ qZ D w kv t.kids:=by
 cases t with
 | mk k s n ls ks => simp only [xm,qZ,Ty.kind,Ty.sort,Ty.name,Ty.labels,Ty.kids]
theorem TyRowD_at {D : aj} {w : World} {b : Nat} : ∀ {ks : List Ty} {off i : Nat} {t : Ty},qG D w b off ks → ks[i]? = some t → xm D w b (off + i * 5) t:=by
 intro ks
 induction ks with
 | nil => intro off i t _ h; simp at h
 | cons x r ih =>
  intro off i t h hi
  simp only [qG] at h
  match i,hi with
  | 0,hi => simp at hi; subst hi; simpa using h.1
  | i + 1,hi =>
   have:=ih h.2 (by simpa using hi)
   rw [show off + (i + 1) * 5 = off + 5 + i * 5 by omega]
   exact this

mutual
theorem TyAtD_keep {D D' : aj} {w w' : World} (hs : Same D w w') (hD : ∀ b,D b → b < w.heap.size → D' b) : ∀ {b off : Nat} (t : Ty),D b → xm D w b off t → xm D' w' b off t
 | b,off,.mk k s n ls ks => by
  simp only [xm]
  rintro hd ⟨lv,kv,h0,h1,h2,h3,h4,h5,A,cap,h6,h7,h8⟩
  refine ⟨lv,kv,hs.cell hd h0,hs.cell hd h1,hs.cell hd h2,hs.cell hd h3,hs.cell hd h4,h5.keep hs hD,A,cap,h6,h7,fun h0 => ?_⟩
  obtain ⟨b',off',e,hd',hr⟩:=h8 h0
  refine ⟨b',off',e,hD b' hd' ?_,xu hs hD ks hd' hr⟩
  cases ks with
  | nil => simp at h0
  | cons t r =>
   obtain ⟨hr1,-⟩:=hr
   obtain ⟨_,_,hc,-⟩:=(yf _ _ _ _ _).1 hr1
   exact cell_lt hc
theorem xu {D D' : aj} {w w' : World} (hs : Same D w w') (hD : ∀ b,D b → b < w.heap.size → D' b) : ∀ {b off : Nat} (ks : List Ty),D b → qG D w b off ks → qG D' w' b off ks
 | _,_,[] => by simp [qG]
 | b,off,t :: r => by
  simp only [qG]
  rintro hd ⟨h1,h2⟩
  exact ⟨TyAtD_keep hs hD t hd h1,xu hs hD r hd h2⟩
end
theorem qZ.keep {D D' : aj} {w w' : World} {v : Value} {ks : List Ty} (h : qZ D w v ks) (hs : Same D w w') (hD : ∀ b,D b → b < w.heap.size → D' b) : qZ D' w' v ks:=by
 obtain ⟨A,cap,h1,h2,h3⟩:=h
 refine ⟨A,cap,h1,h2,fun h0 => ?_⟩
 obtain ⟨b,off,e,hd,hr⟩:=h3 h0
 refine ⟨b,off,e,hD b hd ?_,xu hs hD ks hd hr⟩
 cases ks with
 | nil => simp at h0
 | cons t r =>
  obtain ⟨hr1,-⟩:=hr
  obtain ⟨_,_,hc,-⟩:=(yf _ _ _ _ _).1 hr1
  exact cell_lt hc
theorem BC.keep {D D' : aj} {w w' : World} {v : Value} {t : Ty} (h : BC D w v t) (hs : Same D w w') (hD : ∀ b,D b → b < w.heap.size → D' b) : BC D' w' v t:=by
 obtain ⟨lv,kv,h1,h2,h3⟩:=h
 exact ⟨lv,kv,h1,h2.keep hs hD,h3.keep hs hD⟩

mutual
theorem TyAtD_is {D : aj} {w : World} : ∀ {b off : Nat} (t : Ty),xm D w b off t → Bv w b off t
 | b,off,.mk k s n ls ks => by
  simp only [xm,Bv]
  rintro ⟨lv,kv,h0,h1,h2,h3,h4,h5,A,cap,h6,h7,h8⟩
  exact ⟨lv,kv,h0,h1,h2,h3,h4,h5.is,A,cap,h6,h7,fun h0 => let ⟨b',off',e,_,hr⟩:=h8 h0; ⟨b',off',e,Ad ks hr⟩⟩
theorem Ad {D : aj} {w : World} : ∀ {b off : Nat} (ks : List Ty),qG D w b off ks → qU w b off ks
 | _,_,[] => by simp [qU]
 | b,off,t :: r => by
  simp only [qU,qG]
  rintro ⟨h1,h2⟩
  exact ⟨TyAtD_is t h1,Ad r h2⟩
end
theorem qZ.is {D : aj} {w : World} {v : Value} {ks : List Ty} (h : qZ D w v ks) : qg w v ks:=by
 obtain ⟨A,cap,h1,h2,h3⟩:=h
 exact ⟨A,cap,h1,h2,fun h0 => let ⟨b,off,e,_,hr⟩:=h3 h0; ⟨b,off,e,Ad ks hr⟩⟩
theorem BC.is {D : aj} {w : World} {v : Value} {t : Ty} (h : BC D w v t) : ny w v t:=by
 obtain ⟨lv,kv,h1,h2,h3⟩:=h
 exact ⟨lv,kv,h1,h2.is,h3.is⟩
theorem JL {w : World} {b off : Nat} {ks : List Ty} (h0 : 0 < ks.length) (hr : qU w b off ks) : b < w.heap.size:=by
 cases ks with
 | nil => simp at h0
 | cons t r =>
  obtain ⟨hr1,-⟩:=hr
  obtain ⟨_,_,hc,-⟩:=(xq _ _ _ _).1 hr1
  exact cell_lt hc
mutual
theorem TyAt_toD {w : World} : ∀ {b off : Nat} (t : Ty),Bv w b off t → xm (· < w.heap.size) w b off t
 | b,off,.mk k s n ls ks => by
  simp only [xm,Bv]
  rintro ⟨lv,kv,h0,h1,h2,h3,h4,h5,A,cap,h6,h7,h8⟩
  exact ⟨lv,kv,h0,h1,h2,h3,h4,h5.toD,A,cap,h6,h7,fun h0 => let ⟨b',off',e,hr⟩:=h8 h0; ⟨b',off',e,JL h0 hr,Ae ks hr⟩⟩
theorem Ae {w : World} : ∀ {b off : Nat} (ks : List Ty),qU w b off ks → qG (· < w.heap.size) w b off ks
 | _,_,[] => by simp [qG]
 | b,off,t :: r => by
  simp only [qU,qG]
  rintro ⟨h1,h2⟩
  exact ⟨TyAt_toD t h1,Ae r h2⟩
end
theorem ny.toD {w : World} {v : Value} {t : Ty} (h : ny w v t) : BC (· < w.heap.size) w v t:=by
 obtain ⟨lv,kv,h1,h2,A,cap,h3,h4,h5⟩:=h
 exact ⟨lv,kv,h1,h2.toD,A,cap,h3,h4,fun h0 => let ⟨b,off,e,hr⟩:=h5 h0; ⟨b,off,e,JL h0 hr,Ae _ hr⟩⟩

theorem qi {D : aj} {w : World} {A : Option Addr} {n cap : Nat} {ks : List Ty} {i : Nat} {t : Ty} (h : qZ D w (.slice A n cap) ks) (hi : ks[i]? = some t) :
  n = ks.length ∧ n ≤ cap ∧ ∃ b off A1 n1 p1 A2 n2 p2,A = some ⟨b,off,none⟩ ∧ D b ∧ w.cell? ⟨b,off + i * 5,none⟩ = some (.int .i64 t.kind) ∧ w.cell? ⟨b,off + i * 5 + 1,none⟩ = some (.int .i64 t.sort) ∧ w.cell? ⟨b,off + i * 5 + 2,none⟩ = some (.string ⟨t.name.toArray⟩) ∧
   w.cell? ⟨b,off + i * 5 + 3,none⟩ = some (.slice A1 n1 p1) ∧ w.cell? ⟨b,off + i * 5 + 4,none⟩ = some (.slice A2 n2 p2) ∧ bD D w (.slice A1 n1 p1) t.labels ∧ qZ D w (.slice A2 n2 p2) t.kids:=by
 obtain ⟨A',cap',e,hle,h3⟩:=h
 injection e with e1 e2 e3
 subst e1 e2 e3
 have hlt:=(List.getElem?_eq_some_iff.1 hi).1
 obtain ⟨b,off,rfl,hd,hr⟩:=h3 (by omega)
 obtain ⟨lv,kv,c0,c1,c2,c3,c4,h5,h6⟩:=(yf _ _ _ _ _).1 (TyRowD_at hr hi)
 have h5':=h5
 have h6':=h6
 obtain ⟨A1,p1,rfl,_⟩:=h5
 obtain ⟨A2,p2,rfl,_⟩:=h6
 exact ⟨rfl,hle,b,off,A1,_,p1,A2,_,p2,rfl,hd,c0,c1,c2,c3,c4,h5',h6'⟩
theorem vX {D : aj} {w : World} {t : Ty} {lv kv : Value} (h1 : bD D w lv t.labels) (h2 : qZ D w kv t.kids) : BC D w (.agg #[.int .i64 t.kind,.int .i64 t.sort,.string ⟨t.name.toArray⟩,lv,kv]) t:=⟨lv,kv,rfl,h1,h2⟩

inductive qL (D : aj) (w : World) : List Value → List Ty → Prop where
 | nil : qL D w [] []
 | cons (t : Ty) (lv kv : Value) (xs : List Value) (ts : List Ty) (h1 : bD D w lv t.labels) (h2 : qZ D w kv t.kids) (h : qL D w xs ts) :
   qL D w (.int .i64 t.kind :: .int .i64 t.sort :: .string ⟨t.name.toArray⟩ :: lv :: kv :: xs) (t :: ts)
theorem qL.append {D : aj} {w : World} {xs ys : List Value} {ts us : List Ty} (h : qL D w xs ts) (h' : qL D w ys us) : qL D w (xs ++ ys) (ts ++ us):=by
 induction h with
 | nil => exact h'
 | cons t lv kv xs ts h1 h2 _ ih => exact .cons t lv kv _ _ h1 h2 ih
theorem qL.keep {D D' : aj} {w w' : World} {xs : List Value} {ts : List Ty} (h : qL D w xs ts) (hs : Same D w w') (hD : ∀ b,D b → b < w.heap.size → D' b) : qL D' w' xs ts:=by
 induction h with
 | nil => exact .nil
 | cons t lv kv xs ts h1 h2 _ ih => exact .cons t lv kv _ _ (h1.keep hs hD) (h2.keep hs hD) ih
theorem qL.row {D : aj} {w : World} {b : Nat} {xs : List Value} {ts : List Ty} (h : qL D w xs ts) : ∀ (off : Nat),(∀ j u,xs[j]? = some u → w.cell? ⟨b,off + j,none⟩ = some u) → qG D w b off ts:=by
 induction h with
 | nil => intro off _; simp [qG]
 | cons t lv kv xs ts h1 h2 _ ih =>
  intro off hc
  refine ⟨(yf _ _ _ _ _).2 ⟨lv,kv,hc 0 _ rfl,hc 1 _ rfl,hc 2 _ rfl,hc 3 _ rfl,hc 4 _ rfl,h1,h2⟩,ih (off + 5) fun j u hj => ?_⟩
  have:=hc (j + 5) u (by simpa using hj)
  rw [show off + 5 + j = off + (j + 5) by omega]
  exact this
structure pz (w : World) (b : Nat) (t : Ty) (lv kv : Value) : Prop where
 c0 : w.cell? ⟨b,0,none⟩ = some (.int .i64 t.kind)
 c1 : w.cell? ⟨b,1,none⟩ = some (.int .i64 t.sort)
 c2 : w.cell? ⟨b,2,none⟩ = some (.string ⟨t.name.toArray⟩)
 c3 : w.cell? ⟨b,3,none⟩ = some lv
 c4 : w.cell? ⟨b,4,none⟩ = some kv
 fr : ∀ j,w.frozen? ⟨b,j,none⟩ = false
 lt : b < w.heap.size
theorem pz.keep {w w' : World} {b B : Nat} {t : Ty} {lv kv : Value} (h : pz w b t lv kv) (hb : Below B w w') (hB : b < B) : pz w' b t lv kv :=
 ⟨(hb.cell (p:=⟨b,0,none⟩) hB).trans h.c0,(hb.cell (p:=⟨b,1,none⟩) hB).trans h.c1,(hb.cell (p:=⟨b,2,none⟩) hB).trans h.c2,(hb.cell (p:=⟨b,3,none⟩) hB).trans h.c3,(hb.cell (p:=⟨b,4,none⟩) hB).trans h.c4,fun j => (hb.frozen (p:=⟨b,j,none⟩) hB).trans (h.fr j),Nat.lt_of_lt_of_le h.lt hb.size⟩
theorem pz.far {w : World} {b : Nat} {t : Ty} {lv kv : Value} (h : pz w b t lv kv) {p : Addr} (hp : p.block ≠ b) (u : Value) : pz (w.setCell p u) b t lv kv :=
 ⟨(World.cell?_setCell_far w p _ u hp).trans h.c0,(World.cell?_setCell_far w p _ u hp).trans h.c1,(World.cell?_setCell_far w p _ u hp).trans h.c2,(World.cell?_setCell_far w p _ u hp).trans h.c3,(World.cell?_setCell_far w p _ u hp).trans h.c4,fun j => by rw [World.frozen?_setCell]; exact h.fr j,by rw [World.size_setCell]; exact h.lt⟩
theorem pz.set4 {w : World} {b : Nat} {t : Ty} {lv kv : Value} (h : pz w b t lv kv) (u : Value) : pz (w.setCell ⟨b,4,none⟩ u) b t lv u :=
 ⟨(World.cell?_setCell_other w _ _ u (by simp)).trans h.c0,(World.cell?_setCell_other w _ _ u (by simp)).trans h.c1,(World.cell?_setCell_other w _ _ u (by simp)).trans h.c2,(World.cell?_setCell_other w _ _ u (by simp)).trans h.c3,World.cell?_setCell_same' w _ u (by rw [h.c4]; rfl),fun j => by rw [World.frozen?_setCell]; exact h.fr j,by rw [World.size_setCell]; exact h.lt⟩
theorem pz.fill {w : World} {b : Nat} {t0 : Ty} {l0 k0 : Value} (h : pz w b t0 l0 k0) (t : Ty) (lv kv : Value) :
  pz (((((w.setCell ⟨b,0,none⟩ (.int .i64 t.kind)).setCell ⟨b,1,none⟩ (.int .i64 t.sort)).setCell ⟨b,2,none⟩ (.string ⟨t.name.toArray⟩)).setCell ⟨b,3,none⟩ lv).setCell ⟨b,4,none⟩ kv) b t lv kv:=by
 obtain ⟨c0,c1,c2,c3,c4,fr,lt⟩:=h
 have ne : ∀ {i j : Nat} {w : World} {u : Value},i ≠ j → (w.setCell ⟨b,i,none⟩ u).cell? ⟨b,j,none⟩ = w.cell? ⟨b,j,none⟩:=fun h => World.cell?_setCell_other _ _ _ _ (fun e => h (by injection e))
 have eq : ∀ {i : Nat} {w : World} {u x : Value},w.cell? ⟨b,i,none⟩ = some x → (w.setCell ⟨b,i,none⟩ u).cell? ⟨b,i,none⟩ = some u:=fun h => World.cell?_setCell_same' _ _ _ (by rw [h]; rfl)
 refine ⟨?_,?_,?_,?_,?_,fun j => by simp only [World.frozen?_setCell]; exact fr j,by simp only [World.size_setCell]; exact lt⟩
 ·rw [ne (by decide),ne (by decide),ne (by decide),ne (by decide)]; exact eq c0
 ·rw [ne (by decide),ne (by decide),ne (by decide)]; exact eq (by rw [ne (by decide)]; exact c1)
 ·rw [ne (by decide),ne (by decide)]; exact eq (by rw [ne (by decide),ne (by decide)]; exact c2)
 ·rw [ne (by decide)]; exact eq (by rw [ne (by decide),ne (by decide),ne (by decide)]; exact c3)
 ·exact eq (by rw [ne (by decide),ne (by decide),ne (by decide),ne (by decide)]; exact c4)
theorem Same.fill {D : aj} {w : World} {b : Nat} (h : ¬ D b) (x0 x1 x2 x3 x4 : Value) :
  Same D w (((((w.setCell ⟨b,0,none⟩ x0).setCell ⟨b,1,none⟩ x1).setCell ⟨b,2,none⟩ x2).setCell ⟨b,3,none⟩ x3).setCell ⟨b,4,none⟩ x4):=by
 refine Same.trans (Same.trans (Same.trans (Same.trans (Same.set h) ?_ (Same.set h)) ?_ (Same.set h)) ?_ (Same.set h)) ?_ (Same.set h)
 all_goals simp only [World.size_setCell]
 all_goals exact Nat.le_refl _
theorem below_fill {B : Nat} {a w : World} (h : Below B a w) {b : Nat} (hb : B ≤ b) (x0 x1 x2 x3 x4 : Value) :
  Below B a (((((w.setCell ⟨b,0,none⟩ x0).setCell ⟨b,1,none⟩ x1).setCell ⟨b,2,none⟩ x2).setCell ⟨b,3,none⟩ x3).setCell ⟨b,4,none⟩ x4) :=
 ((((h.setCell hb _).setCell hb _).setCell hb _).setCell hb _).setCell hb _
end Go.Proofs.YtpidjanngbaiiaaGreatDoor
