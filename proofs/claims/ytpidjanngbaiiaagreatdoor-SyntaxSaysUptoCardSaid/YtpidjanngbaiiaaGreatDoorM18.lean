/-
  PrG Val2 Val3 ExR
-/
import Derived.Test.YtpidjanngbaiiaaGreatDoorM7
import Derived.Test.YtpidjanngbaiiaaGreatDoorM2
import Derived.Lib.MapLaws
import Derived.Test.YtpidjanngbaiiaaGreatDoorM6
import Derived.Laws.StructEq
import Derived.Deep.RegionHeld3
import Derived.Deep.DrawnRows
namespace Go.Proofs.YtpidjanngbaiiaaGreatDoor
open Go.RowKit Go.Proofs
set_option maxRecDepth 100000
set_option maxHeartbeats 32000000

theorem o9 (v : Value) (ls : List Str) (w : World) (hv : aF w v ls) (hs : ∀ s ∈ ls,s.length ≤ 9223372036854775807) (hl : ls.length ≤ 9223372036854775807) :
  Calls Tryz.prog 40 #[v] w fun e w' => e = .returned (.bool (aZ ls)) ∧ Below w.heap.size w w':=by
 obtain ⟨A,cap,rfl,hc,hr⟩:=hv
 have HR:=zH hr; have HS:=zH hs; clear hr hs
 obtain ⟨L,hL⟩ : ∃ L,ls.length = L:=⟨_,rfl⟩
 have HL:=zH hL
 rw [hL] at hc hl ⊢; clear hL
 go_enter Tryz.func40,Tryz.ntmps40
 go_wp2_with fail
 go_loopw [3] (fun i wr => ∃ k : Nat,k ≤ L ∧ i = .int .i64 k ∧ Hid (∀ j t,j < k → ls[j]? = some t → ah t = true) ∧ Below w.heap.size w wr) (fun i _ => L - (intOf i).toNat)
 case atStart => exact ⟨0,by omega,rfl,zH (fun j t h => by omega),Below.refl _ _⟩
 case round =>
  obtain ⟨k,hk,rfl,hf,hbw⟩:=hrel
  by_cases hlt : k < L
  ·obtain ⟨b,off,rfl,hrow⟩:=HR.out (by rw [HL.out]; omega)
   obtain ⟨s,hs⟩ : ∃ s,ls[k]? = some s:=⟨_,List.getElem?_eq_getElem (by rw [HL.out]; exact hlt)⟩
   have HK:=zH hs
   have hsl:=HS.out s (List.mem_of_getElem? hs)
   have c0 : wr.cell? ⟨b,off + k,none⟩ = some (.string ⟨s.toArray⟩):=ae (hrow k s hs) hbw
   clear hs hrow
   obtain ⟨B,hB⟩ : ∃ x,ah s = x:=⟨_,rfl⟩
   have HB:=zH hB; clear hB
   cases B with
   | false =>
    go_wp2_with fail
    refine (lI s _ hsl).mono ?_; rw [HB.out]; rintro e w1 ⟨rfl,hb1⟩
    go_wp2_with fail
    go_ret
    refine ⟨ax ?_,chain hbw hb1⟩
    have : ls.all ah = false:=by
     rw [Bool.eq_false_iff]
     intro h
     rw [List.all_eq_true] at h
     have:=h s (List.mem_of_getElem? HK.out)
     rw [HB.out] at this
     cases this
    unfold aZ
    rw [this,Bool.and_false]
   | true =>
    go_wp2_with fail
    refine (lI s _ hsl).mono ?_; rw [HB.out]; rintro e w1 ⟨rfl,hb1⟩
    go_wp2_with fail
    go_round
    case rel =>
     refine ⟨k + 1,by omega,by simp,zH (fun j t hj ht => ?_),chain hbw hb1⟩
     rcases Nat.lt_or_ge j k with h | h
     ·exact hf.out j t h ht
     ·obtain rfl : j = k:=by omega
      rw [HK.out] at ht
      obtain rfl:=Option.some.inj ht
      exact HB.out
    case measure => simp [intOf]; omega
  ·have hk' : k = L:=by omega
   subst hk'
   have hall : ls.all ah = true:=by
    rw [List.all_eq_true]
    intro s hs
    obtain ⟨j,hj⟩:=List.getElem?_of_mem hs
    exact hf.out j s (by have:=(List.getElem?_eq_some_iff.1 hj).1; rw [HL.out] at this; exact this) hj
   have Aa:=zH hall
   have hz : ((k : Int) ≤ 6) = (k ≤ 6):=by rw [eq_iff_iff]; omega
   clear hall
   go_wp2_with fail
   go_ret
   refine ⟨ax ?_,hbw⟩
   unfold aZ
   rw [Aa.out,HL.out,Bool.and_true]
theorem Ec (n : Int) (l : Str) (w : World) (hl : l.length ≤ 9223372036854775807) (hn : n = 0 ∨ n = 1) :
  Calls Tryz.prog 75 #[.int .i64 n,.string ⟨l.toArray⟩] w fun e w' => e = .returned (.bool (ai (n == 1) (!decide (l = [])) (ah l))) ∧ Below w.heap.size w w':=by
 rcases hn with rfl | rfl
 ·have hz : l.isEmpty = decide (l = []):=by cases l <;> rfl
  go_enter Tryz.func75,Tryz.ntmps75
  go_wp2_with fail
  go_ret
  exact ⟨ax (by simp [ai]),Below.refl _ _⟩
 ·obtain ⟨ANS,hA⟩ : ∃ x,ah l = x:=⟨_,rfl⟩
  have HA:=zH hA; rw [hA]; clear hA
  cases ANS
  all_goals
   go_enter Tryz.func75,Tryz.ntmps75
   go_wp2_with fail
   refine (lI l _ hl).mono ?_; rw [HA.out]; rintro e w1 ⟨rfl,hb1⟩
   go_wp2_with fail
   go_ret
   exact ⟨rfl,by go_grown⟩
theorem run_notbare (w : World) (s n : Int) (t : Str) :
  (binOp .neq 26 (.agg #[.int .i64 s,.int .i64 n,.string ⟨t.toArray⟩]) (.agg #[.int .i64 0,.int .i64 0,.string ⟨#[]⟩])).run Tryz.prog w = .ok (.bool (!(decide (s = 0) && (decide (n = 0) && decide (t = []))))) w:=by
 go_simp
 by_cases h1 : s = 0 <;> by_cases h2 : n = 0 <;> by_cases h3 : t = [] <;> simp [h1,h2,h3]
theorem sameNoExpr_cells (k : Int) (n : Str) (s v : Int) (x : Str) (A : Option Addr) (L c : Nat) (w : World) :
  Calls Tryz.prog 23 #[.agg #[.int .i64 k,.string ⟨n.toArray⟩,.int .i64 s,.int .i64 v,.string ⟨x.toArray⟩,.slice A L c],.agg #[.int .i64 0,.string ⟨#[]⟩,.int .i64 0,.int .i64 0,.string ⟨#[]⟩,.slice none 0 0]] w fun e w' => e = .returned (.bool (decide (k = 0) && (decide (n = []) && ((decide (s = 0) && (decide (v = 0) && decide (x = []))) && decide (L = 0))))) ∧ Below w.heap.size w w':=by
 by_cases h1 : k = 0
 ·subst h1
  by_cases h2 : n = []
  ·subst h2
   obtain ⟨B,hB⟩ : ∃ B,(decide (s = 0) && (decide (v = 0) && decide (x = []))) = B:=⟨_,rfl⟩
   have hr:=fun w => run_notbare w s v x
   rw [hB] at hr ⊢
   clear hB
   cases B with
   | true =>
    by_cases h3 : L = 0
    ·subst h3
     go_enter Tryz.func23,Tryz.ntmps23
     go_wp2_with fail
     go_loopw [5] (fun i wr => i = .int .i64 0 ∧ wr.cell? ⟨w.heap.size,5,none⟩ = some (.slice A 0 c) ∧ Below w.heap.size w wr) (fun _ _ => 0)
     case atStart => exact ⟨rfl,by simp [go_sem],by go_grown⟩
     case round =>
      obtain ⟨rfl,c0,hbw⟩:=hrel
      go_wp2_with fail
      go_ret
      exact ⟨rfl,hbw⟩
    ·have e : ((L : Int) == 0) = false:=by rw [beq_eq_false_iff_ne]; omega
     go_enter Tryz.func23,Tryz.ntmps23
     go_wp2_with fail
     go_ret
     exact ⟨ax (by simp [h3]),by go_grown⟩
   | false =>
    go_enter Tryz.func23,Tryz.ntmps23
    go_wp2_with fail
    go_ret
    exact ⟨ax (by simp),by go_grown⟩
  ·have e : n.isEmpty = false:=by simpa using h2
   go_enter Tryz.func23,Tryz.ntmps23
   go_wp2_with fail
   go_ret
   exact ⟨ax (by simp [h2]),by go_grown⟩
 ·have e : (k == 0) = false:=by simpa using h1
  go_enter Tryz.func23,Tryz.ntmps23
  go_wp2_with fail
  go_ret
  exact ⟨ax (by simp [h1]),by go_grown⟩
theorem sameNoType_cells (k s : Int) (n : Str) (A : Option Addr) (L c : Nat) (A' : Option Addr) (K c' : Nat) (w : World) (hL : L ≤ 1048576) (hK : K ≤ 1048576) :
  Calls Tryz.prog 38 #[.agg #[.int .i64 k,.int .i64 s,.string ⟨n.toArray⟩,.slice A L c,.slice A' K c'],.agg #[.int .i64 0,.int .i64 0,.string ⟨#[]⟩,.slice none 0 0,.slice none 0 0]] w fun e w' => e = .returned (.bool (decide (k = 0) && (decide (s = 0) && (decide (n = []) && decide (L + K = 0))))) ∧ Below w.heap.size w w':=by
 by_cases h1 : k = 0
 ·subst h1
  by_cases h2 : s = 0
  ·subst h2
   by_cases h3 : n = []
   ·subst h3
    by_cases h4 : L = 0
    ·subst h4
     by_cases h5 : K = 0
     ·subst h5
      go_enter Tryz.func38,Tryz.ntmps38
      go_wp2_with fail
      go_loopw [5] (fun i wr => i = .int .i64 0 ∧ wr.cell? ⟨w.heap.size,3,none⟩ = some (.slice A 0 c) ∧ wr.cell? ⟨w.heap.size,4,none⟩ = some (.slice A' 0 c') ∧ Below w.heap.size w wr) (fun _ _ => 0)
      case atStart => exact ⟨rfl,by simp [go_sem],by simp [go_sem],by go_grown⟩
      case round =>
       obtain ⟨rfl,c0,c1,hbw⟩:=hrel
       go_wp2_with fail
       go_loopw [6] (fun i wr => i = .int .i64 0 ∧ wr.cell? ⟨w.heap.size,4,none⟩ = some (.slice A' 0 c') ∧ Below w.heap.size w wr) (fun _ _ => 0)
       case atStart => exact ⟨rfl,c1,hbw⟩
       case round =>
        clear c0 c1 hbw
        obtain ⟨rfl,c1,hbw⟩:=hrel
        go_wp2_with fail
        go_ret
        exact ⟨rfl,hbw⟩
     ·have e : ((K : Int) == 0) = false:=by rw [beq_eq_false_iff_ne]; omega
      go_enter Tryz.func38,Tryz.ntmps38
      go_wp2_with fail
      go_ret
      exact ⟨ax (by simp [h5]),by go_grown⟩
    ·have e : ((L : Int) == 0) = false:=by rw [beq_eq_false_iff_ne]; omega
     have e2 : ¬ L + K = 0:=by omega
     go_enter Tryz.func38,Tryz.ntmps38
     go_wp2_with fail
     all_goals
      go_ret
      exact ⟨ax (by simp [h4]),by go_grown⟩
   ·have e : n.isEmpty = false:=by simpa using h3
    go_enter Tryz.func38,Tryz.ntmps38
    go_wp2_with fail
    go_ret
    exact ⟨ax (by simp [h3]),by go_grown⟩
  ·have e : (s == 0) = false:=by simpa using h2
   go_enter Tryz.func38,Tryz.ntmps38
   go_wp2_with fail
   go_ret
   exact ⟨ax (by simp [h2]),by go_grown⟩
 ·have e : (k == 0) = false:=by simpa using h1
  go_enter Tryz.func38,Tryz.ntmps38
  go_wp2_with fail
  go_ret
  exact ⟨ax (by simp [h1]),by go_grown⟩
def qc : Nat → List UInt8 → Option (List Int)
 | 0,_ => some []
 | n + 1,l => if l = [] then some [] else if (Lib.decodeL l).1 = 65533 ∧ (Lib.decodeL l).2 < 2 then none
   else (qc n (l.drop (Lib.decodeL l).2)).map (((Lib.decodeL l).1 : Int) :: ·)
def letters (l : List UInt8) : Option (List Int):=qc l.length l

theorem lettersGo_more : ∀ (n m : Nat) (l : List UInt8),l.length ≤ n → n ≤ m → qc m l = qc n l:=by
 intro n
 induction n with
 | zero =>
  intro m l h _
  have : l = []:=List.eq_nil_of_length_eq_zero (by omega)
  subst this
  cases m <;> simp [qc]
 | succ n ih =>
  intro m l h hm
  obtain ⟨k,rfl⟩ : ∃ k,m = k + 1:=⟨m - 1,by omega⟩
  simp only [qc]
  by_cases he : l = []
  ·simp [he]
  ·have:=Lib.decodeL_width l
   have hl : 0 < l.length:=List.length_pos_iff.2 he
   rw [ih k (l.drop (Lib.decodeL l).2) (by rw [List.length_drop]; omega) (by omega)]
theorem letters_nil : letters [] = some []:=rfl
theorem letters_bad {l : List UInt8} (h0 : l ≠ []) (h : (Lib.decodeL l).1 = 65533 ∧ (Lib.decodeL l).2 < 2) : letters l = none:=by
 unfold letters
 obtain ⟨k,hk⟩ : ∃ k,l.length = k + 1:=⟨l.length - 1,by have:=List.length_pos_iff.2 h0; omega⟩
 rw [hk,qc,if_neg h0,if_pos h]
theorem letters_cons {l : List UInt8} (h0 : l ≠ []) (h : ¬ ((Lib.decodeL l).1 = 65533 ∧ (Lib.decodeL l).2 < 2)) :
  letters l = (letters (l.drop (Lib.decodeL l).2)).map (((Lib.decodeL l).1 : Int) :: ·):=by
 unfold letters
 have:=Lib.decodeL_width l
 obtain ⟨k,hk⟩ : ∃ k,l.length = k + 1:=⟨l.length - 1,by have:=List.length_pos_iff.2 h0; omega⟩
 rw [hk,qc,if_neg h0,if_neg h,lettersGo_more (l.drop (Lib.decodeL l).2).length k _ (Nat.le_refl _) (by rw [List.length_drop]; omega)]

theorem decode_any (s : List UInt8) (h0 : s ≠ []) (w : World) (hT : Tabs w) :
  Calls Tryz.prog 101 #[.string ⟨s.toArray⟩] w fun e w' => e = .returned (.tuple #[.int .i32 (Lib.decodeL s).1,.int .i64 (Lib.decodeL s).2]) ∧ Below w.heap.size w w':=by
 refine (Tryz.utf8_DecodeRuneInString ⟨s.toArray⟩ w hT).mono ?_
 rintro e w' ⟨rfl,hb⟩
 refine ⟨?_,hb⟩
 have : Lib.decodeGo ⟨s.toArray⟩ = Lib.decodeL s:=by
  unfold Lib.decodeGo Lib.decodeL
  rw [if_neg (by rw [Lib.size_eq]; simpa using h0)]
 rw [this]

abbrev runeCells (rs : List Int) : List Value:=rs.map (Value.int .i32)

def LettersEnd (w : World) (a : Option (List Int)) (e : Ending) (w' : World) : Prop :=
 Below w.heap.size w w' ∧ match a with
  | some rs => ∃ v,e = .returned (.tuple #[v,.bool true]) ∧ w'.ownsRow w.heap.size 21 1 v rs.length (runeCells rs)
  | none => e = .returned (.tuple #[.slice none 0 0,.bool false])

theorem letters_any (s : List UInt8) (w : World) (hs : s.length ≤ 1099511627776) (hT : Tabs w) :
  Calls Tryz.prog 64 #[.string ⟨s.toArray⟩] w (LettersEnd w (letters s)):=by
 obtain ⟨ANS,hA⟩ : ∃ x,letters s = x:=⟨_,rfl⟩
 have HA:=zH hA; rw [hA]; clear hA
 go_enter Tryz.func64,Tryz.ntmps64
 go_wp2
 go_loopw [0,4,5,6] (fun s0 v _ _ wr => ∃ (t : List UInt8) (done : List Int),s0 = .string ⟨t.toArray⟩ ∧ Hid (letters s = (letters t).map (done ++ ·)) ∧ done.length + t.length ≤ s.length ∧ wr.ownsRow w.heap.size 21 1 v done.length (runeCells done) ∧ Below w.heap.size w wr)
  (fun s0 _ _ _ _ => match s0 with | .string b => b.size | _ => 0)
 case atStart => exact ⟨s,[],rfl,by simp [Hid],by simp,World.ownsRow_nil _ _ _ _,Below.refl _ _⟩
 case round =>
  obtain ⟨t,done,rfl,hl,hlen,hown,hb⟩:=hrel
  by_cases h0 : t = []
  ·subst h0
   go_wp2
   go_ret2
   refine ⟨hb,?_⟩
   have h1:=hl.out
   rw [letters_nil,HA.out] at h1
   subst h1
   exact ⟨_,rfl,by simpa using hown⟩
  ·have hp : 0 < t.length:=List.length_pos_iff.2 h0
   have hp' : (0 : Int) < (t.length : Int):=by omega
   have hw1:=Lib.decodeL_width t
   have hw2:=Lib.decodeL_le t h0
   obtain ⟨r,hr⟩ : ∃ r,(Lib.decodeL t).1 = r:=⟨_,rfl⟩
   obtain ⟨k,hk⟩ : ∃ k,(Lib.decodeL t).2 = k:=⟨_,rfl⟩
   have hd:=decode_any t h0 wr (hT.below hb)
   rw [hr,hk] at hd
   rw [hk] at hw1 hw2
   have Hr:=zH hr
   have Hk:=zH hk
   have Hd:=zH hd
   clear hr hk hd
   by_cases hbad : r = 65533 ∧ k < 2
   ·obtain ⟨b1,b2⟩:=hbad
    have t1 : ((r : Int) == 65533) = true:=by rw [beq_iff_eq]; omega
    have t2 : decide ((k : Int) < 2) = true:=by rw [decide_eq_true_iff]; omega
    have HB : Hid (letters t = none):=letters_bad h0 ⟨by rw [Hr.out]; exact b1,by rw [Hk.out]; exact b2⟩
    clear b1 b2
    go_wp2_with (go_at_call 101; go_must (refine (Hd.out).mono ?_; rintro e w1 ⟨rfl,hb1⟩))
    go_ret2
    have h1:=hl.out
    rw [HB.out,HA.out] at h1
    subst h1
    exact ⟨step hb hb1 hb.size,rfl⟩
   ·have HN : Hid (letters t = (letters (t.drop k)).map ((r : Int) :: ·)):=by
     have:=letters_cons h0 (by rw [Hr.out,Hk.out]; exact hbad)
     rw [Hr.out,Hk.out] at this; exact this
    have hbz : (done.length + 1) * 4 ≤ 140737488355328:=by omega
    have hbn : done.length + 1 ≤ 4611686018427387904:=by omega
    have hq : ((r : Int) == 65533) = false ∨ (((r : Int) == 65533) = true ∧ decide ((k : Int) < 2) = false):=by
     by_cases h5 : r = 65533
     ·refine .inr ⟨by rw [beq_iff_eq]; omega,?_⟩
      rw [decide_eq_false_iff_not]; intro h; exact hbad ⟨h5,by omega⟩
     ·refine .inl ?_
      rw [beq_eq_false_iff_ne]; omega
    have hwr : w.heap.size ≤ wr.heap.size:=hb.size
    clear hbad
    rcases hq with t1 | ⟨t1,t2⟩
    all_goals
     go_wp2_with (first
      | (go_at_call 101; go_must (refine (Hd.out).mono ?_; rintro e w1 ⟨rfl,hb1⟩))
      | (at_builtin; go_must (refine pK rt_runes w1 (.int .i32 r) rfl (.tmp 21) (.tmp 23) rfl w.heap.size u4 done.length (runeCells done) rfl (qI hown hb1 (Nat.le_refl _)) rfl rfl hbz hbn (Nat.le_trans hwr hb1.size) ?_; intro v2 w2 hown2 _ _ hb2)))
     go_roundw
     case rel =>
      refine ⟨t.drop k,done ++ [(r : Int)],rfl,?_,by rw [List.length_append,List.length_drop,List.length_singleton]; omega,by simpa using hown2,(step hb hb1 hb.size).trans hb2⟩
      show letters s = _
      rw [hl.out,HN.out]
      cases letters (t.drop k) <;> simp
     case measure => simp [Lib.size_eq]; omega
abbrev mkV (s n : Int) (t : List UInt8) : Value:=.agg #[.int .i64 s,.int .i64 n,.string ⟨t.toArray⟩]

theorem validGo_letters : ∀ (n : Nat) (l : List UInt8),l.length ≤ n → Lib.validGoD n l = (qc n l).isSome:=by
 intro n
 induction n with
 | zero => intro l _; rfl
 | succ n ih =>
  intro l h
  unfold Lib.validGoD qc
  by_cases he : l = []
  ·simp [he]
  ·have hw:=Lib.decodeL_width l
   rw [if_neg he,if_neg he]
   by_cases hb : (Lib.decodeL l).1 = 65533 ∧ (Lib.decodeL l).2 = 1
   ·rw [if_pos hb,if_pos ⟨hb.1,by omega⟩]; rfl
   ·rw [if_neg hb,if_neg (fun h => hb ⟨h.1,by omega⟩),ih _ (by rw [List.length_drop]; omega)]
    simp
theorem valid_letters (l : List UInt8) : Lib.validD l = (letters l).isSome:=validGo_letters _ _ (Nat.le_refl _)

theorem refValue_any (s n : Int) (w : World) (t : List UInt8) (hs : t.length ≤ 9223372036854775807) (hT : Tabs w) :
  Calls Tryz.prog 24 #[mkV s n t] w fun e w' => e = .returned (.int .i64 (qQ s n t)) ∧ Below w.heap.size w w':=by
 by_cases h3 : s = 3 ∧ n = 0
 ·obtain ⟨rfl,rfl⟩:=h3
  by_cases hl : 100 < t.length
  ·have hl' : (100 : Int) < (t.length : Int):=by omega
   go_enter Tryz.func24,Tryz.ntmps24
   go_wp2
   go_ret
   exact ⟨by simp [qQ,hl],by go_grown⟩
  ·have hl' : ¬ (100 : Int) < (t.length : Int):=by omega
   obtain ⟨o,ho⟩ : ∃ o,letters t = o:=⟨_,rfl⟩
   have hv:=valid_letters t
   have hc : qQ 3 0 t = if o.isSome = true then 0 else 1:=by simp [qQ,hl,hv,ho]
   have HC:=zH hc
   have hL:=letters_any t (w.alloc (.cells #[.int .i64 3,.int .i64 0,.string ⟨t.toArray⟩] 26)) (by omega) (hT.below (by go_grown))
   rw [ho] at hL
   have HL:=zH hL
   clear hL ho hv hc
   cases o with
   | none =>
    go_enter Tryz.func24,Tryz.ntmps24
    go_wp2_with (go_at_call 64; go_must (refine (HL.out).mono ?_; rintro e w1 ⟨hb,rfl⟩))
    go_ret
    exact ⟨by rw [HC.out]; rfl,step (by go_grown) hb (by simp)⟩
   | some rs =>
    go_enter Tryz.func24,Tryz.ntmps24
    go_wp2_with (go_at_call 64; go_must (refine (HL.out).mono ?_; rintro e w1 ⟨hb,v,rfl,hown⟩))
    go_ret
    exact ⟨by rw [HC.out]; rfl,step (by go_grown) hb (by simp)⟩
 ·have hc : ¬ (s = 3 ∧ n = 0):=h3
  go_enter Tryz.func24,Tryz.ntmps24
  go_wp2_with fail
  all_goals (go_ret; refine ⟨?_,by go_grown⟩)
  all_goals (first | (simp [qQ, *]; done) | (simp_all [qQ]; done))
theorem C9 {m : Nat} {t : Ex} {r : List Ex} : rV (m + 1) (t :: r) = if bM t = 9 then rV m (t.kids ++ r) else if bM t = 0 then rV m r else bM t:=rfl
theorem listE_next {m : Nat} {t : Ex} {r : List Ex} (h : bM t = 9 ∨ bM t = 0) : rV (m + 1) (t :: r) = rV m (t.kids ++ r):=by
 rw [C9]
 rcases h with h | h
 ·rw [if_pos h]
 ·rw [if_neg (by omega),if_pos h,EH (by omega) h]; rfl
theorem Bf (t0 : Ex) (v : Value) (w : World) (hv : uy All w v t0) (hf : bI 1048576 t0) (hT : Tabs w) :
    Calls Tryz.prog 60 #[v] w fun e w' => e = .returned (.int .i64 (lF t0)) ∧ Below w.heap.size w w':=by
  have HV:=zH hv
  obtain ⟨A0,L0,cap0,rfl,hk0⟩:=hv.one'
  have LX:=zH hk0
  obtain ⟨ANS,hA⟩ : ∃ x,lF t0 = x:=⟨_,rfl⟩
  have hA1:=exErr_list t0
  rw [hA] at hA1 ⊢
  have HA:=zH hA1
  clear hA hA1 hv hk0
  go_enter Tryz.func60,Tryz.ntmps60
  go_wp2_with fail
  obtain ⟨W,hW⟩ : ∃ W,(w.alloc (.cells #[.int .i64 t0.kind,.string ⟨t0.name.toArray⟩,.int .i64 t0.vs,.int .i64 t0.vn,.string ⟨t0.vt.toArray⟩,.slice A0 L0 cap0] 52)).alloc (.cells #[.int .i64 t0.kind,.string ⟨t0.name.toArray⟩,.int .i64 t0.vs,.int .i64 t0.vn,.string ⟨t0.vt.toArray⟩,.slice A0 L0 cap0] 52) = W:=⟨_,rfl⟩
  have hbW : Below w.heap.size w W:=by subst hW; go_grown
  have hB : jf W (w.heap.size + 1) t0 (.slice A0 L0 cap0):=by subst hW; have:=pG (w.alloc (.cells #[.int .i64 t0.kind,.string ⟨t0.name.toArray⟩,.int .i64 t0.vs,.int .i64 t0.vn,.string ⟨t0.vt.toArray⟩,.slice A0 L0 cap0] 52)) t0 (.slice A0 L0 cap0) 52; rw [World.size_alloc] at this; exact this
  have hst : uz All W (.slice (some ⟨w.heap.size + 1,0,none⟩) 1 1) [t0]:=⟨_,1,rfl,Nat.le_refl _,(fun e => by cases e),fun _ => ⟨_,0,rfl,trivial,(uG _ _ _ _ _).2 ⟨_,hB.c0,hB.c1,hB.c2,hB.c3,hB.c4,hB.c5,LX.out.below hbW⟩,trivial⟩⟩
  have hTW:=hT.below hbW
  try rw [hW]
  clear hW hB
  go_loopw [3,4] (fun v i wr => ∃ (k : Nat) (st : List Ex),k ≤ 60 ∧ i = .int .i64 k ∧ uz All wr v st ∧ Hid (∀ t ∈ st,bI 1048576 t) ∧ st.length ≤ 1048576 * (k + 1) ∧ Below w.heap.size w wr ∧ Tabs wr ∧ Hid (rV (60 - k) st = ANS)) (fun _ i _ => 61 - (intOf i).toNat)
  case atStart => exact ⟨0,[t0],by omega,rfl,hst,zH (fun t ht => by rw [List.mem_singleton.1 ht]; exact hf),by simp,hbW,hTW,zH HA.out⟩
  case round =>
    clear hst hbW hTW
    obtain ⟨k,st,hk,rfl,hst,PH,hlen,hbw,hTw,HL⟩:=hrel
    have HST:=zH hst
    obtain ⟨A,cap,rfl,hc1,hc2,hc3⟩:=hst
    cases st with
    | nil =>
      clear hc1 hc2 hc3
      go_wp2_with fail
      go_ret
      exact ⟨by have:=HL.out; rw [← this]; cases (60 - k) <;> rfl,hbw⟩
    | cons u r =>
      simp only [List.length_cons] at hc1 hlen ⊢
      obtain ⟨b,off,rfl,-,-⟩:=hc3 (by simp)
      obtain ⟨-,-,b',off',A1,n1,p1,e,-,y0,y1,y2,y3,y4,y5,hk'⟩:=pF HST.out (show (u :: r)[0]? = some u from rfl)
      obtain ⟨rfl,rfl⟩ : b = b' ∧ off = off':=by have:=Option.some.inj e; injection this with h1 h2; exact ⟨h1,h2⟩
      simp only [Nat.zero_mul,Nat.add_zero] at y0 y1 y2 y3 y4 y5
      have rP:=zH hk'
      clear hk' hc2 hc3 e
      obtain ⟨M,hM⟩ : ∃ M,r.length + 1 = M:=⟨_,rfl⟩
      have HM:=zH hM
      simp only [List.length_cons] at HST
      rw [hM] at hc1 hlen HST ⊢
      have hM0 : 0 < M:=by omega
      have hM1 : M ≤ 9223372036854775807:=by omega
      clear hM
      by_cases h60 : k = 60
      · have hE : ((k : Int) == 60) = true:=by rw [beq_iff_eq]; omega
        have HE : ANS = 2:=by have:=HL.out; rw [h60] at this; exact this.symm
        clear h60 y0 y1 y2 y3 y4 y5
        go_wp2_with fail
        go_ret
        exact ⟨by rw [HE]; rfl,hbw⟩
      · have hk59 : k ≤ 59:=by omega
        have hE : ((k : Int) == 60) = false:=by rw [beq_eq_false_iff_ne]; omega
        clear h60
        obtain ⟨hn1,-,-,-⟩:=rP.out.src
        have hfu : bI 1048576 u:=PH.out u (by simp)
        have QL : u.kids.length ≤ 1048576:=hfu.parts.2.2.2.2.2.1
        have hn1' : n1 ≤ 1048576:=by omega
        have Gm:=zH hn1
        have Eu:=zH hfu
        clear hn1 hfu QL
        obtain ⟨wa,mQ⟩ : ∃ y,wr.alloc (.cells #[.int .i64 u.kind,.string ⟨u.name.toArray⟩,.int .i64 u.vs,.int .i64 u.vn,.string ⟨u.vt.toArray⟩,.slice A1 n1 p1] 52) = y:=⟨_,rfl⟩
        have hba : Below wr.heap.size wr wa:=by subst mQ; exact (Below.refl _ _).alloc (Nat.le_refl _) _
        have hkb : jf wa wr.heap.size u (.slice A1 n1 p1):=by subst mQ; exact pG wr u _ _
        obtain ⟨k0,k1,k2,k3,k4,k5,k6,k7⟩:=id hkb
        have HKB:=zH hkb
        go_wp2_with fail
        try rw [mQ]
        clear mQ
        have hS : ∀ w' : World,Below wa.heap.size wa w' → (fun w' : World => w'.cell? ⟨wr.heap.size,5,none⟩ = some (.slice A1 n1 p1)) w':=fun w' h => ae k5 h
        have bC:=zH (hS wa.drew (Below.refl _ _).drew)
        have jE:=zH hS
        clear hS
        obtain ⟨so,n2,c2,Tz,hR,hn2⟩ : ∃ so n2 c2,Hid ((cap = 1 ∧ M = 1 ∧ so = off ∧ n2 = 0 ∧ c2 = 0) ∨ (cap ≠ 1 ∧ so = off + 6 ∧ n2 = M - 1 ∧ c2 = cap - 1)) ∧ uz All wr (.slice (some ⟨b,so,none⟩) n2 c2) r ∧ n2 = M - 1:=by
          by_cases hcap : cap = 1
          · have Ot : M = 1:=by omega
            have hr : r = []:=List.eq_nil_of_length_eq_zero (by have:=HM.out; omega)
            exact ⟨off,0,0,Or.inl ⟨hcap,Ot,rfl,rfl,rfl⟩,by rw [hr]; exact ⟨_,0,rfl,Nat.le_refl _,(fun e => by cases e),fun h => by simp at h⟩,by omega⟩
          · refine ⟨off + 6,M - 1,cap - 1,Or.inr ⟨hcap,rfl,rfl,rfl⟩,?_,rfl⟩
            have h1:=HM.out
            have:=uz.tail (c:=cap - 1) HST.out (by omega)
            rw [show r.length = M - 1 by omega] at this
            exact this
        have hn2' : n2 ≤ M:=by omega
        have I7:=zH hn2
        have HR:=zH hR
        clear hR hn2
        refine aC 6 (fun w' : World => w'.cell? ⟨wr.heap.size,5,none⟩ = some (.slice A1 n1 p1)) (by kernel_rfl) ?_
        refine zT 0 ?_ rfl (Or.inl ⟨by rfl,?_⟩) bC.out ?_
        rotate_left
        · (intro wq hSw; have q0 : wq.cell? ⟨wr.heap.size,5,none⟩ = some (.slice A1 n1 p1):=hSw; go_simp; all_goals (first | (with_reducible rfl) | (rw [if_pos (by omega)]; done) | (rw [if_neg (by omega)]; done) | skip))
        try simp only [zA,zB,zC,Act.put,zD,zE,zF]
        refine zT 1 ?_ rfl (Or.inl ⟨by rfl,?_⟩) bC.out ?_
        rotate_left
        · (intro wq hSw; have q0 : wq.cell? ⟨wr.heap.size,5,none⟩ = some (.slice A1 n1 p1):=hSw; go_simp; all_goals (first | (with_reducible rfl) | (rw [if_pos (by omega)]; done) | (rw [if_neg (by omega)]; done) | skip))
        try simp only [zA,zB,zC,Act.put,zD,zE,zF]
        refine zT 3 ?_ rfl (Or.inl ⟨by rfl,?_⟩) bC.out ?_
        rotate_left
        · (intro wq hSw; have q0 : wq.cell? ⟨wr.heap.size,5,none⟩ = some (.slice A1 n1 p1):=hSw; go_simp; all_goals (first | (with_reducible rfl) | (rw [if_pos (by omega)]; done) | (rw [if_neg (by omega)]; done) | skip))
        try simp only [zA,zB,zC,Act.put,zD,zE,zF]
        refine zT 4 (.slice (some ⟨b,so,none⟩) n2 c2) rfl (Or.inl ⟨by rfl,?_⟩) bC.out ?_
        · intro wq hSw
          rcases Tz.out with ⟨h1,h2,h3,h4,h5⟩ | ⟨h1,h3,h4,h5⟩
          · subst h1 h2 h3 h4 h5
            go_simp
          · subst h3 h4 h5
            have h6 : 1 ≤ M:=hM0
            go_simp
            all_goals (first | (intro hh; omega) | (rw [if_pos (by omega)]; done) | (rw [if_neg (by omega)]; done))
        try simp only [zA,zB,zC,Act.put,zD,zE,zF]
        have hbd : Below wr.heap.size wr wa.drew:=hba.drew
        obtain ⟨-,-,hz1,O5,G7,hsrc1⟩:=((rP.out.below hbd).keep (D':=(· < wa.heap.size)) (Same.refl _ _) (fun b _ h => h)).src
        have N9:=zH G7
        have Jz : O5.length = n1 * 6:=by have:=G7.length; have:=Gm.out; omega
        clear G7
        refine zO 2 fun K hK => ?_
        refine o6 JQ rfl (.const (.slice none 0 0)) (.tmp 22) rfl wa.heap.size _ 0 [] rfl (World.ownsRow_nil _ _ _ _) A1 n1 p1 rfl O5 Jz hz1 hsrc1 N9.out.one (by unfold maxLen; omega) (by omega) (Nat.le_refl _) (fun v1 w2 o1 o2 => ?_)
        have hb2 : Below wa.heap.size wa w2:=(Below.refl _ _ : Below wa.heap.size wa wa).drew.trans o2
        simp only [Nat.zero_add,List.nil_append] at o1
        obtain ⟨A5,c5,rfl⟩:=bg o1
        refine hK.out _ _ (fun _ => jE.out w2 hb2) ?_
        clear hK K
        try simp only [zA,zB,zC,Act.put,zD,zE,zF]
        have Jr : Below wr.heap.size wr w2:=chain hba hb2
        obtain ⟨-,-,hz2,RP,G8,FP⟩:=((HR.out.keep (D':=(· < wr.heap.size)) (Same.refl _ _) (fun b _ h => h)).below Jr).src
        have Oa:=zH G8
        have JA : RP.length = n2 * 6:=by have:=G8.length; have:=HM.out; have:=I7.out; omega
        clear G8
        refine zO 5 fun K hK => ?_
        refine o6 JQ rfl (.tmp 23) (.tmp 25) rfl wa.heap.size (.slice A5 n1 c5) n1 O5 rfl o1 (some ⟨b,so,none⟩) n2 c2 rfl RP JA hz2 FP Oa.out.one (by unfold maxLen; omega) (by omega) (by have:=hb2.size; omega) (fun v3 w4 o3 o4 => ?_)
        have hb4 : Below wa.heap.size wa w4:=hb2.trans o4
        obtain ⟨A6,c6,rfl⟩:=bg o3
        refine hK.out _ _ (fun _ => jE.out w4 hb4) ?_
        clear hK K
        try simp only [zA,zB,zC,Act.put,zD,zE,zF]
        refine zO 6 fun K hK => ?_
        go_simp
        refine hK.out _ _ (fun h => absurd h (by decide)) ?_
        clear hK K
        try simp only [zA,zB,zC,Act.put,zD,zE,zF]
        refine bf (by kernel_rfl) ?_
        have Qe : uz All w4 (.slice A6 (n1 + n2) c6) (u.kids ++ r):=by
          have hl : (u.kids ++ r).length = n1 + n2:=by rw [List.length_append]; have:=Gm.out; have:=HM.out; have:=I7.out; omega
          have h1:=N9.out.keep (D':=All) (w':=w4) (fun b hD _ => hb4.block b hD) (fun _ _ _ => trivial)
          have h2:=Oa.out.keep (D':=All) (w':=w4) (fun b hD _ => o4.block b (by have:=hba.size; have hD' : b < wr.heap.size:=hD; omega)) (fun _ _ _ => trivial)
          rw [← hl] at o3 ⊢
          exact own_exs o3 (h1.append h2) (fun _ _ => trivial)
        have mV:=zH Qe
        have xg:=chain hbw (chain hba hb4)
        have Qg:=hTw.below (chain hba hb4)
        obtain ⟨z0,z1,z2,z3,z4,z5,z6,z7⟩:=HKB.out.keep hb4 HKB.out.lt
        have FK:=hb4
        clear Qe o1 o3 o2 o4 hb2 hb4 Jr hz1 hz2 hsrc1 FP Jz JA N9 Oa jE bC hbd k0 k1 k2 k3 k4 k5 k6 k7
        obtain ⟨Z,hZ⟩ : ∃ Z,n1 + n2 = Z:=⟨_,rfl⟩
        rw [hZ] at mV ⊢
        have hZb : Z ≤ 1048576 * (k + 1 + 1):=by omega
        have Qi : (u.kids ++ r).length = Z:=by rw [List.length_append]; have:=Gm.out; have:=HM.out; have:=I7.out; omega
        have Ob:=zH Qi
        clear hZ
        clear Qi
        obtain ⟨uk,un,us,Gq,ux,EU⟩:=u
        simp only [Ex.aN,Ex.aI,Ex.yL,Ex.yK,Ex.yM,Ex.aK] at z0 z1 z2 z3 z4 mV Gm Ob ⊢
        have Bl : Hid (∀ E,bM (.mk uk un us Gq ux EU) = E → E ≠ 9 → E ≠ 0 → ANS = E):=by
          intro E h1 h2 h3
          have:=HL.out
          rw [show 60 - k = (59 - k) + 1 by omega,C9,if_neg (by omega),if_neg (by omega)] at this
          rw [← this,h1]
        have HL2 : Hid ((bM (.mk uk un us Gq ux EU) = 9 ∨ bM (.mk uk un us Gq ux EU) = 0) → rV (60 - (k + 1)) (EU ++ r) = ANS):=by
          intro h
          have:=HL.out
          rw [show 60 - k = (59 - k) + 1 by omega,listE_next h] at this
          rw [show 60 - (k + 1) = 59 - k by omega]
          exact this
        have Il : Hid (∀ t ∈ EU ++ r,bI 1048576 t):=by
          intro t ht
          rcases List.mem_append.1 ht with h | h
          · exact Eu.out.parts.2.2.2.2.2.2 t h
          · exact PH.out t (List.mem_cons_of_mem _ h)
        have QL : un.length ≤ 1048576:=Eu.out.parts.2.1
        have huxl : ux.length ≤ 1048576:=Eu.out.parts.2.2.2.2.1
        obtain ⟨BR,hb⟩ : ∃ y,bare (.mk uk un us Gq ux EU) = y:=⟨_,rfl⟩
        have hbr : ∀ w : World,(binOp .eql 26 (.agg #[.int .i64 us,.int .i64 Gq,.string ⟨ux.toArray⟩]) (.agg #[.int .i64 0,.int .i64 0,.string ⟨#[]⟩])).run Tryz.prog w = .ok (.bool BR) w:=fun w => (oz w us Gq ux).trans (congrArg (fun y => Result.ok (Value.bool y) w) hb)
        have PD:=zH hb
        clear hb
        by_cases k1 : uk = 1
        · subst k1
          by_cases hn : un = []
          · subst hn
            clear QL
            by_cases h0 : n1 = 0
            · subst h0
              obtain ⟨E,hE2⟩ : ∃ y,qQ us Gq ux = y:=⟨_,rfl⟩
              have hone : bM (.mk 1 [] us Gq ux EU) = E:=(exOne_1 Gm.out.symm).trans hE2
              have HE2:=zH hE2
              have TN : E ≠ 9:=by
               rw [← hE2]; unfold qQ; repeat' split
               all_goals decide
              have HO:=zH hone
              clear hE2 hone
              go_wp2_with fail
              refine (refValue_any us Gq w4 ux (by omega) Qg).mono ?_
              rw [HE2.out]
              rintro e w5 ⟨rfl,hb5⟩
              obtain ⟨z0,z1,z2,z3,z4,z5,z6,z7⟩:=(HKB.out.keep FK HKB.out.lt).keep hb5 (Nat.lt_of_lt_of_le HKB.out.lt FK.size)
              by_cases hE0 : E = 0
              · have hEt : (E != 0) = false:=by rw [bne_eq_false_iff_eq]; exact hE0
                have NW:=zH (HL2.out (Or.inr (HO.out.trans hE0)))
                clear hE0 TN
                go_wp2_with fail
                go_roundw
                case rel => exact ⟨k + 1,EU ++ r,by omega,by go_num,mV.out.below hb5,Il,by have:=Ob.out; omega,chain xg hb5,Qg.below hb5,NW⟩
                case measure => simp [intOf]; omega
              · have hEt : (E != 0) = true:=by rw [bne_iff_ne]; exact hE0
                have HE:=zH (Bl.out E HO.out TN hE0)
                clear hE0 TN
                go_wp2_with fail
                go_ret
                exact ⟨by rw [HE.out]; rfl,chain xg hb5⟩
            · have hone : bM (.mk 1 [] us Gq ux EU) = 1:=exOne_1k (fun h => h0 (Gm.out.trans h))
              have hpos : 0 < n1:=by omega
              clear h0
              have HE:=zH (Bl.out 1 hone (by decide) (by decide))
              clear hone
              go_wp2_with fail
              go_ret
              exact ⟨by rw [HE.out]; rfl,xg⟩
          · have hone : bM (.mk 1 un us Gq ux EU) = 1:=exOne_1n hn
            have hne : un.isEmpty = false:=by simpa using hn
            clear hn
            have HE:=zH (Bl.out 1 hone (by decide) (by decide))
            clear hone
            go_wp2_with fail
            go_ret
            exact ⟨by rw [HE.out]; rfl,xg⟩
        · by_cases k2 : uk = 2
          · subst k2
            cases BR with
            | false =>
              have hone : bM (.mk 2 un us Gq ux EU) = 1:=exOne_2b PD.out
              have HE:=zH (Bl.out 1 hone (by decide) (by decide))
              clear hone
              go_wp2_with fail
              go_ret
              exact ⟨by rw [HE.out]; rfl,xg⟩
            | true =>
              obtain ⟨B,hB⟩ : ∃ y,ah un = y:=⟨_,rfl⟩
              have HB:=zH hB
              clear hB
              go_wp2_with fail
              refine (lI un w4 (by omega)).mono ?_
              rw [HB.out]
              rintro e w5 ⟨rfl,hb5⟩
              obtain ⟨z0,z1,z2,z3,z4,z5,z6,z7⟩:=(HKB.out.keep FK HKB.out.lt).keep hb5 (Nat.lt_of_lt_of_le HKB.out.lt FK.size)
              cases B with
              | false =>
                have hone : bM (.mk 2 un us Gq ux EU) = 1:=exOne_2n HB.out
                have HE:=zH (Bl.out 1 hone (by decide) (by decide))
                clear hone
                go_wp2_with fail
                go_ret
                exact ⟨by rw [HE.out]; rfl,chain xg hb5⟩
              | true =>
                by_cases h0 : n1 = 0
                · have NW:=zH (HL2.out (Or.inr (exOne_2 PD.out (Gm.out.symm.trans h0) HB.out)))
                  subst h0
                  go_wp2_with fail
                  go_roundw
                  case rel => exact ⟨k + 1,EU ++ r,by omega,by go_num,mV.out.below hb5,Il,by have:=Ob.out; omega,chain xg hb5,Qg.below hb5,NW⟩
                  case measure => simp [intOf]; omega
                · have hone : bM (.mk 2 un us Gq ux EU) = 1:=exOne_2k (fun h => h0 (Gm.out.trans h))
                  have hpos : 0 < n1:=by omega
                  clear h0
                  have HE:=zH (Bl.out 1 hone (by decide) (by decide))
                  clear hone
                  go_wp2_with fail
                  go_ret
                  exact ⟨by rw [HE.out]; rfl,chain xg hb5⟩
          · by_cases k3 : uk = 3
            · subst k3
              have e0:=zH (exOne_3 (n:=un) (s:=us) (v:=Gq) (x:=ux) (ks:=EU))
              obtain ⟨B1,h1⟩ : ∃ y,(un == [110,111,116]) = y:=⟨_,rfl⟩
              obtain ⟨B2,h2⟩ : ∃ y,(un == [110,101,103]) = y:=⟨_,rfl⟩
              obtain ⟨B3,h3⟩ : ∃ y,(un == [35]) = y:=⟨_,rfl⟩
              have PM : Hid (lone un = (B1 || (B2 || B3))):=by
                show lone un = _
                unfold lone
                rw [← h1,← h2,← h3]
                rw [Bool.eq_iff_iff]; simp
              cases BR with
              | false =>
                have hone:=e0.out.trans (if_neg (fun h => absurd (PD.out.symm.trans h.1) (by decide)))
                have HE:=zH (Bl.out 1 hone (by decide) (by decide))
                clear hone
                cases B1 <;> cases B2 <;> cases B3
                all_goals
                  go_wp2_with fail
                  go_ret
                  exact ⟨by rw [HE.out]; rfl,xg⟩
              | true =>
                obtain ⟨S,hS⟩ : ∃ y,(B1 || (B2 || B3)) = y:=⟨_,rfl⟩
                rw [hS] at PM
                cases S with
                | true =>
                  have hlv : level un = 0:=by
                    have:=PM.out
                    unfold lone at this
                    simp only [Bool.or_eq_true,decide_eq_true_eq] at this
                    rcases this with h | h | h <;> rw [h] <;> decide
                  have ES:=zH hlv
                  clear hlv
                  by_cases h1n : n1 = 1
                  · have NW:=zH (HL2.out (Or.inl (e0.out.trans (if_pos ⟨PD.out,Or.inl ⟨PM.out,Gm.out.symm.trans h1n⟩⟩))))
                    have hq : ((n1 : Int) == 1) = true:=by rw [beq_iff_eq]; omega
                    clear h1n
                    cases B1 <;> cases B2 <;> cases B3 <;> try (exact absurd hS (by decide))
                    all_goals
                      clear hS
                      go_wp2_with fail
                      go_roundw
                      case rel => exact ⟨k + 1,EU ++ r,by omega,by go_num,mV.out,Il,by have:=Ob.out; omega,xg,Qg,NW⟩
                      case measure => simp [intOf]; omega
                  · have hone:=e0.out.trans (if_neg (fun h => h.2.elim (fun h => h1n (Gm.out.trans h.2)) (fun h => by have:=ES.out; omega)))
                    have HE:=zH (Bl.out 1 hone (by decide) (by decide))
                    have hq : ((n1 : Int) == 1) = false:=by rw [beq_eq_false_iff_ne]; omega
                    clear hone h1n
                    cases B1 <;> cases B2 <;> cases B3 <;> try (exact absurd hS (by decide))
                    all_goals
                      clear hS
                      go_wp2_with fail
                      refine (uT un w4).mono ?_
                      rw [ES.out]
                      rintro e w5 ⟨rfl,hb5⟩
                      obtain ⟨z0,z1,z2,z3,z4,z5,z6,z7⟩:=(HKB.out.keep FK HKB.out.lt).keep hb5 (Nat.lt_of_lt_of_le HKB.out.lt FK.size)
                      go_wp2_with fail
                      go_ret
                      exact ⟨by rw [HE.out]; rfl,chain xg hb5⟩
                | false =>
                  obtain ⟨V,hV⟩ : ∃ y,level un = y:=⟨_,rfl⟩
                  have hV0 : 0 ≤ V:=by rw [← hV]; exact (wF un).1
                  have BX:=zH hV
                  clear hV
                  have hBs : B1 = false ∧ B2 = false ∧ B3 = false:=by cases B1 <;> cases B2 <;> cases B3 <;> simp_all
                  obtain ⟨rfl,rfl,rfl⟩:=hBs
                  clear hS
                  go_wp2_with fail
                  refine (uT un w4).mono ?_
                  rw [BX.out]
                  rintro e w5 ⟨rfl,hb5⟩
                  obtain ⟨z0,z1,z2,z3,z4,z5,z6,z7⟩:=(HKB.out.keep FK HKB.out.lt).keep hb5 (Nat.lt_of_lt_of_le HKB.out.lt FK.size)
                  by_cases hv0 : V = 0
                  · have hone:=e0.out.trans (if_neg (fun h => h.2.elim (fun h => absurd (PM.out.symm.trans h.1) (by decide)) (fun h => by have:=BX.out; omega)))
                    have HE:=zH (Bl.out 1 hone (by decide) (by decide))
                    have hvp : decide ((0 : Int) < V) = false:=by simp; omega
                    clear hone hv0
                    go_wp2_with fail
                    go_ret
                    exact ⟨by rw [HE.out]; rfl,chain xg hb5⟩
                  · have hvp : decide ((0 : Int) < V) = true:=by simp; omega
                    by_cases h2n : n1 = 2
                    · have NW:=zH (HL2.out (Or.inl (e0.out.trans (if_pos ⟨PD.out,Or.inr ⟨by have:=BX.out; omega,Gm.out.symm.trans h2n⟩⟩))))
                      have hq : ((n1 : Int) == 2) = true:=by rw [beq_iff_eq]; omega
                      clear h2n hv0
                      go_wp2_with fail
                      go_roundw
                      case rel => exact ⟨k + 1,EU ++ r,by omega,by go_num,mV.out.below hb5,Il,by have:=Ob.out; omega,chain xg hb5,Qg.below hb5,NW⟩
                      case measure => simp [intOf]; omega
                    · have hone:=e0.out.trans (if_neg (fun h => h.2.elim (fun h => absurd (PM.out.symm.trans h.1) (by decide)) (fun h => h2n (Gm.out.trans h.2))))
                      have HE:=zH (Bl.out 1 hone (by decide) (by decide))
                      have hq : ((n1 : Int) == 2) = false:=by rw [beq_eq_false_iff_ne]; omega
                      clear hone h2n hv0
                      go_wp2_with fail
                      go_ret
                      exact ⟨by rw [HE.out]; rfl,chain xg hb5⟩
            · have hone : bM (.mk uk un us Gq ux EU) = 1:=exOne_o k1 k2 k3
              have q1 : (uk == 1) = false:=by rw [beq_eq_false_iff_ne]; exact k1
              have q2 : (uk == 2) = false:=by rw [beq_eq_false_iff_ne]; exact k2
              have q3 : (uk == 3) = false:=by rw [beq_eq_false_iff_ne]; exact k3
              clear k1 k2 k3
              have HE:=zH (Bl.out 1 hone (by decide) (by decide))
              clear hone
              go_wp2_with fail
              go_ret
              exact ⟨by rw [HE.out]; rfl,xg⟩
end Go.Proofs.YtpidjanngbaiiaaGreatDoor
