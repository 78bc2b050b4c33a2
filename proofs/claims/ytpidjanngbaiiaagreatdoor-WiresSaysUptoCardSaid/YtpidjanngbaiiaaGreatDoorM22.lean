/-
  duetref.wireNumber.
  duetref.Unwire$1: a fault at a place.
  duetref.Wire$1: a text into a box.
-/
import Derived.Test.YtpidjanngbaiiaaGreatDoorM21
import Derived.Test.YtpidjanngbaiiaaGreatDoorM8
import Derived.Test.YtpidjanngbaiiaaGreatDoorTyX2
import Derived.Test.YtpidjanngbaiiaaGreatDoorM5
namespace Go.Proofs.YtpidjanngbaiiaaGreatDoor
open Go.RowKit Go.Proofs

set_option maxRecDepth 100000
def numTup : Except Nat (Nat × Nat) → Value
 | .ok x => .tuple #[.int .u64 x.1, .int .i64 x.2, .int .i64 0]
 | .error q => .tuple #[.int .u64 0, .int .i64 (-1), .int .i64 q]
theorem lead_at (l : Str) (f k : Nat) : lead l (f + 1) k = match l[k]? with | none => 0 | some c => if 128 ≤ c.toNat then lead l f (k + 1) + 1 else 0 := by rw [lead]; cases l[k]? <;> rfl
set_option maxHeartbeats 4000000 in
theorem refNum_any (l : Str) (p : Nat) (w : World) (hl : l.length ≤ 1048576) (hp : p ≤ l.length) :
  Calls Tryz.prog 36 #[.string ⟨l.toArray⟩, .int .i64 p] w fun e w' => e = .returned (numTup (wnumR l p)) ∧ Below w.heap.size w w' := by
 obtain ⟨ANS, hA⟩ : ∃ x, wnumR l p = x := ⟨_, rfl⟩
 rw [hA]
 unfold wnumR at hA
 obtain ⟨r, hr⟩ : ∃ r, lead l 10 p = r := ⟨_, rfl⟩
 have hr10 := lead_le l 10 p
 rw [hr] at hA hr10
 have HA := Lib.hid hA
 have hrl := hr10.2 hp
 have hr9 := hr10.1
 have HR := Lib.hid hr
 clear hA hr hr10
 go_enter Tryz.func36, Tryz.ntmps36
 go_wp2_with fail
 go_loopg [7] (l.length - p) (fun gk kv wr => ∃ k : Nat, kv = .int .i64 k ∧ p ≤ k ∧ k ≤ l.length ∧ l.length - k ≤ gk ∧ k - p ≤ 10 ∧ Hid (k - p + lead l (10 - (k - p)) k = r) ∧ Below w.heap.size w wr)
 case atStart => exact ⟨p, rfl, Nat.le_refl _, hp, Nat.le_refl _, by omega, by show _ = _; rw [Nat.sub_self, Nat.zero_add]; exact HR.out, Below.refl _ _⟩
 case round =>
  obtain ⟨k, rfl, hpk, hkl, hgk, hk10, hlead, hb⟩ := hrel
  cases hc : l[k]? with
  | none =>
   have hke : k = l.length := by have := List.getElem?_eq_none_iff.1 hc; omega
   subst hke
   have hlt : decide ((l.length : Int) < (l.length : Int)) = false := by simp
   have hrr : l.length - p = r := by
    have := hlead.out
    obtain ⟨f, hf⟩ : ∃ f, 10 - (l.length - p) = f := ⟨_, rfl⟩
    rw [hf] at this
    cases f with
    | zero => rw [lead] at this; omega
    | succ f => rw [lead_at, hc] at this; simp only at this; omega
   clear hc hlead
   by_cases h10 : r < 10
   ·have hans := HA.out
    rw [wEnd_short h10 (by omega), show p + r = l.length by omega] at hans
    have HANS := Lib.hid hans
    have h1 : (l.length : Int) - (p : Int) < 10 := by omega
    clear hans HA
    go_wp2_with fail
    go_ret3
    exact ⟨by rw [← HANS.out]; rfl, hb⟩
   ·have hans := HA.out
    rw [wEnd_long (by omega)] at hans
    have HANS := Lib.hid hans
    have h1 : ¬ (l.length : Int) - (p : Int) < 10 := by omega
    have h2 : (10 : Int) ≤ (l.length : Int) - (p : Int) := by omega
    clear hans HA
    go_wp2_with fail
    go_ret3
    exact ⟨by rw [← HANS.out]; rfl, hb⟩
  | some c =>
   have HC := Lib.hid hc
   have hlt := at_lt hc
   clear hc
   have E : (⟨l.toArray⟩ : ByteArray)[k]'(by simpa [ByteArray.size] using hlt) = c := byte_at' HC.out _
   have hlt' : (k : Int) < (l.length : Int) := by omega
   have hld := hlead.out
   obtain ⟨f, hf⟩ : ∃ f, 10 - (k - p) = f := ⟨_, rfl⟩
   rw [hf] at hld
   by_cases h128 : 128 ≤ c.toNat
   ·have hz : (128 : Int) ≤ (c.toNat : Int) := by omega
    cases f with
    | zero =>
     rw [lead] at hld
     have hans := HA.out
     rw [wEnd_long (by omega)] at hans
     have HANS := Lib.hid hans
     have h1 : ¬ (k : Int) - (p : Int) < 10 := by omega
     have h2 : (10 : Int) ≤ (k : Int) - (p : Int) := by omega
     clear hans HA hlead
     go_wp2_with fail
     go_ret3
     exact ⟨by rw [← HANS.out]; rfl, hb⟩
    | succ f =>
     rw [lead_at, HC.out] at hld
     simp only [if_pos h128] at hld
     have h1 : (k : Int) - (p : Int) < 10 := by omega
     have hnx : k + 1 - p + lead l (10 - (k + 1 - p)) (k + 1) = r := by
      rw [show 10 - (k + 1 - p) = f by omega]
      omega
     have HNX := Lib.hid hnx
     clear hnx hlead hld
     go_wp2_with fail
     go_roundg (l.length - (k + 1))
     case measure => omega
     case rel => exact ⟨k + 1, by go_num, by omega, by omega, Nat.le_refl _, by omega, HNX, hb⟩
   ·have hrk : k - p = r := by
     cases f with
     | zero => rw [lead] at hld; omega
     | succ f => rw [lead_at, HC.out] at hld; simp only [if_neg h128] at hld; omega
    have hz : ¬ (128 : Int) ≤ (c.toNat : Int) := by omega
    clear hld hlead hf
    by_cases h10 : r < 10
    ·have h1 : (k : Int) - (p : Int) < 10 := by omega
     have h2 : ¬ (10 : Int) ≤ (k : Int) - (p : Int) := by omega
     have h3 : ((k : Int) == (l.length : Int)) = false := by rw [beq_eq_false_iff_ne]; omega
     have hgd : l.getD (p + r) 0 = c := by rw [show p + r = k by omega]; simp [List.getD, HC.out]
     by_cases hbad : (0 < r ∧ c.toNat = 0) ∨ (r = 9 ∧ 1 < c.toNat)
     ·have hans := HA.out
      rw [wEnd_bad h10 (by omega) hgd hbad] at hans
      have HANS := Lib.hid hans
      have g1 : (p : Int) < (k : Int) := by omega
      have hsub : ((c.toNat : Int) == 0) = true ∨ (((c.toNat : Int) == 0) = false ∧ ((k : Int) - (p : Int) == 9) = true ∧ (1 : Int) < (c.toNat : Int)) := by
       by_cases h : c.toNat = 0
       ·exact .inl (by rw [beq_iff_eq]; omega)
       ·exact .inr ⟨by rw [beq_eq_false_iff_ne]; omega, by rw [beq_iff_eq]; omega, by omega⟩
      clear hans HA hbad hgd
      rcases hsub with hc0 | ⟨hc0, h9, hc1⟩ <;> (go_wp2_with fail; go_ret3; exact ⟨by rw [← HANS.out]; rfl, hb⟩)
     ·have hans := HA.out
      rw [wEnd_ok h10 (by omega) hgd hbad] at hans
      have HANS := Lib.hid hans
      have hbound := gval_u64 (s := l) (p := p) h10 (fun e => by rw [hgd]; omega)
      have hsub : (¬ (p : Int) < (k : Int) ∧ ((k : Int) - (p : Int) == 9) = false) ∨ ((p : Int) < (k : Int) ∧ ((c.toNat : Int) == 0) = false ∧ ((k : Int) - (p : Int) == 9) = false) ∨ ((p : Int) < (k : Int) ∧ ((c.toNat : Int) == 0) = false ∧ ((k : Int) - (p : Int) == 9) = true ∧ ¬ (1 : Int) < (c.toNat : Int)) := by
       by_cases h0 : r = 0
       ·exact .inl ⟨by omega, by rw [beq_eq_false_iff_ne]; omega⟩
       ·by_cases h9 : r = 9
        ·exact .inr (.inr ⟨by omega, by rw [beq_eq_false_iff_ne]; omega, by rw [beq_iff_eq]; omega, by omega⟩)
        ·exact .inr (.inl ⟨by omega, by rw [beq_eq_false_iff_ne]; omega, by rw [beq_eq_false_iff_ne]; omega⟩)
      clear hans HA hbad hgd
      rcases hsub with ⟨g1, h9⟩ | ⟨g1, hc0, h9⟩ | ⟨g1, hc0, h9, hc1⟩
      ·go_wp2_with fail
       go_loopg [4, 8] (r + 1) (fun gk nv jv wr => ∃ m : Nat, m ≤ r + 1 ∧ r + 1 - m ≤ gk ∧ jv = .int .i64 ((p : Int) + (r : Int) - (m : Int)) ∧ nv = .int .u64 ((gval l (p + r + 1 - m) m : Nat) : Int) ∧ Below w.heap.size w wr)
       case atStart => exact ⟨0, Nat.zero_le _, by omega, by rw [show (k : Int) = (p : Int) + (r : Int) - ((0 : Nat) : Int) by omega], rfl, hb⟩
       case round =>
        obtain ⟨m, hm, hgm, rfl, rfl, hbm⟩ := hrel
        by_cases hmr : m < r + 1
        ·obtain ⟨jn, hjn⟩ : ∃ jn, p + r - m = jn := ⟨_, rfl⟩
         have ej : (p : Int) + (r : Int) - (m : Int) = (jn : Int) := by omega
         have eg : p + r + 1 - m = jn + 1 := by omega
         have hjl : jn < l.length := by omega
         obtain ⟨d, hd⟩ : ∃ d, l[jn]? = some d := ⟨_, List.getElem?_eq_getElem hjl⟩
         have HD := Lib.hid hd
         have E2 : (⟨l.toArray⟩ : ByteArray)[jn]'(by simpa [ByteArray.size] using hjl) = d := byte_at' HD.out _
         have hlow := gval_low l m jn
         have hpart := gval_part l (jn - p) p (m + 1)
         rw [show p + (jn - p) = jn by omega, show m + 1 + (jn - p) = r + 1 by omega] at hpart
         have hgd2 : l.getD jn 0 = d := by simp [List.getD, hd]
         rw [hgd2] at hlow
         rw [ej, eg]
         obtain ⟨G, hG⟩ : ∃ G, gval l (jn + 1) m = G := ⟨_, rfl⟩
         rw [hG] at hlow ⊢
         have hj1 : (p : Int) ≤ (jn : Int) := by omega
         have hj2 : (jn : Int) < (l.length : Int) := by omega
         have hb1 := Nat.lt_of_le_of_lt hpart hbound
         have HNX : Hid (G * 128 + d.toNat % 128 = gval l jn (m + 1)) := Lib.hid (by omega)
         have HLT := Lib.hid hb1
         clear hd hlow hpart hgd2 ej eg hG hb1 hbound
         go_wp2_with fail
         have hw : IntKind.u64.wrap (IntKind.u64.wrap ((G : Int) * 128) + (d.toNat : Int) % 128) = ((gval l jn (m + 1) : Nat) : Int) := by
          have h1 := HNX.out
          have h2 := HLT.out
          rw [Go.IntWalk.u64_in ((G : Int) * 128) (by omega), Go.IntWalk.u64_in _ (by omega)]
          omega
         rw [hw]
         clear hw
         go_roundg (r + 1 - (m + 1))
         case measure => omega
         case rel => exact ⟨m + 1, by omega, Nat.le_refl _, by rw [show (jn : Int) - 1 = (p : Int) + (r : Int) - ((m + 1 : Nat) : Int) by omega], by rw [show p + r + 1 - (m + 1) = jn by omega], hbm⟩
        ·obtain rfl : m = r + 1 := by omega
         have j1 : ¬ (p : Int) ≤ (p : Int) + (r : Int) - ((r + 1 : Nat) : Int) := by omega
         go_wp2_with fail
         go_ret3
         refine ⟨?_, hbm⟩
         have e : (k : Int) + 1 = ((p + r + 1 : Nat) : Int) := by omega
         rw [← HANS.out, e]
         rfl
      ·go_wp2_with fail
       go_loopg [4, 8] (r + 1) (fun gk nv jv wr => ∃ m : Nat, m ≤ r + 1 ∧ r + 1 - m ≤ gk ∧ jv = .int .i64 ((p : Int) + (r : Int) - (m : Int)) ∧ nv = .int .u64 ((gval l (p + r + 1 - m) m : Nat) : Int) ∧ Below w.heap.size w wr)
       case atStart => exact ⟨0, Nat.zero_le _, by omega, by rw [show (k : Int) = (p : Int) + (r : Int) - ((0 : Nat) : Int) by omega], rfl, hb⟩
       case round =>
        obtain ⟨m, hm, hgm, rfl, rfl, hbm⟩ := hrel
        by_cases hmr : m < r + 1
        ·obtain ⟨jn, hjn⟩ : ∃ jn, p + r - m = jn := ⟨_, rfl⟩
         have ej : (p : Int) + (r : Int) - (m : Int) = (jn : Int) := by omega
         have eg : p + r + 1 - m = jn + 1 := by omega
         have hjl : jn < l.length := by omega
         obtain ⟨d, hd⟩ : ∃ d, l[jn]? = some d := ⟨_, List.getElem?_eq_getElem hjl⟩
         have HD := Lib.hid hd
         have E2 : (⟨l.toArray⟩ : ByteArray)[jn]'(by simpa [ByteArray.size] using hjl) = d := byte_at' HD.out _
         have hlow := gval_low l m jn
         have hpart := gval_part l (jn - p) p (m + 1)
         rw [show p + (jn - p) = jn by omega, show m + 1 + (jn - p) = r + 1 by omega] at hpart
         have hgd2 : l.getD jn 0 = d := by simp [List.getD, hd]
         rw [hgd2] at hlow
         rw [ej, eg]
         obtain ⟨G, hG⟩ : ∃ G, gval l (jn + 1) m = G := ⟨_, rfl⟩
         rw [hG] at hlow ⊢
         have hj1 : (p : Int) ≤ (jn : Int) := by omega
         have hj2 : (jn : Int) < (l.length : Int) := by omega
         have hb1 := Nat.lt_of_le_of_lt hpart hbound
         have HNX : Hid (G * 128 + d.toNat % 128 = gval l jn (m + 1)) := Lib.hid (by omega)
         have HLT := Lib.hid hb1
         clear hd hlow hpart hgd2 ej eg hG hb1 hbound
         go_wp2_with fail
         have hw : IntKind.u64.wrap (IntKind.u64.wrap ((G : Int) * 128) + (d.toNat : Int) % 128) = ((gval l jn (m + 1) : Nat) : Int) := by
          have h1 := HNX.out
          have h2 := HLT.out
          rw [Go.IntWalk.u64_in ((G : Int) * 128) (by omega), Go.IntWalk.u64_in _ (by omega)]
          omega
         rw [hw]
         clear hw
         go_roundg (r + 1 - (m + 1))
         case measure => omega
         case rel => exact ⟨m + 1, by omega, Nat.le_refl _, by rw [show (jn : Int) - 1 = (p : Int) + (r : Int) - ((m + 1 : Nat) : Int) by omega], by rw [show p + r + 1 - (m + 1) = jn by omega], hbm⟩
        ·obtain rfl : m = r + 1 := by omega
         have j1 : ¬ (p : Int) ≤ (p : Int) + (r : Int) - ((r + 1 : Nat) : Int) := by omega
         go_wp2_with fail
         go_ret3
         refine ⟨?_, hbm⟩
         have e : (k : Int) + 1 = ((p + r + 1 : Nat) : Int) := by omega
         rw [← HANS.out, e]
         rfl
      ·go_wp2_with fail
       go_loopg [4, 8] (r + 1) (fun gk nv jv wr => ∃ m : Nat, m ≤ r + 1 ∧ r + 1 - m ≤ gk ∧ jv = .int .i64 ((p : Int) + (r : Int) - (m : Int)) ∧ nv = .int .u64 ((gval l (p + r + 1 - m) m : Nat) : Int) ∧ Below w.heap.size w wr)
       case atStart => exact ⟨0, Nat.zero_le _, by omega, by rw [show (k : Int) = (p : Int) + (r : Int) - ((0 : Nat) : Int) by omega], rfl, hb⟩
       case round =>
        obtain ⟨m, hm, hgm, rfl, rfl, hbm⟩ := hrel
        by_cases hmr : m < r + 1
        ·obtain ⟨jn, hjn⟩ : ∃ jn, p + r - m = jn := ⟨_, rfl⟩
         have ej : (p : Int) + (r : Int) - (m : Int) = (jn : Int) := by omega
         have eg : p + r + 1 - m = jn + 1 := by omega
         have hjl : jn < l.length := by omega
         obtain ⟨d, hd⟩ : ∃ d, l[jn]? = some d := ⟨_, List.getElem?_eq_getElem hjl⟩
         have HD := Lib.hid hd
         have E2 : (⟨l.toArray⟩ : ByteArray)[jn]'(by simpa [ByteArray.size] using hjl) = d := byte_at' HD.out _
         have hlow := gval_low l m jn
         have hpart := gval_part l (jn - p) p (m + 1)
         rw [show p + (jn - p) = jn by omega, show m + 1 + (jn - p) = r + 1 by omega] at hpart
         have hgd2 : l.getD jn 0 = d := by simp [List.getD, hd]
         rw [hgd2] at hlow
         rw [ej, eg]
         obtain ⟨G, hG⟩ : ∃ G, gval l (jn + 1) m = G := ⟨_, rfl⟩
         rw [hG] at hlow ⊢
         have hj1 : (p : Int) ≤ (jn : Int) := by omega
         have hj2 : (jn : Int) < (l.length : Int) := by omega
         have hb1 := Nat.lt_of_le_of_lt hpart hbound
         have HNX : Hid (G * 128 + d.toNat % 128 = gval l jn (m + 1)) := Lib.hid (by omega)
         have HLT := Lib.hid hb1
         clear hd hlow hpart hgd2 ej eg hG hb1 hbound
         go_wp2_with fail
         have hw : IntKind.u64.wrap (IntKind.u64.wrap ((G : Int) * 128) + (d.toNat : Int) % 128) = ((gval l jn (m + 1) : Nat) : Int) := by
          have h1 := HNX.out
          have h2 := HLT.out
          rw [Go.IntWalk.u64_in ((G : Int) * 128) (by omega), Go.IntWalk.u64_in _ (by omega)]
          omega
         rw [hw]
         clear hw
         go_roundg (r + 1 - (m + 1))
         case measure => omega
         case rel => exact ⟨m + 1, by omega, Nat.le_refl _, by rw [show (jn : Int) - 1 = (p : Int) + (r : Int) - ((m + 1 : Nat) : Int) by omega], by rw [show p + r + 1 - (m + 1) = jn by omega], hbm⟩
        ·obtain rfl : m = r + 1 := by omega
         have j1 : ¬ (p : Int) ≤ (p : Int) + (r : Int) - ((r + 1 : Nat) : Int) := by omega
         go_wp2_with fail
         go_ret3
         refine ⟨?_, hbm⟩
         have e : (k : Int) + 1 = ((p + r + 1 : Nat) : Int) := by omega
         rw [← HANS.out, e]
         rfl
    ·have hans := HA.out
     rw [wEnd_long (by omega)] at hans
     have HANS := Lib.hid hans
     have h1 : ¬ (k : Int) - (p : Int) < 10 := by omega
     have h2 : (10 : Int) ≤ (k : Int) - (p : Int) := by omega
     clear hans HA
     go_wp2_with fail
     go_ret3
     exact ⟨by rw [← HANS.out]; rfl, hb⟩
set_option maxRecDepth 100000
set_option maxHeartbeats 1000000 in
theorem wbad_any (q : Nat) (w : World) :
  Calls Tryz.prog 35 #[.int .i64 q] w fun e w' => e = .returned (.tuple #[.slice none 0 0, .agg #[.int .i64 3, .int .i64 q]]) ∧ Below w.heap.size w w' := by
 go_enter Tryz.func35, Tryz.ntmps35
 go_wp2_with fail
 exact bodyPost_ret (v := .tuple #[.slice none 0 0, .agg #[.int .i64 3, .int .i64 q]]) (by simp [results, Tryz.results35, go_sem]) rfl ⟨rfl, by go_grown⟩
set_option maxRecDepth 100000
structure OBx (w : World) (base p : Nat) (v : Value) (out : Str) : Prop where
 c : w.cell? ⟨p, 0, none⟩ = some v
 f : w.frozen? ⟨p, 0, none⟩ = false
 r : ByteRow w base v out
 n : v.ownBlock ≠ some p
 b : base ≤ p
theorem OBx.lt {w : World} {base p : Nat} {v : Value} {out : Str} (h : OBx w base p v out) : p < w.heap.size := cell_lt h.c
theorem OBx.keep {w w' : World} {base p : Nat} {v : Value} {out : Str} (h : OBx w base p v out) (hb : Below w.heap.size w w') : OBx w' base p v out :=
 ⟨cell_keep h.c hb, (hb.frozen (p := ⟨p, 0, none⟩) h.lt).trans h.f, own_keep h.r hb (Nat.le_refl _), h.n, h.b⟩
theorem OBx.put {w w' : World} {base p : Nat} {v v' : Value} {out out' : Str} (h : OBx w base p v out) (hg : w.grownBy w' v.ownBlock) (hr : ByteRow w' base v' out') (hn : v'.ownBlock ≠ some p) : OBx (w'.setCell ⟨p, 0, none⟩ v') base p v' out' := by
 have hc : w'.cell? ⟨p, 0, none⟩ = some v := by
  have := hg.block p h.lt (fun e => h.n e.symm)
  have hc := h.c
  unfold World.cell? at hc ⊢
  rw [this]; exact hc
 have hf : w'.frozen? ⟨p, 0, none⟩ = false := by
  have := hg.block p h.lt (fun e => h.n e.symm)
  have hc := h.f
  unfold World.frozen? at hc ⊢
  rw [this]; exact hc
 refine ⟨World.cell?_setCell_same' w' _ _ (by rw [hc]; rfl), by rw [World.frozen?_setCell]; exact hf, ?_, hn, h.b⟩
 refine hr.kept (row := some p) ⟨rfl, rfl, rfl, by rw [World.size_setCell]; exact Nat.le_refl _, fun b hl hne => ?_⟩ (.inr (fun e => hn e))
 exact (Same.set (D := fun k => k ≠ p) (w := w') (p := ⟨p, 0, none⟩) (u := v') (fun h => h rfl)) b (fun e => hne (by rw [e])) hl
theorem gnum_ne (n : Nat) : gnum n ≠ [] := by
 by_cases h : n < 128
 ·rw [gnum_small h]; simp
 ·rw [gnum_big h]; simp
theorem byteRow_at {w : World} {base : Nat} {v : Value} {l : Str} (h : ByteRow w base v l) (hl : l ≠ []) : ∃ g cap, v = .slice (some ⟨g, 0, none⟩) l.length cap ∧ ∀ j u, (Lib.byteCells l)[j]? = some u → w.cell? ((⟨g, 0, none⟩ : Addr).add j) = some u := by
 have h' := h
 rcases h.2 with ⟨rfl, h0⟩ | ⟨g, cap, cur, rfl, -⟩
 ·exact absurd (List.eq_nil_of_length_eq_zero h0) hl
 ·exact ⟨g, cap, rfl, fun j u hj => h'.cells rfl j u hj⟩
theorem byteRow_ne {w : World} {base p : Nat} {v u : Value} {l : Str} (h : ByteRow w base v l) (hl : l ≠ []) (hc : w.cell? ⟨p, 0, none⟩ = some u) (hu : ∀ z, u ≠ .int .u8 z) : v.ownBlock ≠ some p := by
 obtain ⟨g, cap, rfl, hg⟩ := byteRow_at h hl
 intro e
 have e' : g = p := by simpa [Value.ownBlock] using e
 subst e'
 obtain ⟨b, r, rfl⟩ := List.exists_cons_of_ne_nil hl
 have := hg 0 (.int .u8 (b.toNat : Int)) (by simp [Lib.byteCells])
 have h0 : w.cell? ⟨g, 0, none⟩ = some (.int .u8 (b.toNat : Int)) := this
 rw [hc] at h0
 exact hu _ (Option.some.inj h0)
theorem byteCells_length (l : Str) : (Lib.byteCells l).length = l.length := by simp [Lib.byteCells]
theorem byteCells_one (l : Str) : ∀ u ∈ Lib.byteCells l, u.oneCell' = true := by
 intro u hu
 obtain ⟨b, -, rfl⟩ := List.mem_map.1 hu
 rfl
theorem OBx.grown {w w' : World} {base p : Nat} {v : Value} {out : Str} (h : OBx w base p v out) (hg : w.grownBy w' v.ownBlock) : w'.cell? ⟨p, 0, none⟩ = some v ∧ w'.frozen? ⟨p, 0, none⟩ = false := by
 have hb := hg.block p h.lt (fun e => h.n e.symm)
 have hc := h.c
 have hf := h.f
 unfold World.cell? at hc ⊢
 unfold World.frozen? at hf ⊢
 rw [hb]
 exact ⟨hc, hf⟩
set_option maxHeartbeats 4000000 in
theorem wtext1_any (base p : Nat) (v : Value) (out s : Str) (w : World) (h : OBx w base p v out) (hs : s.length ≤ 1048576) (hl : out.length ≤ 100000000) (hb : base ≤ w.heap.size) :
  Calls Tryz.prog 26 #[.string ⟨s.toArray⟩, .pointer (some ⟨p, 0, none⟩)] w fun e w' => e = .returned (.tuple #[]) ∧ (∃ v', OBx w' base p v' (out ++ gtext s)) ∧ Below base w w' := by
 obtain ⟨i0, hi, hz0, hz1, hz2⟩ := info_parts (show (Tryz.prog.info? 5).map (fun i => (i.zero, i.size, i.bytes)) = some (some (.int .u8 0), 1, 1) by kernel_rfl)
 have hss : (⟨s.toArray⟩ : ByteArray).size = s.length := by simp [ByteArray.size]
 have HSS := Lib.hid hss
 have hm : s.length < 18446744073709551616 := by omega
 have hsw : IntKind.u64.wrap (s.length : Int) = ((s.length : Nat) : Int) := Go.IntWalk.u64_in _ (by omega)
 have HSW := Lib.hid hsw
 clear hss hsw
 obtain ⟨A3, c3, rfl⟩ := own_form h.r
 have BX := Lib.hid h
 have hpb := h.b
 clear h
 go_enter Tryz.func26, Tryz.ntmps26
 go_wp2_with fail
 have HSd := Lib.hid (show (fun w' : World => w'.cell? ⟨p, 0, none⟩ = some (.slice A3 out.length c3)) w.drew from BX.out.c)
 refine wp_region_T 6 (fun w' : World => w'.cell? ⟨p, 0, none⟩ = some (.slice A3 out.length c3)) (by kernel_rfl) ?_
 refine zT 0 ?_ rfl (Or.inl ⟨by rfl, ?_⟩) HSd.out ?_
 rotate_left
 ·(intro wq hSw; have z6 : wq.cell? ⟨p, 0, none⟩ = some (.slice A3 out.length c3) := hSw; go_simp; all_goals (first | (with_reducible rfl) | (rw [zI])))
 simp only [zA, zB, zC, Act.put, zD, zE, zF]
 refine zT 1 ?_ rfl (Or.inl ⟨by rfl, ?_⟩) HSd.out ?_
 rotate_left
 ·(intro wq hSw; have z6 : wq.cell? ⟨p, 0, none⟩ = some (.slice A3 out.length c3) := hSw; go_simp; all_goals (first | (with_reducible rfl) | (rw [zI])))
 simp only [zA, zB, zC, Act.put, zD, zE, zF]
 refine zT 2 ?_ rfl (Or.inl ⟨by rfl, ?_⟩) HSd.out ?_
 rotate_left
 ·(intro wq hSw; have z6 : wq.cell? ⟨p, 0, none⟩ = some (.slice A3 out.length c3) := hSw; go_simp; all_goals (first | (with_reducible rfl) | (rw [zI])))
 simp only [zA, zB, zC, Act.put, zD, zE, zF]
 refine zT 3 ?_ rfl (Or.inl ⟨by rfl, ?_⟩) HSd.out ?_
 rotate_left
 ·(intro wq hSw; have z6 : wq.cell? ⟨p, 0, none⟩ = some (.slice A3 out.length c3) := hSw; go_simp; all_goals (first | (with_reducible rfl) | (rw [zI])))
 simp only [zA, zB, zC, Act.put, zD, zE, zF]
 rw [HSW.out]
 refine zO 4 fun K hK => ?_
 go_simp
 refine (groups_any s.length w.drew hm).mono ?_
 rintro e w1 ⟨⟨vg, rfl, hg⟩, hbg⟩
 have hbg' : Below w.heap.size w w1 := chain (Below.refl w.heap.size w).drew hbg
 have hx1 := BX.out.keep hbg'
 refine hK.out _ _ (fun _ => hx1.c) ?_
 clear hK K
 try simp only [zA, zB, zC, Act.put, zD, zE, zF]
 obtain ⟨gb, gc, rfl, hgs⟩ := byteRow_at hg (gnum_ne _)
 have hgl := gnum_len10 hm
 refine zO 5 fun K hK => ?_
 refine step_app rt_bytes rfl (.tmp 3) (.tmp 7) rfl base (.slice A3 out.length c3) out.length (Lib.byteCells out) rfl hx1.r ⟨gb, 0, none⟩ (gnum s.length).length gc (Lib.byteCells (gnum s.length)) rfl (by rw [byteCells_length, Nat.mul_one]) hgs (byteCells_one _) (by unfold maxLen; omega) (by omega) (by have := hbg'.size; omega) (fun v3 w3 o1 o2 o3 o4 => ?_)
 obtain ⟨hc3, hf3⟩ := hx1.grown o2
 obtain ⟨A5, c5, rfl⟩ := own_form o1
 refine hK.out _ _ (fun _ => hc3) ?_
 clear hK K
 try simp only [zA, zB, zC, Act.put, zD, zE, zF]
 refine zO 6 fun K hK => ?_
 go_simp
 refine hK.out _ _ (fun h => absurd h (by decide)) ?_
 clear hK K
 try simp only [zA, zB, zC, Act.put, zD, zE, zF]
 refine wpT_done (by kernel_rfl) ?_
 have hx3 : OBx (w3.setCell ⟨p, 0, none⟩ (.slice A5 (out.length + (gnum s.length).length) c5)) base p (.slice A5 (out.length + (gnum s.length).length) c5) (out ++ gnum s.length) := hx1.put o2 (byteRow_app o1) (fun e => by rcases o3 with o3 | o3; exact hx1.n (o3.symm.trans e); rw [o3] at e; injection e with e; have := hx1.lt; omega)
 have hbw3 : Below base w (w3.setCell ⟨p, 0, none⟩ (.slice A5 (out.length + (gnum s.length).length) c5)) := ((hbg'.mono hb).trans o4).setCell (p := ⟨p, 0, none⟩) hpb _
 have hrl : out.length + (gnum s.length).length ≤ 100000010 := by omega
 have hal : (out ++ gnum s.length).length = out.length + (gnum s.length).length := List.length_append
 generalize w3.setCell ⟨p, 0, none⟩ (.slice A5 (out.length + (gnum s.length).length) c5) = W3 at hx3 hbw3 ⊢
 clear o1 o2 o3 o4 hc3 hf3 hx1 hgs hg hbg hbg' HSd BX
 obtain ⟨R, hR⟩ : ∃ R, out ++ gnum s.length = R := ⟨_, rfl⟩
 obtain ⟨RL, hRL⟩ : ∃ RL, out.length + (gnum s.length).length = RL := ⟨_, rfl⟩
 rw [hRL] at hx3 hrl hal ⊢
 rw [hR] at hx3 hal
 have HR := Lib.hid hR
 have HX := Lib.hid hx3
 have y0 := hx3.c
 have y1 := hx3.f
 have y2 : W3.ownsRow base 5 1 (.slice A5 RL c5) RL (Lib.byteCells R) := by have := hx3.r; unfold ByteRow at this; rw [hal] at this; exact this
 have HAL := Lib.hid hal
 have hlt := hx3.lt
 clear hR hRL hgl hx3 hal
 go_wp2_with (at_builtin; refine Lib.wpList_append_own_string _ rfl (.tmp 9) (.tmp 10) 62 9 rfl base 5 i0 Tryz.underlying62 Tryz.underlying9 hi hz0 hz1 hz2 _ _ _ rfl y2 ⟨s.toArray⟩ rfl ?c3 ?c4 ?c5 ?_)
 case c3 => rw [HSS.out]; unfold maxLen; omega
 case c4 => rw [HSS.out]; omega
 case c5 => have := hbw3.size; omega
 intro v2 w2 o1 o2 o3
 have e1 : Lib.strCells ⟨s.toArray⟩ = Lib.byteCells s := by simp [Lib.byteCells, Lib.strCells]
 rw [e1, ← HAL.out] at o1
 have hr2 : ByteRow w2 base v2 (R ++ s) := byteRow_app o1
 have hne : R ++ s ≠ [] := by rw [← HR.out]; simp [gnum_ne]
 obtain ⟨hc2, hf2⟩ := HX.out.grown o2
 have hn2 : v2.ownBlock ≠ some p := byteRow_ne hr2 hne hc2 (fun z e => by cases e)
 obtain ⟨A6, c6, rfl⟩ := own_form hr2
 have hx4 := HX.out.put o2 hr2 hn2
 have hbf : Below base w (w2.setCell ⟨p, 0, none⟩ (.slice A6 (R ++ s).length c6)) := (hbw3.trans ((Below.refl base W3).grown o2 (by have := hbw3.size; omega) (fun k hk => (y2.lt k hk).1))).setCell (p := ⟨p, 0, none⟩) hpb _
 have hfin : R ++ s = out ++ gtext s := by rw [← HR.out, List.append_assoc]; rfl
 clear o1 o2 o3 y0 y1 y2 e1 hr2
 have HFIN := Lib.hid hfin
 generalize (R ++ s).length = M at hx4 hbf ⊢
 clear hfin hn2
 go_wp2_with fail
 refine bodyPost_end (results_none rfl _ _ _) rfl ?_
 exact ⟨rfl, ⟨_, by rw [← HFIN.out]; exact hx4⟩, hbf⟩
end Go.Proofs.YtpidjanngbaiiaaGreatDoor
