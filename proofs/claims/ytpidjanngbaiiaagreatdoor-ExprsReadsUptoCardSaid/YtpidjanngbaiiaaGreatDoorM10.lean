/-
  The program's reader of expressions: blanks, words and signs, figures, how it fails.
  The reference's pieces of an expression's text: the walk, from numbers on.
-/
import Derived.Test.YtpidjanngbaiiaaGreatDoorM8
import Derived.Test.YtpidjanngbaiiaaGreatDoorM4
import Derived.Test.YtpidjanngbaiiaaGreatDoorM7
namespace Go.Proofs.YtpidjanngbaiiaaGreatDoor
open Go.RowKit Go.Proofs

set_option maxRecDepth 100000
set_option maxHeartbeats 1000000 in
theorem eblanks_any (l : Str) (b p : Nat) (w : World) (hl : l.length ≤ 2000) (hp : p ≤ l.length) (hR : RBox w b l p) :
  Calls Tryz.prog 54 #[.pointer (some ⟨b, 0, none⟩)] w fun e w' => e = .returned (.tuple #[]) ∧ w.grownBy w' (some b) ∧ RBox w' b l (sk l p) := by
 obtain ⟨Q, hQ⟩ : ∃ x, sk l p = x := ⟨_, rfl⟩
 rw [hQ]
 have HQ := Lib.hid hQ; clear hQ
 go_enter Tryz.func54, Tryz.ntmps54
 go_wp2_with fail
 go_loopg [] (l.length - p) (fun gk wr => ∃ k, k ≤ l.length ∧ l.length - k ≤ gk ∧ sk l k = Q ∧ RBox wr b l k ∧ w.grownBy wr (some b))
 case atStart => exact ⟨p, hp, Nat.le_refl _, HQ.out, hR, ⟨rfl, rfl, rfl, Nat.le_refl _, fun _ _ _ => rfl⟩⟩
 case round =>
  obtain ⟨k, hk, hgk, hq, hB, hg⟩ := hrel
  have HK := Lib.hid hq; clear hq hR
  obtain ⟨c0, c1, fr, lt⟩ := id hB
  by_cases hlt : k < l.length
  ·obtain ⟨x, hx⟩ : ∃ x, l[k]? = some x := ⟨_, List.getElem?_eq_getElem hlt⟩
   have HX := Lib.hid hx; clear hx
   have E : (⟨l.toArray⟩ : ByteArray)[k]'(by simpa [ByteArray.size] using hlt) = x := byte_at' HX.out _
   have hlt' : (k : Int) < (l.length : Int) := by omega
   by_cases h32 : x = 32
   ·subst h32
    go_wp2_with fail
    go_quiet (fail)
    have hB2 := hB.drewN nq
    have hg2 := grown_drewN hg nq
    generalize wr.drewN nq = w2 at hB2 hg2 ⊢
    clear c0 c1 fr lt hB hg
    obtain ⟨c0, c1, fr, lt⟩ := id hB2
    go_wp2_with fail
    go_roundg (l.length - (k + 1))
    case measure => omega
    case rel => exact ⟨k + 1, by omega, Nat.le_refl _, by rw [← HK.out]; exact (sk_step HX.out).symm, by simpa using hB2.set (k + 1), grown_trans hg2 (grown_at _ _ _ _)⟩
   ·have h32' : ((x.toNat : Int) == 32) = false := by
     rw [beq_eq_false_iff_ne]
     intro e
     exact h32 (UInt8.toNat.inj (by simpa using (by omega : x.toNat = 32)))
    go_wp2_with fail
    go_quiet (fail)
    have hB2 := hB.drewN nq
    have hg2 := grown_drewN hg nq
    generalize wr.drewN nq = w2 at hB2 hg2 ⊢
    clear c0 c1 fr lt hB hg
    go_wp2_with fail
    go_end0
    refine ⟨rfl, hg2, ?_⟩
    rw [← HK.out, sk_stop HX.out h32]
    exact hB2
  ·have hlt' : decide ((k : Int) < (l.length : Int)) = false := by simp; omega
   go_wp2_with fail
   go_quiet (fail)
   have hB2 := hB.drewN nq
   have hg2 := grown_drewN hg nq
   generalize wr.drewN nq = w2 at hB2 hg2 ⊢
   clear c0 c1 fr lt hB hg
   go_wp2_with fail
   go_end0
   refine ⟨rfl, hg2, ?_⟩
   rw [← HK.out, sk_end (by omega)]
   exact hB2

def ethrown (e : Int) (q : Nat) : List PanicEntry := [{ v := .iface 107 (.agg #[.int .i64 e, .int .i64 q]), recovered := false }]
theorem efail_any (e : Int) (l : Str) (b p : Nat) (w : World) (hR : RBox w b l p) :
  Calls Tryz.prog 122 #[.pointer (some ⟨b, 0, none⟩), .int .i64 e] w fun e' w' => e' = .panicked (ethrown e p) ∧ w.grownBy w' (some b) := by
 obtain ⟨c0, c1, fr, lt⟩ := id hR
 go_enter Tryz.func122, Tryz.ntmps122
 go_wp2_with fail
 exact ⟨rfl, rfl, grown_refl w b⟩
theorem digit_any (c : UInt8) (w : World) : Calls Tryz.prog 120 #[.int .u8 c.toNat] w fun e w' => e = .returned (.bool (figb c)) ∧ w' = w := by
 go_enter Tryz.func120, Tryz.ntmps120
 go_wp2_with fail
 all_goals
  go_ret
  refine ⟨ret_bool ?_, rfl⟩
  rw [Bool.eq_iff_iff]
  simp [figb]
  try omega
theorem prefix_any (s p : Str) (w : World) : Calls Tryz.prog 124 #[.string ⟨s.toArray⟩, .string ⟨p.toArray⟩] w fun e w' => e = .returned (.bool (p.isPrefixOf s)) ∧ w' = w := Tryz.strings_HasPrefix ⟨s.toArray⟩ ⟨p.toArray⟩ w
theorem sgn_find (l : Str) (q : Nat) : sgn l q = (((signs.drop 0).find? fun s => s.isPrefixOf (l.drop q)).getD []) := rfl
set_option maxHeartbeats 2000000 in
theorem eword_any (l : Str) (b p : Nat) (w : World) (hl : l.length ≤ 2000) (hp : p ≤ l.length) (hR : RBox w b l p) :
  Calls Tryz.prog 86 #[.pointer (some ⟨b, 0, none⟩)] w fun e w' => e = .returned (.string ⟨(eword l p).toArray⟩) ∧ w.grownBy w' (some b) ∧ RBox w' b l (sk l p) := by
 have hs := sk_le hp
 have hcall := eblanks_any l b p w hl hp hR
 obtain ⟨ANS, hA⟩ : ∃ x, eword l p = x := ⟨_, rfl⟩
 have HA := Lib.hid hA
 rw [hA]
 clear hA
 unfold eword at HA
 obtain ⟨q, hQ⟩ : ∃ x, sk l p = x := ⟨_, rfl⟩
 rw [hQ] at hs hcall HA ⊢
 clear hQ
 obtain ⟨WD, hW⟩ : ∃ x, wd l q = x := ⟨_, rfl⟩
 rw [hW] at HA
 have HW := Lib.hid hW; clear hW
 go_enter Tryz.func86, Tryz.ntmps86
 go_wp2_with fail
 refine hcall.mono ?_; clear hcall
 rintro e w1 ⟨rfl, hg1, hB1⟩
 obtain ⟨c0, c1, fr, lt⟩ := id hB1
 have g1 : ¬ (l.length : Int) < (q : Int) := by omega
 have g2 : ¬ (q : Int) < 0 := by omega
 have g3 : 0 ≤ (q : Int) ∧ (q : Int) ≤ (l.length : Int) := by omega
 have g4 : (q : Int) ≤ (l.length : Int) := by omega
 have g5 : (l.length : Int) ≤ 2000 := by omega
 go_wp2_with fail
 go_quiet (fail)
 have hB2 := hB1.drewN nq
 have hg2 := grown_drewN hg1 nq
 generalize w1.drewN nq = w2 at hB2 hg2 ⊢
 clear c0 c1 fr lt hB1 hg1
 have hDl : (l.drop q).length = l.length - q := List.length_drop
 have hT := tw_take lowb (l.drop q)
 have hTl := (List.dropWhile_sublist lowb (l := l.drop q)).length_le
 go_wp2_with fail
 refine (trim_any' _ _).mono ?_
 rintro e w3 ⟨rfl, hb3⟩
 have hB3 := hB2.keep hb3
 have hg3 := grown_belowB hg2 hb3
 have hsp : l.drop q = WD ++ (l.drop q).dropWhile lowb := by rw [← HW.out]; exact wd_split l q
 have hWD : Hid ((l.drop q).take ((l.drop q).length - ((l.drop q).dropWhile lowb).length) = WD) := Lib.hid (hT.trans HW.out)
 have hWl : (l.drop q).length = WD.length + ((l.drop q).dropWhile lowb).length := by
  have := congrArg List.length hsp
  rwa [List.length_append] at this
 clear hsp hT
 have hfind := sgn_find l q
 obtain ⟨SG, hSG⟩ : ∃ x, sgn l q = x := ⟨_, rfl⟩
 rw [hSG] at hfind HA
 have HF := Lib.hid hfind
 clear hfind hSG
 generalize (l.drop q).dropWhile lowb = T at hTl hWD hWl ⊢
 generalize l.drop q = D at hDl hTl hWD hWl HF ⊢
 clear hB2 hg2 hb3 HW
 clear w2
 have k1 : ((D.length : Int) - (T.length : Int)) = (WD.length : Int) := by omega
 have k2 : (WD.length : Int) ≤ (D.length : Int) := by omega
 have e1 : D.length - T.length = WD.length := by omega
 rw [e1] at hWD
 rw [hDl] at k2 k1
 clear hDl hTl e1
 by_cases h0 : WD = []
 ·subst h0
  have A := HA.out
  rw [if_pos rfl] at A
  subst A
  simp only [List.length_nil] at k1 k2
  go_wp2_with fail
  have hcells : ∀ (k : Nat) (s : Str), signs[k]? = some s → (w3.alloc (.cells #[.string ⟨#[43, 43]⟩, .string ⟨#[60, 61]⟩, .string ⟨#[61, 61]⟩, .string ⟨#[43]⟩, .string ⟨#[45]⟩, .string ⟨#[42]⟩, .string ⟨#[47]⟩, .string ⟨#[37]⟩, .string ⟨#[60]⟩, .string ⟨#[35]⟩, .string ⟨#[40]⟩, .string ⟨#[41]⟩] 9)).cell? ⟨w3.heap.size, k, none⟩ = some (.string ⟨s.toArray⟩) := by
   intro k s hk
   match k, hk with
   | 0, hk | 1, hk | 2, hk | 3, hk | 4, hk | 5, hk | 6, hk | 7, hk | 8, hk | 9, hk | 10, hk | 11, hk =>
    simp [signs] at hk
    subst hk
    simp [go_sem]
   | k + 12, hk => simp [signs] at hk
  have hbA : Below w3.heap.size w3 (w3.alloc (.cells #[.string ⟨#[43, 43]⟩, .string ⟨#[60, 61]⟩, .string ⟨#[61, 61]⟩, .string ⟨#[43]⟩, .string ⟨#[45]⟩, .string ⟨#[42]⟩, .string ⟨#[47]⟩, .string ⟨#[37]⟩, .string ⟨#[60]⟩, .string ⟨#[35]⟩, .string ⟨#[40]⟩, .string ⟨#[41]⟩] 9)) := by go_grown
  generalize (w3.alloc (.cells #[.string ⟨#[43, 43]⟩, .string ⟨#[60, 61]⟩, .string ⟨#[61, 61]⟩, .string ⟨#[43]⟩, .string ⟨#[45]⟩, .string ⟨#[42]⟩, .string ⟨#[47]⟩, .string ⟨#[37]⟩, .string ⟨#[60]⟩, .string ⟨#[35]⟩, .string ⟨#[40]⟩, .string ⟨#[41]⟩] 9)) = w4 at hcells hbA ⊢
  have hB4 := hB3.keep hbA
  have hg4 := grown_belowB hg3 hbA
  generalize w3.heap.size = X at hcells ⊢
  clear hbA hB3 hg3
  go_loop [31] (fun i => ∃ k : Nat, k ≤ 12 ∧ i = .int .i64 k ∧ Hid (SG = ((signs.drop k).find? fun s => s.isPrefixOf D).getD [])) (fun i => 12 - (intOf i).toNat)
  case atStart => exact ⟨0, by omega, rfl, HF⟩
  case round =>
   obtain ⟨k, hk, rfl, hf⟩ := hrel
   by_cases hlt : k < 12
   ·obtain ⟨s, hsk⟩ : ∃ x, signs[k]? = some x := ⟨_, List.getElem?_eq_getElem (by simpa [signs] using hlt)⟩
    have hc := hcells k s hsk
    have hf' : SG = if s.isPrefixOf D = true then s else ((signs.drop (k + 1)).find? fun s => s.isPrefixOf D).getD [] := by
     have := hf.out
     rw [List.drop_eq_getElem_cons (List.getElem?_eq_some_iff.1 hsk).1, (List.getElem?_eq_some_iff.1 hsk).2, List.find?_cons] at this
     rw [this]
     cases s.isPrefixOf D <;> rfl
    have hlt' : (k : Int) < 12 := by omega
    have HF' := Lib.hid hf'
    clear hf hf' hsk
    cases hpre : s.isPrefixOf D with
    | true =>
     have hcl := fun W => prefix_any D s W
     rw [hpre] at hcl
     have A := HF'.out
     rw [hpre, if_pos rfl] at A
     subst A
     have HC := Lib.hid hcl
     clear hcl HF'
     go_wp2_with fail
     refine (HC.out _).mono ?_
     rintro e w5 ⟨rfl, rfl⟩
     go_wp2_with fail
     go_ret
     exact ⟨rfl, hg4, hB4⟩
    | false =>
     have hcl := fun W => prefix_any D s W
     rw [hpre] at hcl
     have A := HF'.out
     rw [hpre, if_neg (by simp)] at A
     have HC := Lib.hid hcl
     have HN := Lib.hid A
     clear hcl HF' A
     go_wp2_with fail
     refine (HC.out _).mono ?_
     rintro e w5 ⟨rfl, rfl⟩
     go_wp2_with fail
     go_round
     case rel => exact ⟨k + 1, by omega, by go_num, HN⟩
     case measure => simp [intOf]; omega
   ·have hk12 : k = 12 := by omega
    subst hk12
    have A := hf.out
    simp [signs] at A
    subst A
    go_wp2_with fail
    go_ret
    exact ⟨rfl, hg4, hB4⟩
 ·have hpos : (0 : Int) < (WD.length : Int) := by
   have := List.length_pos_iff.2 h0
   omega
  have A := HA.out
  rw [if_neg h0] at A
  subst A
  go_wp2_with fail
  go_ret
  refine ⟨?_, hg3, hB3⟩
  show Ending.returned (.string ⟨(D.take WD.length).toArray⟩) = _
  rw [hWD.out]
set_option maxRecDepth 100000
def cdSnd : Code → Code
 | .seq _ c => c
 | c => c
theorem toList_mk (s : Str) : (⟨s.toArray⟩ : ByteArray).toList = s := by simp [go_sem]
noncomputable def pcT3 : Code := cdSnd (cdSnd (Tryz.f56.body.getD .skip))
noncomputable def pcT14 : Code := cdSnd (cdSnd (cdSnd (cdSnd pcT3)))
noncomputable def pcT25 : Code := cdSnd pcT14
noncomputable def pcT28 : Code := cdSnd (cdSnd pcT25)
noncomputable def pcT30 : Code := cdSnd pcT28
noncomputable def pcT37 : Code := cdSnd pcT30
set_option maxHeartbeats 8000000 in
theorem pc_37 (l : Str) (k : Nat) (op : Bool) (X0 X : Nat) (w wr : World) (hl : l.length ≤ 2000) (hk : k < l.length) (hX0 : w.heap.size ≤ X0) (hX : X0 < X) (PB : PcBox wr X ⟨[], 0, 0, [], false, k, k, 0, false⟩) (XB : PcBox wr X0 zeroPc) (hb : Below w.heap.size w wr) (SG : Str) (hS : Hid (SG = ((signs.drop 0).find? fun s => s.isPrefixOf (l.drop k)).getD [])) (u3 u4 u5 u8 u9 u10 u11 u12 u13 u14 u15 u16 u17 u18 u19 u20 u21 u22 u23 u24 u25 u26 u27 u28 u29 u30 u31 u32 u33 u34 u35 u36 u37 u38 u39 u40 u41 u42 u43 u44 u45 u46 u47 u48 u49 u50 u51 u52 u53 u54 u55 u56 u57 u58 u59 u60 u61 u62 u63 u64 u65 u66 u67 u68 u69 u70 u71 u72 u73 u74 u75 u76 u77 u78 u79 u80 u81 u82 u83 u84 u85 u86 u87 u88 u89 u90 u91 u92 u93 u94 u95 u96 u97 u98 u99 u100 u101 u102 u103 u104 u105 u106 u107 u108 u109 u110 u111 u112 u113 u114 u115 u116 u117 u118 u119 u120 u121 u122 u123 u124 u125 u126 u127 u128 u129 u130 u131 u132 u133 u134 u135 u136 u137 u138 u139 u140 u141 u142 u143 u144 u145 u146 u147 u148 u149 u150 u151 u152 u153 u154 u155 u156 u157 u158 u159 u160 u161 u162 u163 u164 u165 u166 u167 u168 u169 u170 u171 u172 u173 u174 u175 u176 u177 u178 u179 u180 u181 u182 u183 u184 u185 u186 u187 u188 u189 u190 u191 u192 u193 u194 u195 u196 u197 u198 u199 u200 u201 u202 u203 u204 : Value) :
  Code.wp Tryz.prog pcT37 (bodyPost Tryz.prog Tryz.f56 fun e0 w' => e0 = .returned (pcV (if SG = [] then ⟨[], 0, 0, [], false, k, k, 3, false⟩ else ⟨SG, 0, 0, [], false, k, k + SG.length, 0, false⟩)) ∧ Below w.heap.size w w') { tmps := #[.string ⟨l.toArray⟩, .int .i64 (k : Int), .bool op, u3, u4, u5, .pointer (some ⟨X0, 0, none⟩), .pointer (some ⟨X, 0, none⟩), u8, u9, u10, u11, u12, u13, u14, u15, u16, u17, u18, u19, u20, u21, u22, u23, u24, u25, u26, u27, u28, u29, u30, u31, u32, u33, u34, u35, u36, u37, u38, u39, u40, u41, u42, u43, u44, u45, u46, u47, u48, u49, u50, u51, u52, u53, u54, u55, u56, u57, u58, u59, u60, u61, u62, u63, u64, u65, u66, u67, u68, u69, u70, u71, u72, u73, u74, u75, u76, u77, u78, u79, u80, u81, u82, u83, u84, u85, u86, u87, u88, u89, u90, u91, u92, u93, u94, u95, u96, u97, u98, u99, u100, u101, u102, u103, u104, u105, u106, u107, u108, u109, u110, u111, u112, u113, u114, u115, u116, u117, u118, u119, u120, u121, u122, u123, u124, u125, u126, u127, u128, u129, u130, u131, u132, u133, u134, u135, u136, u137, u138, u139, u140, u141, u142, u143, u144, u145, u146, u147, u148, u149, u150, u151, u152, u153, u154, u155, u156, u157, u158, u159, u160, u161, u162, u163, u164, u165, u166, u167, u168, u169, u170, u171, u172, u173, u174, u175, u176, u177, u178, u179, u180, u181, u182, u183, u184, u185, u186, u187, u188, u189, u190, u191, u192, u193, u194, u195, u196, u197, u198, u199, u200, u201, u202, u203, u204], defers := [] } wr := by
 have hd1 : ¬ X0 = X := by omega
 have hd2 : ¬ X = X0 := by omega
 have h : pcT37 = Code.seq _ _ := rfl
 rw [h]
 clear h
 obtain ⟨RES, hRES⟩ : ∃ c : Pc, (if SG = [] then (⟨[], 0, 0, [], false, k, k, 3, false⟩ : Pc) else ⟨SG, 0, 0, [], false, k, k + SG.length, 0, false⟩) = c := ⟨_, rfl⟩
 rw [hRES]
 have HRES := Lib.hid hRES
 clear hRES
 go_step
 go_step
 rename_i K1 h1
 have H1 := Lib.hid h1
 clear h1
 go_wp2_with fail
 have hcells : ∀ (i : Nat) (s : Str), signs[i]? = some s → (wr.alloc (.cells #[.string ⟨#[43, 43]⟩, .string ⟨#[60, 61]⟩, .string ⟨#[61, 61]⟩, .string ⟨#[43]⟩, .string ⟨#[45]⟩, .string ⟨#[42]⟩, .string ⟨#[47]⟩, .string ⟨#[37]⟩, .string ⟨#[60]⟩, .string ⟨#[35]⟩, .string ⟨#[40]⟩, .string ⟨#[41]⟩] 9)).cell? ⟨wr.heap.size, i, none⟩ = some (.string ⟨s.toArray⟩) := by
  intro i s hi
  match i, hi with
  | 0, hi | 1, hi | 2, hi | 3, hi | 4, hi | 5, hi | 6, hi | 7, hi | 8, hi | 9, hi | 10, hi | 11, hi =>
   simp [signs] at hi
   subst hi
   simp [go_sem]
  | i + 12, hi => simp [signs] at hi
 have hbA : Below wr.heap.size wr (wr.alloc (.cells #[.string ⟨#[43, 43]⟩, .string ⟨#[60, 61]⟩, .string ⟨#[61, 61]⟩, .string ⟨#[43]⟩, .string ⟨#[45]⟩, .string ⟨#[42]⟩, .string ⟨#[47]⟩, .string ⟨#[37]⟩, .string ⟨#[60]⟩, .string ⟨#[35]⟩, .string ⟨#[40]⟩, .string ⟨#[41]⟩] 9)) := by go_grown
 generalize (wr.alloc (.cells #[.string ⟨#[43, 43]⟩, .string ⟨#[60, 61]⟩, .string ⟨#[61, 61]⟩, .string ⟨#[43]⟩, .string ⟨#[45]⟩, .string ⟨#[42]⟩, .string ⟨#[47]⟩, .string ⟨#[37]⟩, .string ⟨#[60]⟩, .string ⟨#[35]⟩, .string ⟨#[40]⟩, .string ⟨#[41]⟩] 9)) = w4 at hcells hbA ⊢
 have PB4 := PB.keep hbA
 have XB4 := XB.keep hbA
 have hb4 := chain hb hbA
 generalize wr.heap.size = Y at hcells ⊢
 clear hbA PB XB hb
 go_loop [172] (fun i => ∃ j : Nat, j ≤ 12 ∧ i = .int .i64 j ∧ Hid (SG = ((signs.drop j).find? fun s => s.isPrefixOf (l.drop k)).getD [])) (fun i => 12 - (intOf i).toNat)
 case atStart => exact ⟨0, by omega, rfl, hS⟩
 case round =>
  obtain ⟨j, hj, rfl, hf⟩ := hrel
  by_cases hlt : j < 12
  ·obtain ⟨s, hsk⟩ : ∃ x, signs[j]? = some x := ⟨_, List.getElem?_eq_getElem (by simpa [signs] using hlt)⟩
   have hc := hcells j s hsk
   have hf' : SG = if s.isPrefixOf (l.drop k) = true then s else ((signs.drop (j + 1)).find? fun s => s.isPrefixOf (l.drop k)).getD [] := by
    have := hf.out
    rw [List.drop_eq_getElem_cons (List.getElem?_eq_some_iff.1 hsk).1, (List.getElem?_eq_some_iff.1 hsk).2, List.find?_cons] at this
    rw [this]
    cases s.isPrefixOf (l.drop k) <;> rfl
   have hlt' : (j : Int) < 12 := by omega
   have hs2 : 1 ≤ s.length ∧ s.length ≤ 2 := by
    have : s ∈ signs := List.mem_of_getElem? hsk
    simp only [signs, List.mem_cons, List.not_mem_nil, or_false] at this
    rcases this with h | h | h | h | h | h | h | h | h | h | h | h <;> subst h <;> decide
   have HF' := Lib.hid hf'
   clear hf hf' hsk
   have hpre : s.isPrefixOf (l.drop k) = decide ((l.drop k).take s.length = s) := by
    rw [Bool.eq_iff_iff, decide_eq_true_eq, List.isPrefixOf_iff_prefix, List.prefix_iff_eq_take]
    exact eq_comm
   by_cases hle : k + s.length ≤ l.length
   ·obtain ⟨z, hz⟩ : ∃ z, k + s.length = z := ⟨_, rfl⟩
    have hz' : (k : Int) + (s.length : Int) = (z : Int) := by omega
    have hzl : (z : Int) ≤ (l.length : Int) := by omega
    have hkz : (k : Int) ≤ (z : Int) := by omega
    have hzk : z - k = s.length := by omega
    by_cases heq : (l.drop k).take s.length = s
    ·have A := HF'.out
     rw [hpre, decide_eq_true heq, if_pos rfl] at A
     have hres : RES = ⟨s, 0, 0, [], false, k, z, 0, false⟩ := by
      rw [← HRES.out, if_neg (by rw [A]; intro e; rw [e] at hs2; simp at hs2), A, hz]
     subst hres
     have hcmp : ((((⟨l.toArray⟩ : ByteArray).extract k z).toList) == s) = true := by rw [ext_mid l k z, hzk, heq, toList_mk]; exact beq_self_eq_true s
     clear HF' A hz heq hpre
     go_step
     go_step
     rename_i Ka ha
     have Ha := Lib.hid ha
     clear ha
     go_wp2_with fail
     refine Ha.out _ _ ?_
     clear Ha
     go_step
     rename_i Kb hb
     have Hb := Lib.hid hb
     clear hb
     go_wp2_with fail
     refine Hb.out _ _ ?_
     clear Hb
     go_step
     go_step
     go_step
     rename_i Kd hd
     have HD := Lib.hid hd
     clear hd
     go_wp2_with fail
     refine HD.out _ _ ?_
     clear HD
     go_step
     rename_i Ke he
     have HE := Lib.hid he
     clear he
     go_wp2_with (rw [hz'])
     refine HE.out _ _ ?_
     clear HE
     go_step
     go_step
     rename_i Kf hf
     have HF := Lib.hid hf
     clear hf
     obtain ⟨p0, p1, p2, p3, p4, p5, p6, p7, p8, p9, p10⟩ := id PB4
     go_wp2_with (rw [hz'])
     have PB5 := (PB4.set0 s).set6 z
     have XB5 := (XB4.far (p := ⟨X, 0, none⟩) hd2 (.string ⟨s.toArray⟩)).far (p := ⟨X, 6, none⟩) hd2 (.int .i64 (z : Int))
     have hb5 := (hb4.setCell (p := ⟨X, 0, none⟩) (by show w.heap.size ≤ X; omega) (.string ⟨s.toArray⟩)).setCell (p := ⟨X, 6, none⟩) (by show w.heap.size ≤ X; omega) (.int .i64 (z : Int))
     generalize (w4.setCell ⟨X, 0, none⟩ (.string ⟨s.toArray⟩)).setCell ⟨X, 6, none⟩ (.int .i64 (z : Int)) = w5 at PB5 XB5 hb5 ⊢
     clear p0 p1 p2 p3 p4 p5 p6 p7 p8 p9 p10 PB4 XB4 hb4
     refine HF.out _ _ ?_
     clear HF
     go_step
     rename_i K9 h9
     have H9 := Lib.hid h9
     clear h9
     obtain ⟨p0, p1, p2, p3, p4, p5, p6, p7, p8, p9, p10⟩ := id PB5
     obtain ⟨x0, x1, x2, x3, x4, x5, x6, x7, x8, x9, x10⟩ := id XB5
     go_wp2_with fail
     obtain ⟨WF, hW⟩ : ∃ wF, (((((((((w5.setCell ⟨X0, 0, none⟩ (.string ⟨s.toArray⟩)).setCell ⟨X0, 1, none⟩ (.int .i64 0)).setCell ⟨X0, 2, none⟩ (.int .i64 0)).setCell ⟨X0, 3, none⟩ (.string ⟨#[]⟩)).setCell ⟨X0, 4, none⟩ (.bool false)).setCell ⟨X0, 5, none⟩ (.int .i64 (k : Int))).setCell ⟨X0, 6, none⟩ (.int .i64 (z : Int))).setCell ⟨X0, 7, none⟩ (.int .i64 0)).setCell ⟨X0, 8, none⟩ (.bool false)) = wF := ⟨_, rfl⟩
     rw [hW]
     obtain ⟨hF, hbF⟩ := pc_finish (c := ⟨s, 0, 0, [], false, k, z, 0, false⟩) hX0 hb5 XB5 hW
     clear hW p0 p1 p2 p3 p4 p5 p6 p7 p8 p9 p10 x0 x1 x2 x3 x4 x5 x6 x7 x8 x9 x10
     obtain ⟨d0, d1, d2, d3, d4, d5, d6, d7, d8, d9, d10⟩ := hF
     refine H9.out _ _ ?_
     clear H9
     go_step
     (try simp only [Exit.inBlock, Exit.then])
     (try simp (config := { zetaDelta := true }) only [Exit.inBlock, Exit.then])
     refine bodyPost_ret (v := pcV ⟨s, 0, 0, [], false, k, z, 0, false⟩) ?_ ?_ ?_
     ·simp [results, Tryz.results56, go_sem, d0, d1, d2, d3, d4, d5, d6, d7, d8, pcV]
     ·rfl
     ·exact ⟨rfl, hbF⟩
    ·have A := HF'.out
     rw [hpre, decide_eq_false heq, if_neg (by simp)] at A
     have HN := Lib.hid A
     have hcmp : ((((⟨l.toArray⟩ : ByteArray).extract k z).toList) == s) = false := by rw [ext_mid l k z, hzk, toList_mk, beq_eq_false_iff_ne]; exact heq
     clear HF' A hz heq hpre
     go_wp2_with (rw [hz'])
     go_round
     case rel => exact ⟨j + 1, by omega, by go_num, HN⟩
     case measure => simp [intOf]; omega
   ·have hle' : ¬ (k : Int) + (s.length : Int) ≤ (l.length : Int) := by omega
    have A := HF'.out
    rw [hpre, decide_eq_false (fun e => hle (by have := congrArg List.length e; rw [List.length_take, List.length_drop] at this; omega)), if_neg (by simp)] at A
    have HN := Lib.hid A
    clear HF' A
    go_wp2_with fail
    go_round
    case rel => exact ⟨j + 1, by omega, by go_num, HN⟩
    case measure => simp [intOf]; omega
  ·have hk12 : j = 12 := by omega
   subst hk12
   have A := hf.out
   simp [signs] at A
   subst A
   have hres : RES = ⟨[], 0, 0, [], false, k, k, 3, false⟩ := by rw [← HRES.out, if_pos rfl]
   subst hres
   go_wp2_with fail
   refine H1.out _ _ ?_
   clear H1
   go_step
   rename_i K12 h12
   have H12 := Lib.hid h12
   clear h12
   obtain ⟨p0, p1, p2, p3, p4, p5, p6, p7, p8, p9, p10⟩ := id PB4
   go_wp2_with fail
   have PB12 := PB4.set7 3
   have XB12 := XB4.far (p := ⟨X, 7, none⟩) hd2 (.int .i64 3)
   have hb12 := hb4.setCell (p := ⟨X, 7, none⟩) (by show w.heap.size ≤ X; omega) (.int .i64 3)
   change PcBox (w4.setCell ⟨X, 7, none⟩ (.int .i64 3)) _ _ at PB12
   generalize w4.setCell ⟨X, 7, none⟩ (.int .i64 3) = w5 at PB12 XB12 hb12 ⊢
   clear p0 p1 p2 p3 p4 p5 p6 p7 p8 p9 p10 PB4 XB4 hb4
   refine H12.out _ _ ?_
   clear H12
   go_step
   rename_i K9 h9
   have H9 := Lib.hid h9
   clear h9
   obtain ⟨p0, p1, p2, p3, p4, p5, p6, p7, p8, p9, p10⟩ := id PB12
   obtain ⟨x0, x1, x2, x3, x4, x5, x6, x7, x8, x9, x10⟩ := id XB12
   go_wp2_with fail
   obtain ⟨WF, hW⟩ : ∃ wF, (((((((((w5.setCell ⟨X0, 0, none⟩ (.string ⟨#[]⟩)).setCell ⟨X0, 1, none⟩ (.int .i64 0)).setCell ⟨X0, 2, none⟩ (.int .i64 0)).setCell ⟨X0, 3, none⟩ (.string ⟨#[]⟩)).setCell ⟨X0, 4, none⟩ (.bool false)).setCell ⟨X0, 5, none⟩ (.int .i64 (k : Int))).setCell ⟨X0, 6, none⟩ (.int .i64 (k : Int))).setCell ⟨X0, 7, none⟩ (.int .i64 3)).setCell ⟨X0, 8, none⟩ (.bool false)) = wF := ⟨_, rfl⟩
   rw [hW]
   obtain ⟨hF, hbF⟩ := pc_finish (c := ⟨[], 0, 0, [], false, k, k, 3, false⟩) hX0 hb12 XB12 hW
   clear hW p0 p1 p2 p3 p4 p5 p6 p7 p8 p9 p10 x0 x1 x2 x3 x4 x5 x6 x7 x8 x9 x10
   obtain ⟨d0, d1, d2, d3, d4, d5, d6, d7, d8, d9, d10⟩ := hF
   refine H9.out _ _ ?_
   clear H9
   go_step
   (try simp only [Exit.inBlock, Exit.then])
   (try simp (config := { zetaDelta := true }) only [Exit.inBlock, Exit.then])
   refine bodyPost_ret (v := pcV ⟨[], 0, 0, [], false, k, k, 3, false⟩) ?_ ?_ ?_
   ·simp [results, Tryz.results56, go_sem, d0, d1, d2, d3, d4, d5, d6, d7, d8, pcV]
   ·rfl
   ·exact ⟨rfl, hbF⟩
set_option maxHeartbeats 8000000 in
theorem pc_30z1 (l : Str) (k : Nat) (op : Bool) (X0 X : Nat) (w wr : World) (hl : l.length ≤ 2000) (hk : k < l.length) (hX0 : w.heap.size ≤ X0) (hX : X0 < X) (PB : PcBox wr X ⟨[], 0, 0, [], false, k, k, 0, false⟩) (XB : PcBox wr X0 zeroPc) (hb : Below w.heap.size w wr) (SG : Str) (hS : Hid (SG = ((signs.drop 0).find? fun s => s.isPrefixOf (l.drop k)).getD [])) (u3 u4 u5 u8 u9 u11 u12 u13 u14 u15 u16 u17 u18 u19 u20 u21 u22 u23 u24 u25 u26 u27 u28 u29 u30 u31 u32 u33 u34 u35 u36 u37 u38 u39 u40 u41 u42 u43 u44 u45 u46 u47 u48 u49 u50 u51 u52 u53 u54 u55 u56 u57 u58 u59 u60 u61 u62 u63 u64 u65 u66 u67 u68 u69 u70 u71 u72 u73 u74 u75 u76 u77 u78 u79 u80 u81 u82 u83 u84 u85 u86 u87 u88 u89 u90 u91 u92 u93 u94 u95 u96 u97 u98 u99 u100 u101 u102 u103 u104 u105 u106 u107 u108 u109 u110 u111 u112 u113 u114 u115 u116 u117 u118 u119 u120 u121 u122 u123 u124 u125 u126 u127 u128 u129 u130 u131 u132 u133 u134 u135 u136 u137 u138 u139 u140 u141 u142 u143 u144 u145 u146 u147 u148 u149 u150 u151 u152 u153 u154 u155 u156 u157 u158 u159 u160 u161 u162 u163 u164 u165 u166 u167 u168 u169 u170 u171 u172 u173 u174 u175 u176 u177 u178 u179 u180 u181 u182 u183 u184 u185 u186 u187 u188 u189 u190 u191 u192 u193 u194 u195 u196 u197 u198 u199 u200 u201 u202 u203 u204 : Value) :
  Code.wp Tryz.prog pcT30 (bodyPost Tryz.prog Tryz.f56 fun e0 w' => e0 = .returned (pcV (if SG = [] then ⟨[], 0, 0, [], false, k, k, 3, false⟩ else ⟨SG, 0, 0, [], false, k, k + SG.length, 0, false⟩)) ∧ Below w.heap.size w w') { tmps := #[.string ⟨l.toArray⟩, .int .i64 (k : Int), .bool op, u3, u4, u5, .pointer (some ⟨X0, 0, none⟩), .pointer (some ⟨X, 0, none⟩), u8, u9, .int .i64 (k : Int), u11, u12, u13, u14, u15, u16, u17, u18, u19, u20, u21, u22, u23, u24, u25, u26, u27, u28, u29, u30, u31, u32, u33, u34, u35, u36, u37, u38, u39, u40, u41, u42, u43, u44, u45, u46, u47, u48, u49, u50, u51, u52, u53, u54, u55, u56, u57, u58, u59, u60, u61, u62, u63, u64, u65, u66, u67, u68, u69, u70, u71, u72, u73, u74, u75, u76, u77, u78, u79, u80, u81, u82, u83, u84, u85, u86, u87, u88, u89, u90, u91, u92, u93, u94, u95, u96, u97, u98, u99, u100, u101, u102, u103, u104, u105, u106, u107, u108, u109, u110, u111, u112, u113, u114, u115, u116, u117, u118, u119, u120, u121, u122, u123, u124, u125, u126, u127, u128, u129, u130, u131, u132, u133, u134, u135, u136, u137, u138, u139, u140, u141, u142, u143, u144, u145, u146, u147, u148, u149, u150, u151, u152, u153, u154, u155, u156, u157, u158, u159, u160, u161, u162, u163, u164, u165, u166, u167, u168, u169, u170, u171, u172, u173, u174, u175, u176, u177, u178, u179, u180, u181, u182, u183, u184, u185, u186, u187, u188, u189, u190, u191, u192, u193, u194, u195, u196, u197, u198, u199, u200, u201, u202, u203, u204], defers := [] } wr := by
 have hd1 : ¬ X0 = X := by omega
 have hd2 : ¬ X = X0 := by omega
 have h : pcT30 = Code.seq _ _ := rfl
 rw [h]
 clear h
 go_step
 go_step
 rename_i K1 h1
 have H1 := Lib.hid h1
 clear h1
 go_step
 rename_i K1c h1c
 have H1c := Lib.hid h1c
 clear h1c
 go_wp2_with fail
 refine H1c.out _ _ ?_
 clear H1c
 go_step
 go_step
 refine H1.out _ _ ?_
 clear H1
 exact pc_37 l k op X0 X w wr hl hk hX0 hX PB XB hb SG hS _ _ _ _ _ _ _ _ _ _ _ _ _ _ _ _ _ _ _ _ _ _ _ _ _ _ _ _ _ _ _ _ _ _ _ _ _ _ _ _ _ _ _ _ _ _ _ _ _ _ _ _ _ _ _ _ _ _ _ _ _ _ _ _ _ _ _ _ _ _ _ _ _ _ _ _ _ _ _ _ _ _ _ _ _ _ _ _ _ _ _ _ _ _ _ _ _ _ _ _ _ _ _ _ _ _ _ _ _ _ _ _ _ _ _ _ _ _ _ _ _ _ _ _ _ _ _ _ _ _ _ _ _ _ _ _ _ _ _ _ _ _ _ _ _ _ _ _ _ _ _ _ _ _ _ _ _ _ _ _ _ _ _ _ _ _ _ _ _ _ _ _ _ _ _ _ _ _ _ _ _ _ _ _ _ _ _ _ _ _ _ _ _ _ _ _ _ _ _ _
set_option maxHeartbeats 8000000 in
theorem pc_30z2 (l : Str) (k : Nat) (op : Bool) (X0 X : Nat) (w wr : World) (hl : l.length ≤ 2000) (hk : k < l.length) (hX0 : w.heap.size ≤ X0) (hX : X0 < X) (PB : PcBox wr X ⟨[], 0, 0, [], false, k, k, 0, false⟩) (XB : PcBox wr X0 zeroPc) (hb : Below w.heap.size w wr) (e : Nat) (he : k + 1 = e) (hm : l[k]? = some 45) (SG : Str) (hS : Hid (SG = ((signs.drop 0).find? fun s => s.isPrefixOf (l.drop k)).getD [])) (u3 u4 u5 u8 u9 u11 u12 u13 u14 u15 u16 u17 u18 u19 u20 u21 u22 u23 u24 u25 u26 u27 u28 u29 u30 u31 u32 u33 u34 u35 u36 u37 u38 u39 u40 u41 u42 u43 u44 u45 u46 u47 u48 u49 u50 u51 u52 u53 u54 u55 u56 u57 u58 u59 u60 u61 u62 u63 u64 u65 u66 u67 u68 u69 u70 u71 u72 u73 u74 u75 u76 u77 u78 u79 u80 u81 u82 u83 u84 u85 u86 u87 u88 u89 u90 u91 u92 u93 u94 u95 u96 u97 u98 u99 u100 u101 u102 u103 u104 u105 u106 u107 u108 u109 u110 u111 u112 u113 u114 u115 u116 u117 u118 u119 u120 u121 u122 u123 u124 u125 u126 u127 u128 u129 u130 u131 u132 u133 u134 u135 u136 u137 u138 u139 u140 u141 u142 u143 u144 u145 u146 u147 u148 u149 u150 u151 u152 u153 u154 u155 u156 u157 u158 u159 u160 u161 u162 u163 u164 u165 u166 u167 u168 u169 u170 u171 u172 u173 u174 u175 u176 u177 u178 u179 u180 u181 u182 u183 u184 u185 u186 u187 u188 u189 u190 u191 u192 u193 u194 u195 u196 u197 u198 u199 u200 u201 u202 u203 u204 : Value) :
  Code.wp Tryz.prog pcT30 (bodyPost Tryz.prog Tryz.f56 fun e0 w' => e0 = .returned (pcV (if SG = [] then ⟨[], 0, 0, [], false, k, k, 3, false⟩ else ⟨SG, 0, 0, [], false, k, k + SG.length, 0, false⟩)) ∧ Below w.heap.size w w') { tmps := #[.string ⟨l.toArray⟩, .int .i64 (k : Int), .bool op, u3, u4, u5, .pointer (some ⟨X0, 0, none⟩), .pointer (some ⟨X, 0, none⟩), u8, u9, .int .i64 (e : Int), u11, u12, u13, u14, u15, u16, u17, u18, u19, u20, u21, u22, u23, u24, u25, u26, u27, u28, u29, u30, u31, u32, u33, u34, u35, u36, u37, u38, u39, u40, u41, u42, u43, u44, u45, u46, u47, u48, u49, u50, u51, u52, u53, u54, u55, u56, u57, u58, u59, u60, u61, u62, u63, u64, u65, u66, u67, u68, u69, u70, u71, u72, u73, u74, u75, u76, u77, u78, u79, u80, u81, u82, u83, u84, u85, u86, u87, u88, u89, u90, u91, u92, u93, u94, u95, u96, u97, u98, u99, u100, u101, u102, u103, u104, u105, u106, u107, u108, u109, u110, u111, u112, u113, u114, u115, u116, u117, u118, u119, u120, u121, u122, u123, u124, u125, u126, u127, u128, u129, u130, u131, u132, u133, u134, u135, u136, u137, u138, u139, u140, u141, u142, u143, u144, u145, u146, u147, u148, u149, u150, u151, u152, u153, u154, u155, u156, u157, u158, u159, u160, u161, u162, u163, u164, u165, u166, u167, u168, u169, u170, u171, u172, u173, u174, u175, u176, u177, u178, u179, u180, u181, u182, u183, u184, u185, u186, u187, u188, u189, u190, u191, u192, u193, u194, u195, u196, u197, u198, u199, u200, u201, u202, u203, u204], defers := [] } wr := by
 have hd1 : ¬ X0 = X := by omega
 have hd2 : ¬ X = X0 := by omega
 have h : pcT30 = Code.seq _ _ := rfl
 rw [h]
 clear h
 have he1 : (e : Int) - 1 = (k : Int) := by omega
 have hke : (k : Int) < (e : Int) := by omega
 have hk' : (k : Int) < (l.length : Int) := by omega
 have E : (⟨l.toArray⟩ : ByteArray)[k]'(by simpa [ByteArray.size] using hk) = 45 := byte_at' hm _
 clear hm he
 go_step
 go_step
 rename_i K1 h1
 have H1 := Lib.hid h1
 clear h1
 go_step
 rename_i K1c h1c
 have H1c := Lib.hid h1c
 clear h1c
 go_wp2_with (rw [he1])
 refine H1c.out _ _ ?_
 clear H1c
 go_step
 go_step
 refine H1.out _ _ ?_
 clear H1
 exact pc_37 l k op X0 X w wr hl hk hX0 hX PB XB hb SG hS _ _ _ _ _ _ _ _ _ _ _ _ _ _ _ _ _ _ _ _ _ _ _ _ _ _ _ _ _ _ _ _ _ _ _ _ _ _ _ _ _ _ _ _ _ _ _ _ _ _ _ _ _ _ _ _ _ _ _ _ _ _ _ _ _ _ _ _ _ _ _ _ _ _ _ _ _ _ _ _ _ _ _ _ _ _ _ _ _ _ _ _ _ _ _ _ _ _ _ _ _ _ _ _ _ _ _ _ _ _ _ _ _ _ _ _ _ _ _ _ _ _ _ _ _ _ _ _ _ _ _ _ _ _ _ _ _ _ _ _ _ _ _ _ _ _ _ _ _ _ _ _ _ _ _ _ _ _ _ _ _ _ _ _ _ _ _ _ _ _ _ _ _ _ _ _ _ _ _ _ _ _ _ _ _ _ _ _ _ _ _ _ _ _ _ _ _ _ _ _
set_option maxHeartbeats 8000000 in
theorem pc_30n (l : Str) (k : Nat) (op : Bool) (X0 X : Nat) (w wr : World) (hl : l.length ≤ 2000) (hk : k < l.length) (hX0 : w.heap.size ≤ X0) (hX : X0 < X) (PB : PcBox wr X ⟨[], 0, 0, [], false, k, k, 0, false⟩) (XB : PcBox wr X0 zeroPc) (hb : Below w.heap.size w wr) (hT : Tabs w) (e e1 : Nat) (he : k < e) (hel : e ≤ l.length) (he1 : e1 + 1 = e) (y : UInt8) (hy : l[e1]? = some y) (hyf : ((y.toNat : Int) == 45) = false) (hN : Hid (numR ((l.drop k).take (e - k)) = none)) (u3 u4 u5 u8 u9 u11 u12 u13 u14 u15 u16 u17 u18 u19 u20 u21 u22 u23 u24 u25 u26 u27 u28 u29 u30 u31 u32 u33 u34 u35 u36 u37 u38 u39 u40 u41 u42 u43 u44 u45 u46 u47 u48 u49 u50 u51 u52 u53 u54 u55 u56 u57 u58 u59 u60 u61 u62 u63 u64 u65 u66 u67 u68 u69 u70 u71 u72 u73 u74 u75 u76 u77 u78 u79 u80 u81 u82 u83 u84 u85 u86 u87 u88 u89 u90 u91 u92 u93 u94 u95 u96 u97 u98 u99 u100 u101 u102 u103 u104 u105 u106 u107 u108 u109 u110 u111 u112 u113 u114 u115 u116 u117 u118 u119 u120 u121 u122 u123 u124 u125 u126 u127 u128 u129 u130 u131 u132 u133 u134 u135 u136 u137 u138 u139 u140 u141 u142 u143 u144 u145 u146 u147 u148 u149 u150 u151 u152 u153 u154 u155 u156 u157 u158 u159 u160 u161 u162 u163 u164 u165 u166 u167 u168 u169 u170 u171 u172 u173 u174 u175 u176 u177 u178 u179 u180 u181 u182 u183 u184 u185 u186 u187 u188 u189 u190 u191 u192 u193 u194 u195 u196 u197 u198 u199 u200 u201 u202 u203 u204 : Value) :
  Code.wp Tryz.prog pcT30 (bodyPost Tryz.prog Tryz.f56 fun e0 w' => e0 = .returned (pcV ⟨[], 1, 0, [], true, k, e, 3, false⟩) ∧ Below w.heap.size w w') { tmps := #[.string ⟨l.toArray⟩, .int .i64 (k : Int), .bool op, u3, u4, u5, .pointer (some ⟨X0, 0, none⟩), .pointer (some ⟨X, 0, none⟩), u8, u9, .int .i64 (e : Int), u11, u12, u13, u14, u15, u16, u17, u18, u19, u20, u21, u22, u23, u24, u25, u26, u27, u28, u29, u30, u31, u32, u33, u34, u35, u36, u37, u38, u39, u40, u41, u42, u43, u44, u45, u46, u47, u48, u49, u50, u51, u52, u53, u54, u55, u56, u57, u58, u59, u60, u61, u62, u63, u64, u65, u66, u67, u68, u69, u70, u71, u72, u73, u74, u75, u76, u77, u78, u79, u80, u81, u82, u83, u84, u85, u86, u87, u88, u89, u90, u91, u92, u93, u94, u95, u96, u97, u98, u99, u100, u101, u102, u103, u104, u105, u106, u107, u108, u109, u110, u111, u112, u113, u114, u115, u116, u117, u118, u119, u120, u121, u122, u123, u124, u125, u126, u127, u128, u129, u130, u131, u132, u133, u134, u135, u136, u137, u138, u139, u140, u141, u142, u143, u144, u145, u146, u147, u148, u149, u150, u151, u152, u153, u154, u155, u156, u157, u158, u159, u160, u161, u162, u163, u164, u165, u166, u167, u168, u169, u170, u171, u172, u173, u174, u175, u176, u177, u178, u179, u180, u181, u182, u183, u184, u185, u186, u187, u188, u189, u190, u191, u192, u193, u194, u195, u196, u197, u198, u199, u200, u201, u202, u203, u204], defers := [] } wr := by
 have hd1 : ¬ X0 = X := by omega
 have hd2 : ¬ X = X0 := by omega
 have h : pcT30 = Code.seq _ _ := rfl
 rw [h]
 clear h
 have he1' : (e : Int) - 1 = (e1 : Int) := by omega
 have hke : (k : Int) < (e : Int) := by omega
 have h1l : e1 < l.length := by omega
 have hk' : (e1 : Int) < (l.length : Int) := by omega
 have E : (⟨l.toArray⟩ : ByteArray)[e1]'(by simpa [ByteArray.size] using h1l) = y := byte_at' hy _
 clear hy he1
 go_step
 go_step
 rename_i K1 h1
 have H1 := Lib.hid h1
 clear h1
 go_step
 rename_i K1c h1c
 have H1c := Lib.hid h1c
 clear h1c
 go_wp2_with (rw [he1'])
 refine H1c.out _ _ ?_
 clear H1c
 go_step
 go_step
 rename_i K2 h2
 have H2 := Lib.hid h2
 clear h2
 obtain ⟨p0, p1, p2, p3, p4, p5, p6, p7, p8, p9, p10⟩ := id PB
 go_wp2_with fail
 have PB2 := (PB.set4 true).set6 e
 have XB2 := (XB.far (p := ⟨X, 4, none⟩) hd2 (.bool true)).far (p := ⟨X, 6, none⟩) hd2 (.int .i64 (e : Int))
 have hb2 := (hb.setCell (p := ⟨X, 4, none⟩) (by show w.heap.size ≤ X; omega) (.bool true)).setCell (p := ⟨X, 6, none⟩) (by show w.heap.size ≤ X; omega) (.int .i64 (e : Int))
 generalize (wr.setCell ⟨X, 4, none⟩ (.bool true)).setCell ⟨X, 6, none⟩ (.int .i64 (e : Int)) = w2 at PB2 XB2 hb2 ⊢
 clear p0 p1 p2 p3 p4 p5 p6 p7 p8 p9 p10 PB XB hb
 refine H2.out _ _ ?_
 clear H2
 go_step
 rename_i K3 h3
 have H3 := Lib.hid h3
 clear h3
 have g6 : (e : Int) ≤ (l.length : Int) := by omega
 have g7 : (k : Int) ≤ (e : Int) := by omega
 go_wp2_with fail
 rw [ext_mid l k e]
 refine (number_any _ w2 (by simp only [List.length_take, List.length_drop]; omega)).mono ?_
 rw [hN.out, show numRes none = .returned (.tuple #[.int .i64 0, .bool false]) from rfl]
 rintro e0 w3 ⟨rfl, hb⟩
 have PB3 := PB2.keep hb
 have XB3 := XB2.keep hb
 have hb3 := chain hb2 hb
 clear hb PB2 XB2 hb2
 go_wp2_with fail
 refine H3.out _ _ ?_
 clear H3
 go_step
 rename_i K4 h4
 have H4 := Lib.hid h4
 clear h4
 obtain ⟨p0, p1, p2, p3, p4, p5, p6, p7, p8, p9, p10⟩ := id PB3
 go_wp2_with fail
 have PB4 := ((PB3.set1 1).set2 0).set3 []
 have XB4 := ((XB3.far (p := ⟨X, 1, none⟩) hd2 (.int .i64 1)).far (p := ⟨X, 2, none⟩) hd2 (.int .i64 0)).far (p := ⟨X, 3, none⟩) hd2 (.string ⟨#[]⟩)
 have hb4 := ((hb3.setCell (p := ⟨X, 1, none⟩) (by show w.heap.size ≤ X; omega) (.int .i64 1)).setCell (p := ⟨X, 2, none⟩) (by show w.heap.size ≤ X; omega) (.int .i64 0)).setCell (p := ⟨X, 3, none⟩) (by show w.heap.size ≤ X; omega) (.string ⟨#[]⟩)
 change PcBox (((w3.setCell ⟨X, 1, none⟩ (.int .i64 1)).setCell ⟨X, 2, none⟩ (.int .i64 0)).setCell ⟨X, 3, none⟩ (.string ⟨#[]⟩)) _ _ at PB4
 generalize (((w3.setCell ⟨X, 1, none⟩ (.int .i64 1)).setCell ⟨X, 2, none⟩ (.int .i64 0)).setCell ⟨X, 3, none⟩ (.string ⟨#[]⟩)) = w4 at PB4 XB4 hb4 ⊢
 clear p0 p1 p2 p3 p4 p5 p6 p7 p8 p9 p10 PB3 XB3 hb3
 refine H4.out _ _ ?_
 clear H4
 go_step
 rename_i K5 h5
 have H5 := Lib.hid h5
 clear h5
 go_step
 rename_i K5c h5c
 have H5c := Lib.hid h5c
 clear h5c
 go_wp2_with fail
 refine H5c.out _ _ ?_
 clear H5c
 go_step
 obtain ⟨p0, p1, p2, p3, p4, p5, p6, p7, p8, p9, p10⟩ := id PB4
 go_wp2_with fail
 have PB16 := PB4.set7 3
 have XB16 := XB4.far (p := ⟨X, 7, none⟩) hd2 (.int .i64 3)
 have hb16 := hb4.setCell (p := ⟨X, 7, none⟩) (by show w.heap.size ≤ X; omega) (.int .i64 3)
 generalize w4.setCell ⟨X, 7, none⟩ (.int .i64 3) = w6 at PB16 XB16 hb16 ⊢
 clear p0 p1 p2 p3 p4 p5 p6 p7 p8 p9 p10 PB4 XB4 hb4
 refine H5.out _ _ ?_
 clear H5
 go_step
 rename_i K9 h9
 have H9 := Lib.hid h9
 clear h9
 obtain ⟨p0, p1, p2, p3, p4, p5, p6, p7, p8, p9, p10⟩ := id PB16
 obtain ⟨x0, x1, x2, x3, x4, x5, x6, x7, x8, x9, x10⟩ := id XB16
 go_wp2_with fail
 obtain ⟨WF, hW⟩ : ∃ wF, (((((((((w6.setCell ⟨X0, 0, none⟩ (.string ⟨#[]⟩)).setCell ⟨X0, 1, none⟩ (.int .i64 1)).setCell ⟨X0, 2, none⟩ (.int .i64 0)).setCell ⟨X0, 3, none⟩ (.string ⟨#[]⟩)).setCell ⟨X0, 4, none⟩ (.bool true)).setCell ⟨X0, 5, none⟩ (.int .i64 (k : Int))).setCell ⟨X0, 6, none⟩ (.int .i64 (e : Int))).setCell ⟨X0, 7, none⟩ (.int .i64 3)).setCell ⟨X0, 8, none⟩ (.bool false)) = wF := ⟨_, rfl⟩
 rw [hW]
 obtain ⟨hF, hbF⟩ := pc_finish (c := ⟨[], 1, 0, [], true, k, e, 3, false⟩) hX0 hb16 XB16 hW
 clear hW p0 p1 p2 p3 p4 p5 p6 p7 p8 p9 p10 x0 x1 x2 x3 x4 x5 x6 x7 x8 x9 x10
 obtain ⟨d0, d1, d2, d3, d4, d5, d6, d7, d8, d9, d10⟩ := hF
 refine H9.out _ _ ?_
 clear H9
 go_step
 (try simp only [Exit.inBlock, Exit.then])
 (try simp (config := { zetaDelta := true }) only [Exit.inBlock, Exit.then])
 refine bodyPost_ret (v := pcV ⟨[], 1, 0, [], true, k, e, 3, false⟩) ?_ ?_ ?_
 ·simp [results, Tryz.results56, go_sem, d0, d1, d2, d3, d4, d5, d6, d7, d8, pcV]
 ·rfl
 ·exact ⟨rfl, hbF⟩
set_option maxHeartbeats 8000000 in
theorem pc_30s (l : Str) (k : Nat) (op : Bool) (X0 X : Nat) (w wr : World) (hl : l.length ≤ 2000) (hk : k < l.length) (hX0 : w.heap.size ≤ X0) (hX : X0 < X) (PB : PcBox wr X ⟨[], 0, 0, [], false, k, k, 0, false⟩) (XB : PcBox wr X0 zeroPc) (hb : Below w.heap.size w wr) (hT : Tabs w) (e e1 : Nat) (he : k < e) (hel : e ≤ l.length) (he1 : e1 + 1 = e) (y : UInt8) (hy : l[e1]? = some y) (hyf : ((y.toNat : Int) == 45) = false) (n : Int) (hN : Hid (numR ((l.drop k).take (e - k)) = some n)) (u3 u4 u5 u8 u9 u11 u12 u13 u14 u15 u16 u17 u18 u19 u20 u21 u22 u23 u24 u25 u26 u27 u28 u29 u30 u31 u32 u33 u34 u35 u36 u37 u38 u39 u40 u41 u42 u43 u44 u45 u46 u47 u48 u49 u50 u51 u52 u53 u54 u55 u56 u57 u58 u59 u60 u61 u62 u63 u64 u65 u66 u67 u68 u69 u70 u71 u72 u73 u74 u75 u76 u77 u78 u79 u80 u81 u82 u83 u84 u85 u86 u87 u88 u89 u90 u91 u92 u93 u94 u95 u96 u97 u98 u99 u100 u101 u102 u103 u104 u105 u106 u107 u108 u109 u110 u111 u112 u113 u114 u115 u116 u117 u118 u119 u120 u121 u122 u123 u124 u125 u126 u127 u128 u129 u130 u131 u132 u133 u134 u135 u136 u137 u138 u139 u140 u141 u142 u143 u144 u145 u146 u147 u148 u149 u150 u151 u152 u153 u154 u155 u156 u157 u158 u159 u160 u161 u162 u163 u164 u165 u166 u167 u168 u169 u170 u171 u172 u173 u174 u175 u176 u177 u178 u179 u180 u181 u182 u183 u184 u185 u186 u187 u188 u189 u190 u191 u192 u193 u194 u195 u196 u197 u198 u199 u200 u201 u202 u203 u204 : Value) :
  Code.wp Tryz.prog pcT30 (bodyPost Tryz.prog Tryz.f56 fun e0 w' => e0 = .returned (pcV ⟨[], 1, n, [], true, k, e, 0, false⟩) ∧ Below w.heap.size w w') { tmps := #[.string ⟨l.toArray⟩, .int .i64 (k : Int), .bool op, u3, u4, u5, .pointer (some ⟨X0, 0, none⟩), .pointer (some ⟨X, 0, none⟩), u8, u9, .int .i64 (e : Int), u11, u12, u13, u14, u15, u16, u17, u18, u19, u20, u21, u22, u23, u24, u25, u26, u27, u28, u29, u30, u31, u32, u33, u34, u35, u36, u37, u38, u39, u40, u41, u42, u43, u44, u45, u46, u47, u48, u49, u50, u51, u52, u53, u54, u55, u56, u57, u58, u59, u60, u61, u62, u63, u64, u65, u66, u67, u68, u69, u70, u71, u72, u73, u74, u75, u76, u77, u78, u79, u80, u81, u82, u83, u84, u85, u86, u87, u88, u89, u90, u91, u92, u93, u94, u95, u96, u97, u98, u99, u100, u101, u102, u103, u104, u105, u106, u107, u108, u109, u110, u111, u112, u113, u114, u115, u116, u117, u118, u119, u120, u121, u122, u123, u124, u125, u126, u127, u128, u129, u130, u131, u132, u133, u134, u135, u136, u137, u138, u139, u140, u141, u142, u143, u144, u145, u146, u147, u148, u149, u150, u151, u152, u153, u154, u155, u156, u157, u158, u159, u160, u161, u162, u163, u164, u165, u166, u167, u168, u169, u170, u171, u172, u173, u174, u175, u176, u177, u178, u179, u180, u181, u182, u183, u184, u185, u186, u187, u188, u189, u190, u191, u192, u193, u194, u195, u196, u197, u198, u199, u200, u201, u202, u203, u204], defers := [] } wr := by
 have hd1 : ¬ X0 = X := by omega
 have hd2 : ¬ X = X0 := by omega
 have h : pcT30 = Code.seq _ _ := rfl
 rw [h]
 clear h
 have he1' : (e : Int) - 1 = (e1 : Int) := by omega
 have hke : (k : Int) < (e : Int) := by omega
 have h1l : e1 < l.length := by omega
 have hk' : (e1 : Int) < (l.length : Int) := by omega
 have E : (⟨l.toArray⟩ : ByteArray)[e1]'(by simpa [ByteArray.size] using h1l) = y := byte_at' hy _
 clear hy he1
 go_step
 go_step
 rename_i K1 h1
 have H1 := Lib.hid h1
 clear h1
 go_step
 rename_i K1c h1c
 have H1c := Lib.hid h1c
 clear h1c
 go_wp2_with (rw [he1'])
 refine H1c.out _ _ ?_
 clear H1c
 go_step
 go_step
 rename_i K2 h2
 have H2 := Lib.hid h2
 clear h2
 obtain ⟨p0, p1, p2, p3, p4, p5, p6, p7, p8, p9, p10⟩ := id PB
 go_wp2_with fail
 have PB2 := (PB.set4 true).set6 e
 have XB2 := (XB.far (p := ⟨X, 4, none⟩) hd2 (.bool true)).far (p := ⟨X, 6, none⟩) hd2 (.int .i64 (e : Int))
 have hb2 := (hb.setCell (p := ⟨X, 4, none⟩) (by show w.heap.size ≤ X; omega) (.bool true)).setCell (p := ⟨X, 6, none⟩) (by show w.heap.size ≤ X; omega) (.int .i64 (e : Int))
 generalize (wr.setCell ⟨X, 4, none⟩ (.bool true)).setCell ⟨X, 6, none⟩ (.int .i64 (e : Int)) = w2 at PB2 XB2 hb2 ⊢
 clear p0 p1 p2 p3 p4 p5 p6 p7 p8 p9 p10 PB XB hb
 refine H2.out _ _ ?_
 clear H2
 go_step
 rename_i K3 h3
 have H3 := Lib.hid h3
 clear h3
 have g6 : (e : Int) ≤ (l.length : Int) := by omega
 have g7 : (k : Int) ≤ (e : Int) := by omega
 go_wp2_with fail
 rw [ext_mid l k e]
 refine (number_any _ w2 (by simp only [List.length_take, List.length_drop]; omega)).mono ?_
 rw [hN.out, show numRes (some n) = .returned (.tuple #[.int .i64 n, .bool true]) from rfl]
 rintro e0 w3 ⟨rfl, hb⟩
 have PB3 := PB2.keep hb
 have XB3 := XB2.keep hb
 have hb3 := chain hb2 hb
 clear hb PB2 XB2 hb2
 go_wp2_with fail
 refine H3.out _ _ ?_
 clear H3
 go_step
 rename_i K4 h4
 have H4 := Lib.hid h4
 clear h4
 obtain ⟨p0, p1, p2, p3, p4, p5, p6, p7, p8, p9, p10⟩ := id PB3
 go_wp2_with fail
 have PB4 := ((PB3.set1 1).set2 n).set3 []
 have XB4 := ((XB3.far (p := ⟨X, 1, none⟩) hd2 (.int .i64 1)).far (p := ⟨X, 2, none⟩) hd2 (.int .i64 n)).far (p := ⟨X, 3, none⟩) hd2 (.string ⟨#[]⟩)
 have hb4 := ((hb3.setCell (p := ⟨X, 1, none⟩) (by show w.heap.size ≤ X; omega) (.int .i64 1)).setCell (p := ⟨X, 2, none⟩) (by show w.heap.size ≤ X; omega) (.int .i64 n)).setCell (p := ⟨X, 3, none⟩) (by show w.heap.size ≤ X; omega) (.string ⟨#[]⟩)
 change PcBox (((w3.setCell ⟨X, 1, none⟩ (.int .i64 1)).setCell ⟨X, 2, none⟩ (.int .i64 n)).setCell ⟨X, 3, none⟩ (.string ⟨#[]⟩)) _ _ at PB4
 generalize (((w3.setCell ⟨X, 1, none⟩ (.int .i64 1)).setCell ⟨X, 2, none⟩ (.int .i64 n)).setCell ⟨X, 3, none⟩ (.string ⟨#[]⟩)) = w4 at PB4 XB4 hb4 ⊢
 clear p0 p1 p2 p3 p4 p5 p6 p7 p8 p9 p10 PB3 XB3 hb3
 refine H4.out _ _ ?_
 clear H4
 go_step
 rename_i K5 h5
 have H5 := Lib.hid h5
 clear h5
 go_step
 rename_i K5c h5c
 have H5c := Lib.hid h5c
 clear h5c
 go_wp2_with fail
 refine H5c.out _ _ ?_
 clear H5c
 go_step
 go_step
 refine H5.out _ _ ?_
 clear H5
 go_step
 rename_i K9 h9
 have H9 := Lib.hid h9
 clear h9
 obtain ⟨p0, p1, p2, p3, p4, p5, p6, p7, p8, p9, p10⟩ := id PB4
 obtain ⟨x0, x1, x2, x3, x4, x5, x6, x7, x8, x9, x10⟩ := id XB4
 go_wp2_with fail
 obtain ⟨WF, hW⟩ : ∃ wF, (((((((((w4.setCell ⟨X0, 0, none⟩ (.string ⟨#[]⟩)).setCell ⟨X0, 1, none⟩ (.int .i64 1)).setCell ⟨X0, 2, none⟩ (.int .i64 n)).setCell ⟨X0, 3, none⟩ (.string ⟨#[]⟩)).setCell ⟨X0, 4, none⟩ (.bool true)).setCell ⟨X0, 5, none⟩ (.int .i64 (k : Int))).setCell ⟨X0, 6, none⟩ (.int .i64 (e : Int))).setCell ⟨X0, 7, none⟩ (.int .i64 0)).setCell ⟨X0, 8, none⟩ (.bool false)) = wF := ⟨_, rfl⟩
 rw [hW]
 obtain ⟨hF, hbF⟩ := pc_finish (c := ⟨[], 1, n, [], true, k, e, 0, false⟩) hX0 hb4 XB4 hW
 clear hW p0 p1 p2 p3 p4 p5 p6 p7 p8 p9 p10 x0 x1 x2 x3 x4 x5 x6 x7 x8 x9 x10
 obtain ⟨d0, d1, d2, d3, d4, d5, d6, d7, d8, d9, d10⟩ := hF
 refine H9.out _ _ ?_
 clear H9
 go_step
 (try simp only [Exit.inBlock, Exit.then])
 (try simp (config := { zetaDelta := true }) only [Exit.inBlock, Exit.then])
 refine bodyPost_ret (v := pcV ⟨[], 1, n, [], true, k, e, 0, false⟩) ?_ ?_ ?_
 ·simp [results, Tryz.results56, go_sem, d0, d1, d2, d3, d4, d5, d6, d7, d8, pcV]
 ·rfl
 ·exact ⟨rfl, hbF⟩
set_option maxHeartbeats 8000000 in
theorem pc_28 (l : Str) (k : Nat) (op : Bool) (X0 X : Nat) (w wr : World) (hl : l.length ≤ 2000) (hk : k < l.length) (hX0 : w.heap.size ≤ X0) (hX : X0 < X) (PB : PcBox wr X ⟨[], 0, 0, [], false, k, k, 0, false⟩) (XB : PcBox wr X0 zeroPc) (hb : Below w.heap.size w wr) (s0 e : Nat) (h0 : s0 ≤ l.length) (hf : Hid (s0 + ((l.drop s0).takeWhile figb).length = e)) (C : Pc) (hnext : Hid (∀ (u3 u4 u5 u8 u9 u11 u12 u13 u14 u15 u16 u17 u18 u19 u20 u21 u22 u23 u24 u25 u26 u27 u28 u29 u30 u31 u32 u33 u34 u35 u36 u37 u38 u39 u40 u41 u42 u43 u44 u45 u46 u47 u48 u49 u50 u51 u52 u53 u54 u55 u56 u57 u58 u59 u60 u61 u62 u63 u64 u65 u66 u67 u68 u69 u70 u71 u72 u73 u74 u75 u76 u77 u78 u79 u80 u81 u82 u83 u84 u85 u86 u87 u88 u89 u90 u91 u92 u93 u94 u95 u96 u97 u98 u99 u100 u101 u102 u103 u104 u105 u106 u107 u108 u109 u110 u111 u112 u113 u114 u115 u116 u117 u118 u119 u120 u121 u122 u123 u124 u125 u126 u127 u128 u129 u130 u131 u132 u133 u134 u135 u136 u137 u138 u139 u140 u141 u142 u143 u144 u145 u146 u147 u148 u149 u150 u151 u152 u153 u154 u155 u156 u157 u158 u159 u160 u161 u162 u163 u164 u165 u166 u167 u168 u169 u170 u171 u172 u173 u174 u175 u176 u177 u178 u179 u180 u181 u182 u183 u184 u185 u186 u187 u188 u189 u190 u191 u192 u193 u194 u195 u196 u197 u198 u199 u200 u201 u202 u203 u204 : Value), Code.wp Tryz.prog pcT30 (bodyPost Tryz.prog Tryz.f56 fun e0 w' => e0 = .returned (pcV C) ∧ Below w.heap.size w w') { tmps := #[.string ⟨l.toArray⟩, .int .i64 (k : Int), .bool op, u3, u4, u5, .pointer (some ⟨X0, 0, none⟩), .pointer (some ⟨X, 0, none⟩), u8, u9, .int .i64 (e : Int), u11, u12, u13, u14, u15, u16, u17, u18, u19, u20, u21, u22, u23, u24, u25, u26, u27, u28, u29, u30, u31, u32, u33, u34, u35, u36, u37, u38, u39, u40, u41, u42, u43, u44, u45, u46, u47, u48, u49, u50, u51, u52, u53, u54, u55, u56, u57, u58, u59, u60, u61, u62, u63, u64, u65, u66, u67, u68, u69, u70, u71, u72, u73, u74, u75, u76, u77, u78, u79, u80, u81, u82, u83, u84, u85, u86, u87, u88, u89, u90, u91, u92, u93, u94, u95, u96, u97, u98, u99, u100, u101, u102, u103, u104, u105, u106, u107, u108, u109, u110, u111, u112, u113, u114, u115, u116, u117, u118, u119, u120, u121, u122, u123, u124, u125, u126, u127, u128, u129, u130, u131, u132, u133, u134, u135, u136, u137, u138, u139, u140, u141, u142, u143, u144, u145, u146, u147, u148, u149, u150, u151, u152, u153, u154, u155, u156, u157, u158, u159, u160, u161, u162, u163, u164, u165, u166, u167, u168, u169, u170, u171, u172, u173, u174, u175, u176, u177, u178, u179, u180, u181, u182, u183, u184, u185, u186, u187, u188, u189, u190, u191, u192, u193, u194, u195, u196, u197, u198, u199, u200, u201, u202, u203, u204], defers := [] } wr)) (u3 u4 u5 u8 u9 u11 u12 u13 u14 u15 u16 u17 u18 u19 u20 u21 u22 u23 u24 u25 u26 u27 u28 u29 u30 u31 u32 u33 u34 u35 u36 u37 u38 u39 u40 u41 u42 u43 u44 u45 u46 u47 u48 u49 u50 u51 u52 u53 u54 u55 u56 u57 u58 u59 u60 u61 u62 u63 u64 u65 u66 u67 u68 u69 u70 u71 u72 u73 u74 u75 u76 u77 u78 u79 u80 u81 u82 u83 u84 u85 u86 u87 u88 u89 u90 u91 u92 u93 u94 u95 u96 u97 u98 u99 u100 u101 u102 u103 u104 u105 u106 u107 u108 u109 u110 u111 u112 u113 u114 u115 u116 u117 u118 u119 u120 u121 u122 u123 u124 u125 u126 u127 u128 u129 u130 u131 u132 u133 u134 u135 u136 u137 u138 u139 u140 u141 u142 u143 u144 u145 u146 u147 u148 u149 u150 u151 u152 u153 u154 u155 u156 u157 u158 u159 u160 u161 u162 u163 u164 u165 u166 u167 u168 u169 u170 u171 u172 u173 u174 u175 u176 u177 u178 u179 u180 u181 u182 u183 u184 u185 u186 u187 u188 u189 u190 u191 u192 u193 u194 u195 u196 u197 u198 u199 u200 u201 u202 u203 u204 : Value) :
  Code.wp Tryz.prog pcT28 (bodyPost Tryz.prog Tryz.f56 fun e0 w' => e0 = .returned (pcV C) ∧ Below w.heap.size w w') { tmps := #[.string ⟨l.toArray⟩, .int .i64 (k : Int), .bool op, u3, u4, u5, .pointer (some ⟨X0, 0, none⟩), .pointer (some ⟨X, 0, none⟩), u8, u9, .int .i64 (s0 : Int), u11, u12, u13, u14, u15, u16, u17, u18, u19, u20, u21, u22, u23, u24, u25, u26, u27, u28, u29, u30, u31, u32, u33, u34, u35, u36, u37, u38, u39, u40, u41, u42, u43, u44, u45, u46, u47, u48, u49, u50, u51, u52, u53, u54, u55, u56, u57, u58, u59, u60, u61, u62, u63, u64, u65, u66, u67, u68, u69, u70, u71, u72, u73, u74, u75, u76, u77, u78, u79, u80, u81, u82, u83, u84, u85, u86, u87, u88, u89, u90, u91, u92, u93, u94, u95, u96, u97, u98, u99, u100, u101, u102, u103, u104, u105, u106, u107, u108, u109, u110, u111, u112, u113, u114, u115, u116, u117, u118, u119, u120, u121, u122, u123, u124, u125, u126, u127, u128, u129, u130, u131, u132, u133, u134, u135, u136, u137, u138, u139, u140, u141, u142, u143, u144, u145, u146, u147, u148, u149, u150, u151, u152, u153, u154, u155, u156, u157, u158, u159, u160, u161, u162, u163, u164, u165, u166, u167, u168, u169, u170, u171, u172, u173, u174, u175, u176, u177, u178, u179, u180, u181, u182, u183, u184, u185, u186, u187, u188, u189, u190, u191, u192, u193, u194, u195, u196, u197, u198, u199, u200, u201, u202, u203, u204], defers := [] } wr := by
 have hd1 : ¬ X0 = X := by omega
 have hd2 : ¬ X = X0 := by omega
 have h : pcT28 = Code.seq _ _ := rfl
 rw [h]
 clear h
 go_step
 go_step
 rename_i K1 h1
 have H1 := Lib.hid h1
 clear h1
 go_step
 clear PB XB hb
 dsimp only
 go_loop [10] (fun i => ∃ j : Nat, j ≤ l.length ∧ i = .int .i64 j ∧ Hid (j + ((l.drop j).takeWhile figb).length = e)) (fun i => l.length - (intOf i).toNat)
 case atStart => exact ⟨s0, h0, rfl, hf⟩
 case round =>
  clear hf
  obtain ⟨j, hj, rfl, hf⟩ := hrel
  by_cases hjl : j < l.length
  ·obtain ⟨y, hy⟩ : ∃ y, l[j]? = some y := ⟨_, List.getElem?_eq_getElem hjl⟩
   have E2 : (⟨l.toArray⟩ : ByteArray)[j]'(by simpa [ByteArray.size] using hjl) = y := byte_at' hy _
   have hjl' : (j : Int) < (l.length : Int) := by omega
   have hf' := hf.out
   rw [drop_at hy, List.takeWhile_cons] at hf'
   by_cases c1 : 48 ≤ y.toNat
   ·have c1' : (48 : Int) ≤ (y.toNat : Int) := by omega
    by_cases c2 : y.toNat ≤ 57
    ·have c2' : (y.toNat : Int) ≤ 57 := by omega
     rw [show figb y = true by simp [figb, c1, c2], if_pos rfl, List.length_cons] at hf'
     have hF : Hid ((j + 1) + ((l.drop (j + 1)).takeWhile figb).length = e) := Lib.hid (by omega)
     clear hf hf' hy c1 c2
     go_wp2_with fail
     go_round
     case rel => exact ⟨j + 1, by omega, by go_num, hF⟩
     case measure => simp [intOf]; omega
    ·have c2' : ¬ (y.toNat : Int) ≤ 57 := by omega
     rw [show figb y = false by simp [figb, c2], if_neg (by simp)] at hf'
     obtain rfl : j = e := by simpa using hf'
     clear hf hf' hy c1 c2
     go_wp2_with fail
     refine H1.out _ _ ?_
     exact hnext.out _ _ _ _ _ _ _ _ _ _ _ _ _ _ _ _ _ _ _ _ _ _ _ _ _ _ _ _ _ _ _ _ _ _ _ _ _ _ _ _ _ _ _ _ _ _ _ _ _ _ _ _ _ _ _ _ _ _ _ _ _ _ _ _ _ _ _ _ _ _ _ _ _ _ _ _ _ _ _ _ _ _ _ _ _ _ _ _ _ _ _ _ _ _ _ _ _ _ _ _ _ _ _ _ _ _ _ _ _ _ _ _ _ _ _ _ _ _ _ _ _ _ _ _ _ _ _ _ _ _ _ _ _ _ _ _ _ _ _ _ _ _ _ _ _ _ _ _ _ _ _ _ _ _ _ _ _ _ _ _ _ _ _ _ _ _ _ _ _ _ _ _ _ _ _ _ _ _ _ _ _ _ _ _ _ _ _ _ _ _ _ _ _ _ _ _ _ _ _
   ·have c1' : ¬ (48 : Int) ≤ (y.toNat : Int) := by omega
    rw [show figb y = false by simp [figb, c1], if_neg (by simp)] at hf'
    obtain rfl : j = e := by simpa using hf'
    clear hf hf' hy c1
    go_wp2_with fail
    refine H1.out _ _ ?_
    exact hnext.out _ _ _ _ _ _ _ _ _ _ _ _ _ _ _ _ _ _ _ _ _ _ _ _ _ _ _ _ _ _ _ _ _ _ _ _ _ _ _ _ _ _ _ _ _ _ _ _ _ _ _ _ _ _ _ _ _ _ _ _ _ _ _ _ _ _ _ _ _ _ _ _ _ _ _ _ _ _ _ _ _ _ _ _ _ _ _ _ _ _ _ _ _ _ _ _ _ _ _ _ _ _ _ _ _ _ _ _ _ _ _ _ _ _ _ _ _ _ _ _ _ _ _ _ _ _ _ _ _ _ _ _ _ _ _ _ _ _ _ _ _ _ _ _ _ _ _ _ _ _ _ _ _ _ _ _ _ _ _ _ _ _ _ _ _ _ _ _ _ _ _ _ _ _ _ _ _ _ _ _ _ _ _ _ _ _ _ _ _ _ _ _ _ _ _ _ _ _ _
  ·have hjl' : ¬ (j : Int) < (l.length : Int) := by omega
   have hf' := hf.out
   rw [List.drop_eq_nil_of_le (by omega)] at hf'
   obtain rfl : j = e := by simpa using hf'
   clear hf hf'
   go_wp2_with fail
   refine H1.out _ _ ?_
   exact hnext.out _ _ _ _ _ _ _ _ _ _ _ _ _ _ _ _ _ _ _ _ _ _ _ _ _ _ _ _ _ _ _ _ _ _ _ _ _ _ _ _ _ _ _ _ _ _ _ _ _ _ _ _ _ _ _ _ _ _ _ _ _ _ _ _ _ _ _ _ _ _ _ _ _ _ _ _ _ _ _ _ _ _ _ _ _ _ _ _ _ _ _ _ _ _ _ _ _ _ _ _ _ _ _ _ _ _ _ _ _ _ _ _ _ _ _ _ _ _ _ _ _ _ _ _ _ _ _ _ _ _ _ _ _ _ _ _ _ _ _ _ _ _ _ _ _ _ _ _ _ _ _ _ _ _ _ _ _ _ _ _ _ _ _ _ _ _ _ _ _ _ _ _ _ _ _ _ _ _ _ _ _ _ _ _ _ _ _ _ _ _ _ _ _ _ _ _ _ _ _
end Go.Proofs.YtpidjanngbaiiaaGreatDoor
