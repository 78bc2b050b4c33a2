/-
  The reference's pieces of an expression's text: the walk: what is no word and no quoted text.
  The reference's pieces of an expression's text: joined.
  Levels of operators: exprs.level, exprs.single, exprs.takes; the reference's levels and Level.
-/
import Derived.Test.YtpidjanngbaiiaaGreatDoorM10
import Derived.Test.YtpidjanngbaiiaaGreatDoorYyC
import Derived.Test.YtpidjanngbaiiaaGreatDoorM3
namespace Go.Proofs.YtpidjanngbaiiaaGreatDoor
open Go.RowKit Go.Proofs

set_option maxRecDepth 100000
set_option maxHeartbeats 4000000 in
theorem pc_numA (l : Str) (p q : Nat) (op : Bool) (w : World) (hl : l.length ≤ 2000) (hp : p ≤ l.length) (hq : sk l p = q) (hql : q ≤ l.length) (hT : Tabs w) (x : UInt8) (hx : l[q]? = some x) (z : Nat) (hz : Hid (q + ((l.drop q).takeWhile lowb).length = z)) (hzq : z = q) (hx34 : ((x.toNat : Int) == 34) = false) (hop : op = false)  (s0 : Nat) (hs0 : q = s0) (C : Pc) (hnext : Hid (∀ (X0 X : Nat) (wr : World), w.heap.size ≤ X0 → X0 < X → PcBox wr X ⟨[], 0, 0, [], false, q, q, 0, false⟩ → PcBox wr X0 zeroPc → Below w.heap.size w wr → ∀ (u3 u4 u5 u8 u9 u11 u12 u13 u14 u15 u16 u17 u18 u19 u20 u21 u22 u23 u24 u25 u26 u27 u28 u29 u30 u31 u32 u33 u34 u35 u36 u37 u38 u39 u40 u41 u42 u43 u44 u45 u46 u47 u48 u49 u50 u51 u52 u53 u54 u55 u56 u57 u58 u59 u60 u61 u62 u63 u64 u65 u66 u67 u68 u69 u70 u71 u72 u73 u74 u75 u76 u77 u78 u79 u80 u81 u82 u83 u84 u85 u86 u87 u88 u89 u90 u91 u92 u93 u94 u95 u96 u97 u98 u99 u100 u101 u102 u103 u104 u105 u106 u107 u108 u109 u110 u111 u112 u113 u114 u115 u116 u117 u118 u119 u120 u121 u122 u123 u124 u125 u126 u127 u128 u129 u130 u131 u132 u133 u134 u135 u136 u137 u138 u139 u140 u141 u142 u143 u144 u145 u146 u147 u148 u149 u150 u151 u152 u153 u154 u155 u156 u157 u158 u159 u160 u161 u162 u163 u164 u165 u166 u167 u168 u169 u170 u171 u172 u173 u174 u175 u176 u177 u178 u179 u180 u181 u182 u183 u184 u185 u186 u187 u188 u189 u190 u191 u192 u193 u194 u195 u196 u197 u198 u199 u200 u201 u202 u203 u204 : Value), Code.wp Tryz.prog pcT28 (bodyPost Tryz.prog Tryz.f56 fun e0 w' => e0 = .returned (pcV C) ∧ Below w.heap.size w w') { tmps := #[.string ⟨l.toArray⟩, .int .i64 (q : Int), .bool op, u3, u4, u5, .pointer (some ⟨X0, 0, none⟩), .pointer (some ⟨X, 0, none⟩), u8, u9, .int .i64 (s0 : Int), u11, u12, u13, u14, u15, u16, u17, u18, u19, u20, u21, u22, u23, u24, u25, u26, u27, u28, u29, u30, u31, u32, u33, u34, u35, u36, u37, u38, u39, u40, u41, u42, u43, u44, u45, u46, u47, u48, u49, u50, u51, u52, u53, u54, u55, u56, u57, u58, u59, u60, u61, u62, u63, u64, u65, u66, u67, u68, u69, u70, u71, u72, u73, u74, u75, u76, u77, u78, u79, u80, u81, u82, u83, u84, u85, u86, u87, u88, u89, u90, u91, u92, u93, u94, u95, u96, u97, u98, u99, u100, u101, u102, u103, u104, u105, u106, u107, u108, u109, u110, u111, u112, u113, u114, u115, u116, u117, u118, u119, u120, u121, u122, u123, u124, u125, u126, u127, u128, u129, u130, u131, u132, u133, u134, u135, u136, u137, u138, u139, u140, u141, u142, u143, u144, u145, u146, u147, u148, u149, u150, u151, u152, u153, u154, u155, u156, u157, u158, u159, u160, u161, u162, u163, u164, u165, u166, u167, u168, u169, u170, u171, u172, u173, u174, u175, u176, u177, u178, u179, u180, u181, u182, u183, u184, u185, u186, u187, u188, u189, u190, u191, u192, u193, u194, u195, u196, u197, u198, u199, u200, u201, u202, u203, u204], defers := [] } wr)) :
    Calls Tryz.prog 56 #[.string ⟨l.toArray⟩, .int .i64 p, .bool op] w fun e0 w' => e0 = .returned (pcV C) ∧ Below w.heap.size w w' := by
  subst hop
  subst hs0
  go_enter Tryz.func56, Tryz.ntmps56
  go_wp2_with fail
  have XB := new_pcbox w zeroPc 114
  have hbW : Below w.heap.size w (w.alloc (.cells #[.string ⟨#[]⟩, .int .i64 0, .int .i64 0, .string ⟨#[]⟩, .bool false, .int .i64 0, .int .i64 0, .int .i64 0, .bool false] 114)) := by go_grown
  change PcBox (w.alloc (.cells #[.string ⟨#[]⟩, .int .i64 0, .int .i64 0, .string ⟨#[]⟩, .bool false, .int .i64 0, .int .i64 0, .int .i64 0, .bool false] 114)) _ _ at XB
  generalize w.alloc (.cells #[.string ⟨#[]⟩, .int .i64 0, .int .i64 0, .string ⟨#[]⟩, .bool false, .int .i64 0, .int .i64 0, .int .i64 0, .bool false] 114) = w0 at XB hbW ⊢
  have HQ := Lib.hid hq
  clear hq
  go_loop [1] (fun i => ∃ k : Nat, k ≤ l.length ∧ i = .int .i64 k ∧ Hid (sk l k = q)) (fun i => l.length - (intOf i).toNat)
  case atStart => exact ⟨p, hp, rfl, HQ⟩
  case round =>
    obtain ⟨k, hk, rfl, hf⟩ := hrel
    by_cases hk32 : l[k]? = some 32
    · have hlt : k < l.length := (List.getElem?_eq_some_iff.1 hk32).1
      have E : (⟨l.toArray⟩ : ByteArray)[k]'(by simpa [ByteArray.size] using hlt) = 32 := byte_at' hk32 _
      have hlt' : (k : Int) < (l.length : Int) := by omega
      have hf' := Lib.hid ((sk_step hk32).symm.trans hf.out)
      clear hk32 hf
      go_wp2_with fail
      go_round
      case rel => exact ⟨k + 1, by omega, by go_num, hf'⟩
      case measure => simp [intOf]; omega
    have hkq : k = q := by
      rw [← hf.out]
      cases hx : l[k]? with
      | none => exact (sk_end (List.getElem?_eq_none_iff.1 hx)).symm
      | some x => exact (sk_stop hx (fun e => hk32 (by rw [hx, e]))).symm
    rename_i K1 h1 hww
    have H1 := Lib.hid h1
    clear h1 hf HQ hk hp hww
    obtain rfl := hkq
    have hx' := hx
    have hlt : k < l.length := (List.getElem?_eq_some_iff.1 hx).1
    have E : (⟨l.toArray⟩ : ByteArray)[k]'(by simpa [ByteArray.size] using hlt) = x := byte_at' hx _
    have hlt' : (k : Int) < (l.length : Int) := by omega
    have hx32 : ((x.toNat : Int) == 32) = false := by
      rw [beq_eq_false_iff_ne]
      intro e
      exact hk32 (by rw [hx]; exact congrArg some (UInt8.toNat.inj (by simpa using (by omega : x.toNat = 32))))
    have hq2 : ((k : Int) == (l.length : Int)) = false := by rw [beq_eq_false_iff_ne]; omega
    clear hk32
    have HX := Lib.hid hx'
    clear hx hx'
    go_wp2_with fail
    refine H1.out _ _ ?_
    clear H1
    go_step
    rename_i K2 h2
    have H2 := Lib.hid h2
    clear h2
    go_wp2_with fail
    have hX : w.heap.size < w0.heap.size := XB.lt
    have PB := new_pcbox w0 ⟨[], 0, 0, [], false, k, k, 0, false⟩ 114
    have hb1 : Below w0.heap.size w0 (w0.alloc (.cells #[.string ⟨#[]⟩, .int .i64 0, .int .i64 0, .string ⟨#[]⟩, .bool false, .int .i64 (k : Int), .int .i64 (k : Int), .int .i64 0, .bool false] 114)) := (Below.refl _ _).alloc (Nat.le_refl _) _
    change PcBox (w0.alloc (.cells #[.string ⟨#[]⟩, .int .i64 0, .int .i64 0, .string ⟨#[]⟩, .bool false, .int .i64 (k : Int), .int .i64 (k : Int), .int .i64 0, .bool false] 114)) _ _ at PB
    have XB1 := XB.keep hb1
    have hbW1 := chain hbW hb1
    generalize w0.alloc (.cells #[.string ⟨#[]⟩, .int .i64 0, .int .i64 0, .string ⟨#[]⟩, .bool false, .int .i64 (k : Int), .int .i64 (k : Int), .int .i64 0, .bool false] 114) = w1 at PB hb1 XB1 hbW1 ⊢
    clear hb1 XB hbW
    generalize w0.heap.size = X at PB hX ⊢
    try clear w0
    have hd1 : ¬ w.heap.size = X := by omega
    have hd2 : ¬ X = w.heap.size := by omega
    refine H2.out _ _ ?_
    clear H2
    go_step
    rename_i K3 h3
    have H3 := Lib.hid h3
    clear h3
    go_wp2_with fail
    refine H3.out _ _ ?_
    clear H3
    go_step
    rename_i K4 h4
    have H4 := Lib.hid h4
    clear h4
    go_step
    go_loopg [] l.length (fun gk wr => ∃ j : Nat, k ≤ j ∧ j ≤ l.length ∧ l.length ≤ gk + j ∧ Hid (j + ((l.drop j).takeWhile lowb).length = z) ∧ PcBox wr X ⟨[], 0, 0, [], false, k, j, 0, false⟩ ∧ PcBox wr w.heap.size zeroPc ∧ Below w.heap.size w wr)
    case atStart => exact ⟨k, Nat.le_refl _, hql, by omega, hz, PB, XB1, hbW1⟩
    case round =>
    clear PB XB1 hbW1
    obtain ⟨j, hkj, hj, hgk, hf, PBj, XBj, hbj⟩ := hrel
    obtain ⟨p0, p1, p2, p3, p4, p5, p6, p7, p8, p9, p10⟩ := id PBj
    by_cases hlow : (l[j]?.map lowb) = some true
    · obtain ⟨y, hy, hyl⟩ : ∃ y, l[j]? = some y ∧ lowb y = true := by
        cases h : l[j]? with
        | none => rw [h] at hlow; simp at hlow
        | some y => rw [h] at hlow; exact ⟨y, rfl, by simpa using hlow⟩
      have hjl : j < l.length := (List.getElem?_eq_some_iff.1 hy).1
      have E2 : (⟨l.toArray⟩ : ByteArray)[j]'(by simpa [ByteArray.size] using hjl) = y := byte_at' hy _
      have hjl' : (j : Int) < (l.length : Int) := by omega
      have hr : 97 ≤ y.toNat ∧ y.toNat ≤ 122 := by simpa [lowb] using hyl
      have c1 : (97 : Int) ≤ (y.toNat : Int) := by omega
      have c2 : (y.toNat : Int) ≤ 122 := by omega
      have hf' := hf.out
      rw [drop_at hy, List.takeWhile_cons, hyl, if_pos rfl, List.length_cons] at hf'
      have hF : Hid ((j + 1) + ((l.drop (j + 1)).takeWhile lowb).length = z) := Lib.hid (by omega)
      clear hf hf' hy hyl hlow hr
      go_wp2_with fail
      go_roundg (l.length - (j + 1))
      case measure => omega
      case rel => exact ⟨j + 1, by omega, by omega, by omega, hF, by simpa using PBj.set6 (j + 1), XBj.far hd2 _, hbj.setCell (by show w.heap.size ≤ X; omega) _⟩
    have hjz : j = z := by
      rw [← hf.out]
      cases hy : l[j]? with
      | none => rw [List.drop_eq_nil_of_le (List.getElem?_eq_none_iff.1 hy)]; rfl
      | some y =>
        rw [hy] at hlow
        cases hyl : lowb y with
        | true => exact absurd (by simp [hyl]) hlow
        | false => rw [drop_at hy, List.takeWhile_cons, hyl]; rfl
    clear hf
    obtain rfl := hjz
    have hexit : ¬ (j : Int) < (l.length : Int) ∨ ∃ y, l[j]? = some y ∧ (j : Int) < (l.length : Int) ∧ (¬ (97 : Int) ≤ (y.toNat : Int) ∨ ((97 : Int) ≤ (y.toNat : Int) ∧ ¬ (y.toNat : Int) ≤ 122)) := by
      cases hy : l[j]? with
      | none => have := List.getElem?_eq_none_iff.1 hy; exact Or.inl (by omega)
      | some y =>
        refine Or.inr ⟨y, rfl, by have := (List.getElem?_eq_some_iff.1 hy).1; omega, ?_⟩
        rw [hy] at hlow
        have : ¬ (97 ≤ y.toNat ∧ y.toNat ≤ 122) := fun h => hlow (by simp [lowb, h])
        omega
    clear hlow
    rcases hexit with e1 | ⟨y, hy, e1, e2⟩
    rotate_left
    · obtain rfl : y = x := (by have h := HX.out; rw [← hzq] at h; exact Option.some.inj (hy.symm.trans h))
      clear hy
      rcases e2 with e2 | ⟨e2, e3⟩
      all_goals go_wp2_with fail
      all_goals
        (have PBk : PcBox wr X ⟨[], 0, 0, [], false, k, k, 0, false⟩ := by rw [hzq] at PBj; exact PBj
         clear p0 p1 p2 p3 p4 p5 p6 p7 p8 p9 p10 PBj
         obtain ⟨p0, p1, p2, p3, p4, p5, p6, p7, p8, p9, p10⟩ := id PBk
         refine H4.out _ _ ?_
         clear H4
         go_step
         rename_i K5 h5
         have H5 := Lib.hid h5
         clear h5
         go_wp2_with fail
         clear p0 p1 p2 p3 p4 p5 p6 p7 p8 p9 p10
         refine H5.out _ _ ?_
         clear H5
         go_step
         rename_i K6 h6
         have H6 := Lib.hid h6
         clear h6
         go_step
         rename_i K7 h7
         have H7 := Lib.hid h7
         clear h7
         go_wp2_with fail
         refine H7.out _ _ ?_
         clear H7
         go_step
         go_step
         refine H6.out _ _ ?_
         clear H6
         go_step
         rename_i K8 h8
         have H8 := Lib.hid h8
         clear h8
         go_wp2_with fail
         refine H8.out _ _ ?_
         clear H8
         go_step
         rename_i K9 h9
         have H9 := Lib.hid h9
         clear h9
         go_step
         rename_i K10 h10
         have H10 := Lib.hid h10
         clear h10
         go_wp2_with fail
         refine H10.out _ _ ?_
         clear H10
         go_step
         go_step
         refine H9.out _ _ ?_
         clear H9
         exact hnext.out w.heap.size X wr (Nat.le_refl _) hX PBk XBj hbj _ _ _ _ _ _ _ _ _ _ _ _ _ _ _ _ _ _ _ _ _ _ _ _ _ _ _ _ _ _ _ _ _ _ _ _ _ _ _ _ _ _ _ _ _ _ _ _ _ _ _ _ _ _ _ _ _ _ _ _ _ _ _ _ _ _ _ _ _ _ _ _ _ _ _ _ _ _ _ _ _ _ _ _ _ _ _ _ _ _ _ _ _ _ _ _ _ _ _ _ _ _ _ _ _ _ _ _ _ _ _ _ _ _ _ _ _ _ _ _ _ _ _ _ _ _ _ _ _ _ _ _ _ _ _ _ _ _ _ _ _ _ _ _ _ _ _ _ _ _ _ _ _ _ _ _ _ _ _ _ _ _ _ _ _ _ _ _ _ _ _ _ _ _ _ _ _ _ _ _ _ _ _ _ _ _ _ _ _ _ _ _ _ _ _ _ _ _ _)
    · go_wp2_with fail
      (exfalso; omega)
set_option maxHeartbeats 4000000 in
theorem pc_numB (l : Str) (p q : Nat) (op : Bool) (w : World) (hl : l.length ≤ 2000) (hp : p ≤ l.length) (hq : sk l p = q) (hql : q ≤ l.length) (hT : Tabs w) (x : UInt8) (hx : l[q]? = some x) (z : Nat) (hz : Hid (q + ((l.drop q).takeWhile lowb).length = z)) (hzq : z = q) (hx34 : ((x.toNat : Int) == 34) = false) (hop : op = true) (hx45 : ((x.toNat : Int) == 45) = false) (s0 : Nat) (hs0 : q = s0) (C : Pc) (hnext : Hid (∀ (X0 X : Nat) (wr : World), w.heap.size ≤ X0 → X0 < X → PcBox wr X ⟨[], 0, 0, [], false, q, q, 0, false⟩ → PcBox wr X0 zeroPc → Below w.heap.size w wr → ∀ (u3 u4 u5 u8 u9 u11 u12 u13 u14 u15 u16 u17 u18 u19 u20 u21 u22 u23 u24 u25 u26 u27 u28 u29 u30 u31 u32 u33 u34 u35 u36 u37 u38 u39 u40 u41 u42 u43 u44 u45 u46 u47 u48 u49 u50 u51 u52 u53 u54 u55 u56 u57 u58 u59 u60 u61 u62 u63 u64 u65 u66 u67 u68 u69 u70 u71 u72 u73 u74 u75 u76 u77 u78 u79 u80 u81 u82 u83 u84 u85 u86 u87 u88 u89 u90 u91 u92 u93 u94 u95 u96 u97 u98 u99 u100 u101 u102 u103 u104 u105 u106 u107 u108 u109 u110 u111 u112 u113 u114 u115 u116 u117 u118 u119 u120 u121 u122 u123 u124 u125 u126 u127 u128 u129 u130 u131 u132 u133 u134 u135 u136 u137 u138 u139 u140 u141 u142 u143 u144 u145 u146 u147 u148 u149 u150 u151 u152 u153 u154 u155 u156 u157 u158 u159 u160 u161 u162 u163 u164 u165 u166 u167 u168 u169 u170 u171 u172 u173 u174 u175 u176 u177 u178 u179 u180 u181 u182 u183 u184 u185 u186 u187 u188 u189 u190 u191 u192 u193 u194 u195 u196 u197 u198 u199 u200 u201 u202 u203 u204 : Value), Code.wp Tryz.prog pcT28 (bodyPost Tryz.prog Tryz.f56 fun e0 w' => e0 = .returned (pcV C) ∧ Below w.heap.size w w') { tmps := #[.string ⟨l.toArray⟩, .int .i64 (q : Int), .bool op, u3, u4, u5, .pointer (some ⟨X0, 0, none⟩), .pointer (some ⟨X, 0, none⟩), u8, u9, .int .i64 (s0 : Int), u11, u12, u13, u14, u15, u16, u17, u18, u19, u20, u21, u22, u23, u24, u25, u26, u27, u28, u29, u30, u31, u32, u33, u34, u35, u36, u37, u38, u39, u40, u41, u42, u43, u44, u45, u46, u47, u48, u49, u50, u51, u52, u53, u54, u55, u56, u57, u58, u59, u60, u61, u62, u63, u64, u65, u66, u67, u68, u69, u70, u71, u72, u73, u74, u75, u76, u77, u78, u79, u80, u81, u82, u83, u84, u85, u86, u87, u88, u89, u90, u91, u92, u93, u94, u95, u96, u97, u98, u99, u100, u101, u102, u103, u104, u105, u106, u107, u108, u109, u110, u111, u112, u113, u114, u115, u116, u117, u118, u119, u120, u121, u122, u123, u124, u125, u126, u127, u128, u129, u130, u131, u132, u133, u134, u135, u136, u137, u138, u139, u140, u141, u142, u143, u144, u145, u146, u147, u148, u149, u150, u151, u152, u153, u154, u155, u156, u157, u158, u159, u160, u161, u162, u163, u164, u165, u166, u167, u168, u169, u170, u171, u172, u173, u174, u175, u176, u177, u178, u179, u180, u181, u182, u183, u184, u185, u186, u187, u188, u189, u190, u191, u192, u193, u194, u195, u196, u197, u198, u199, u200, u201, u202, u203, u204], defers := [] } wr)) :
    Calls Tryz.prog 56 #[.string ⟨l.toArray⟩, .int .i64 p, .bool op] w fun e0 w' => e0 = .returned (pcV C) ∧ Below w.heap.size w w' := by
  subst hop
  subst hs0
  go_enter Tryz.func56, Tryz.ntmps56
  go_wp2_with fail
  have XB := new_pcbox w zeroPc 114
  have hbW : Below w.heap.size w (w.alloc (.cells #[.string ⟨#[]⟩, .int .i64 0, .int .i64 0, .string ⟨#[]⟩, .bool false, .int .i64 0, .int .i64 0, .int .i64 0, .bool false] 114)) := by go_grown
  change PcBox (w.alloc (.cells #[.string ⟨#[]⟩, .int .i64 0, .int .i64 0, .string ⟨#[]⟩, .bool false, .int .i64 0, .int .i64 0, .int .i64 0, .bool false] 114)) _ _ at XB
  generalize w.alloc (.cells #[.string ⟨#[]⟩, .int .i64 0, .int .i64 0, .string ⟨#[]⟩, .bool false, .int .i64 0, .int .i64 0, .int .i64 0, .bool false] 114) = w0 at XB hbW ⊢
  have HQ := Lib.hid hq
  clear hq
  go_loop [1] (fun i => ∃ k : Nat, k ≤ l.length ∧ i = .int .i64 k ∧ Hid (sk l k = q)) (fun i => l.length - (intOf i).toNat)
  case atStart => exact ⟨p, hp, rfl, HQ⟩
  case round =>
    obtain ⟨k, hk, rfl, hf⟩ := hrel
    by_cases hk32 : l[k]? = some 32
    · have hlt : k < l.length := (List.getElem?_eq_some_iff.1 hk32).1
      have E : (⟨l.toArray⟩ : ByteArray)[k]'(by simpa [ByteArray.size] using hlt) = 32 := byte_at' hk32 _
      have hlt' : (k : Int) < (l.length : Int) := by omega
      have hf' := Lib.hid ((sk_step hk32).symm.trans hf.out)
      clear hk32 hf
      go_wp2_with fail
      go_round
      case rel => exact ⟨k + 1, by omega, by go_num, hf'⟩
      case measure => simp [intOf]; omega
    have hkq : k = q := by
      rw [← hf.out]
      cases hx : l[k]? with
      | none => exact (sk_end (List.getElem?_eq_none_iff.1 hx)).symm
      | some x => exact (sk_stop hx (fun e => hk32 (by rw [hx, e]))).symm
    rename_i K1 h1 hww
    have H1 := Lib.hid h1
    clear h1 hf HQ hk hp hww
    obtain rfl := hkq
    have hx' := hx
    have hlt : k < l.length := (List.getElem?_eq_some_iff.1 hx).1
    have E : (⟨l.toArray⟩ : ByteArray)[k]'(by simpa [ByteArray.size] using hlt) = x := byte_at' hx _
    have hlt' : (k : Int) < (l.length : Int) := by omega
    have hx32 : ((x.toNat : Int) == 32) = false := by
      rw [beq_eq_false_iff_ne]
      intro e
      exact hk32 (by rw [hx]; exact congrArg some (UInt8.toNat.inj (by simpa using (by omega : x.toNat = 32))))
    have hq2 : ((k : Int) == (l.length : Int)) = false := by rw [beq_eq_false_iff_ne]; omega
    clear hk32
    have HX := Lib.hid hx'
    clear hx hx'
    go_wp2_with fail
    refine H1.out _ _ ?_
    clear H1
    go_step
    rename_i K2 h2
    have H2 := Lib.hid h2
    clear h2
    go_wp2_with fail
    have hX : w.heap.size < w0.heap.size := XB.lt
    have PB := new_pcbox w0 ⟨[], 0, 0, [], false, k, k, 0, false⟩ 114
    have hb1 : Below w0.heap.size w0 (w0.alloc (.cells #[.string ⟨#[]⟩, .int .i64 0, .int .i64 0, .string ⟨#[]⟩, .bool false, .int .i64 (k : Int), .int .i64 (k : Int), .int .i64 0, .bool false] 114)) := (Below.refl _ _).alloc (Nat.le_refl _) _
    change PcBox (w0.alloc (.cells #[.string ⟨#[]⟩, .int .i64 0, .int .i64 0, .string ⟨#[]⟩, .bool false, .int .i64 (k : Int), .int .i64 (k : Int), .int .i64 0, .bool false] 114)) _ _ at PB
    have XB1 := XB.keep hb1
    have hbW1 := chain hbW hb1
    generalize w0.alloc (.cells #[.string ⟨#[]⟩, .int .i64 0, .int .i64 0, .string ⟨#[]⟩, .bool false, .int .i64 (k : Int), .int .i64 (k : Int), .int .i64 0, .bool false] 114) = w1 at PB hb1 XB1 hbW1 ⊢
    clear hb1 XB hbW
    generalize w0.heap.size = X at PB hX ⊢
    try clear w0
    have hd1 : ¬ w.heap.size = X := by omega
    have hd2 : ¬ X = w.heap.size := by omega
    refine H2.out _ _ ?_
    clear H2
    go_step
    rename_i K3 h3
    have H3 := Lib.hid h3
    clear h3
    go_wp2_with fail
    refine H3.out _ _ ?_
    clear H3
    go_step
    rename_i K4 h4
    have H4 := Lib.hid h4
    clear h4
    go_step
    go_loopg [] l.length (fun gk wr => ∃ j : Nat, k ≤ j ∧ j ≤ l.length ∧ l.length ≤ gk + j ∧ Hid (j + ((l.drop j).takeWhile lowb).length = z) ∧ PcBox wr X ⟨[], 0, 0, [], false, k, j, 0, false⟩ ∧ PcBox wr w.heap.size zeroPc ∧ Below w.heap.size w wr)
    case atStart => exact ⟨k, Nat.le_refl _, hql, by omega, hz, PB, XB1, hbW1⟩
    case round =>
    clear PB XB1 hbW1
    obtain ⟨j, hkj, hj, hgk, hf, PBj, XBj, hbj⟩ := hrel
    obtain ⟨p0, p1, p2, p3, p4, p5, p6, p7, p8, p9, p10⟩ := id PBj
    by_cases hlow : (l[j]?.map lowb) = some true
    · obtain ⟨y, hy, hyl⟩ : ∃ y, l[j]? = some y ∧ lowb y = true := by
        cases h : l[j]? with
        | none => rw [h] at hlow; simp at hlow
        | some y => rw [h] at hlow; exact ⟨y, rfl, by simpa using hlow⟩
      have hjl : j < l.length := (List.getElem?_eq_some_iff.1 hy).1
      have E2 : (⟨l.toArray⟩ : ByteArray)[j]'(by simpa [ByteArray.size] using hjl) = y := byte_at' hy _
      have hjl' : (j : Int) < (l.length : Int) := by omega
      have hr : 97 ≤ y.toNat ∧ y.toNat ≤ 122 := by simpa [lowb] using hyl
      have c1 : (97 : Int) ≤ (y.toNat : Int) := by omega
      have c2 : (y.toNat : Int) ≤ 122 := by omega
      have hf' := hf.out
      rw [drop_at hy, List.takeWhile_cons, hyl, if_pos rfl, List.length_cons] at hf'
      have hF : Hid ((j + 1) + ((l.drop (j + 1)).takeWhile lowb).length = z) := Lib.hid (by omega)
      clear hf hf' hy hyl hlow hr
      go_wp2_with fail
      go_roundg (l.length - (j + 1))
      case measure => omega
      case rel => exact ⟨j + 1, by omega, by omega, by omega, hF, by simpa using PBj.set6 (j + 1), XBj.far hd2 _, hbj.setCell (by show w.heap.size ≤ X; omega) _⟩
    have hjz : j = z := by
      rw [← hf.out]
      cases hy : l[j]? with
      | none => rw [List.drop_eq_nil_of_le (List.getElem?_eq_none_iff.1 hy)]; rfl
      | some y =>
        rw [hy] at hlow
        cases hyl : lowb y with
        | true => exact absurd (by simp [hyl]) hlow
        | false => rw [drop_at hy, List.takeWhile_cons, hyl]; rfl
    clear hf
    obtain rfl := hjz
    have hexit : ¬ (j : Int) < (l.length : Int) ∨ ∃ y, l[j]? = some y ∧ (j : Int) < (l.length : Int) ∧ (¬ (97 : Int) ≤ (y.toNat : Int) ∨ ((97 : Int) ≤ (y.toNat : Int) ∧ ¬ (y.toNat : Int) ≤ 122)) := by
      cases hy : l[j]? with
      | none => have := List.getElem?_eq_none_iff.1 hy; exact Or.inl (by omega)
      | some y =>
        refine Or.inr ⟨y, rfl, by have := (List.getElem?_eq_some_iff.1 hy).1; omega, ?_⟩
        rw [hy] at hlow
        have : ¬ (97 ≤ y.toNat ∧ y.toNat ≤ 122) := fun h => hlow (by simp [lowb, h])
        omega
    clear hlow
    rcases hexit with e1 | ⟨y, hy, e1, e2⟩
    rotate_left
    · obtain rfl : y = x := (by have h := HX.out; rw [← hzq] at h; exact Option.some.inj (hy.symm.trans h))
      clear hy
      rcases e2 with e2 | ⟨e2, e3⟩
      all_goals go_wp2_with fail
      all_goals
        (have PBk : PcBox wr X ⟨[], 0, 0, [], false, k, k, 0, false⟩ := by rw [hzq] at PBj; exact PBj
         clear p0 p1 p2 p3 p4 p5 p6 p7 p8 p9 p10 PBj
         obtain ⟨p0, p1, p2, p3, p4, p5, p6, p7, p8, p9, p10⟩ := id PBk
         refine H4.out _ _ ?_
         clear H4
         go_step
         rename_i K5 h5
         have H5 := Lib.hid h5
         clear h5
         go_wp2_with fail
         clear p0 p1 p2 p3 p4 p5 p6 p7 p8 p9 p10
         refine H5.out _ _ ?_
         clear H5
         go_step
         rename_i K6 h6
         have H6 := Lib.hid h6
         clear h6
         go_step
         rename_i K7 h7
         have H7 := Lib.hid h7
         clear h7
         go_wp2_with fail
         refine H7.out _ _ ?_
         clear H7
         go_step
         go_step
         refine H6.out _ _ ?_
         clear H6
         go_step
         rename_i K8 h8
         have H8 := Lib.hid h8
         clear h8
         go_wp2_with fail
         refine H8.out _ _ ?_
         clear H8
         go_step
         rename_i K9 h9
         have H9 := Lib.hid h9
         clear h9
         go_step
         rename_i K10 h10
         have H10 := Lib.hid h10
         clear h10
         go_wp2_with fail
         refine H10.out _ _ ?_
         clear H10
         go_step
         go_step
         refine H9.out _ _ ?_
         clear H9
         exact hnext.out w.heap.size X wr (Nat.le_refl _) hX PBk XBj hbj _ _ _ _ _ _ _ _ _ _ _ _ _ _ _ _ _ _ _ _ _ _ _ _ _ _ _ _ _ _ _ _ _ _ _ _ _ _ _ _ _ _ _ _ _ _ _ _ _ _ _ _ _ _ _ _ _ _ _ _ _ _ _ _ _ _ _ _ _ _ _ _ _ _ _ _ _ _ _ _ _ _ _ _ _ _ _ _ _ _ _ _ _ _ _ _ _ _ _ _ _ _ _ _ _ _ _ _ _ _ _ _ _ _ _ _ _ _ _ _ _ _ _ _ _ _ _ _ _ _ _ _ _ _ _ _ _ _ _ _ _ _ _ _ _ _ _ _ _ _ _ _ _ _ _ _ _ _ _ _ _ _ _ _ _ _ _ _ _ _ _ _ _ _ _ _ _ _ _ _ _ _ _ _ _ _ _ _ _ _ _ _ _ _ _ _ _ _ _)
    · go_wp2_with fail
      (exfalso; omega)
set_option maxHeartbeats 4000000 in
theorem pc_numC (l : Str) (p q : Nat) (op : Bool) (w : World) (hl : l.length ≤ 2000) (hp : p ≤ l.length) (hq : sk l p = q) (hql : q ≤ l.length) (hT : Tabs w) (x : UInt8) (hx : l[q]? = some x) (z : Nat) (hz : Hid (q + ((l.drop q).takeWhile lowb).length = z)) (hzq : z = q) (hx34 : ((x.toNat : Int) == 34) = false) (hop : op = true) (hx45 : ((x.toNat : Int) == 45) = true) (s0 : Nat) (hs0 : q + 1 = s0) (C : Pc) (hnext : Hid (∀ (X0 X : Nat) (wr : World), w.heap.size ≤ X0 → X0 < X → PcBox wr X ⟨[], 0, 0, [], false, q, q, 0, false⟩ → PcBox wr X0 zeroPc → Below w.heap.size w wr → ∀ (u3 u4 u5 u8 u9 u11 u12 u13 u14 u15 u16 u17 u18 u19 u20 u21 u22 u23 u24 u25 u26 u27 u28 u29 u30 u31 u32 u33 u34 u35 u36 u37 u38 u39 u40 u41 u42 u43 u44 u45 u46 u47 u48 u49 u50 u51 u52 u53 u54 u55 u56 u57 u58 u59 u60 u61 u62 u63 u64 u65 u66 u67 u68 u69 u70 u71 u72 u73 u74 u75 u76 u77 u78 u79 u80 u81 u82 u83 u84 u85 u86 u87 u88 u89 u90 u91 u92 u93 u94 u95 u96 u97 u98 u99 u100 u101 u102 u103 u104 u105 u106 u107 u108 u109 u110 u111 u112 u113 u114 u115 u116 u117 u118 u119 u120 u121 u122 u123 u124 u125 u126 u127 u128 u129 u130 u131 u132 u133 u134 u135 u136 u137 u138 u139 u140 u141 u142 u143 u144 u145 u146 u147 u148 u149 u150 u151 u152 u153 u154 u155 u156 u157 u158 u159 u160 u161 u162 u163 u164 u165 u166 u167 u168 u169 u170 u171 u172 u173 u174 u175 u176 u177 u178 u179 u180 u181 u182 u183 u184 u185 u186 u187 u188 u189 u190 u191 u192 u193 u194 u195 u196 u197 u198 u199 u200 u201 u202 u203 u204 : Value), Code.wp Tryz.prog pcT28 (bodyPost Tryz.prog Tryz.f56 fun e0 w' => e0 = .returned (pcV C) ∧ Below w.heap.size w w') { tmps := #[.string ⟨l.toArray⟩, .int .i64 (q : Int), .bool op, u3, u4, u5, .pointer (some ⟨X0, 0, none⟩), .pointer (some ⟨X, 0, none⟩), u8, u9, .int .i64 (s0 : Int), u11, u12, u13, u14, u15, u16, u17, u18, u19, u20, u21, u22, u23, u24, u25, u26, u27, u28, u29, u30, u31, u32, u33, u34, u35, u36, u37, u38, u39, u40, u41, u42, u43, u44, u45, u46, u47, u48, u49, u50, u51, u52, u53, u54, u55, u56, u57, u58, u59, u60, u61, u62, u63, u64, u65, u66, u67, u68, u69, u70, u71, u72, u73, u74, u75, u76, u77, u78, u79, u80, u81, u82, u83, u84, u85, u86, u87, u88, u89, u90, u91, u92, u93, u94, u95, u96, u97, u98, u99, u100, u101, u102, u103, u104, u105, u106, u107, u108, u109, u110, u111, u112, u113, u114, u115, u116, u117, u118, u119, u120, u121, u122, u123, u124, u125, u126, u127, u128, u129, u130, u131, u132, u133, u134, u135, u136, u137, u138, u139, u140, u141, u142, u143, u144, u145, u146, u147, u148, u149, u150, u151, u152, u153, u154, u155, u156, u157, u158, u159, u160, u161, u162, u163, u164, u165, u166, u167, u168, u169, u170, u171, u172, u173, u174, u175, u176, u177, u178, u179, u180, u181, u182, u183, u184, u185, u186, u187, u188, u189, u190, u191, u192, u193, u194, u195, u196, u197, u198, u199, u200, u201, u202, u203, u204], defers := [] } wr)) :
    Calls Tryz.prog 56 #[.string ⟨l.toArray⟩, .int .i64 p, .bool op] w fun e0 w' => e0 = .returned (pcV C) ∧ Below w.heap.size w w' := by
  subst hop
  go_enter Tryz.func56, Tryz.ntmps56
  go_wp2_with fail
  have XB := new_pcbox w zeroPc 114
  have hbW : Below w.heap.size w (w.alloc (.cells #[.string ⟨#[]⟩, .int .i64 0, .int .i64 0, .string ⟨#[]⟩, .bool false, .int .i64 0, .int .i64 0, .int .i64 0, .bool false] 114)) := by go_grown
  change PcBox (w.alloc (.cells #[.string ⟨#[]⟩, .int .i64 0, .int .i64 0, .string ⟨#[]⟩, .bool false, .int .i64 0, .int .i64 0, .int .i64 0, .bool false] 114)) _ _ at XB
  generalize w.alloc (.cells #[.string ⟨#[]⟩, .int .i64 0, .int .i64 0, .string ⟨#[]⟩, .bool false, .int .i64 0, .int .i64 0, .int .i64 0, .bool false] 114) = w0 at XB hbW ⊢
  have HQ := Lib.hid hq
  clear hq
  go_loop [1] (fun i => ∃ k : Nat, k ≤ l.length ∧ i = .int .i64 k ∧ Hid (sk l k = q)) (fun i => l.length - (intOf i).toNat)
  case atStart => exact ⟨p, hp, rfl, HQ⟩
  case round =>
    obtain ⟨k, hk, rfl, hf⟩ := hrel
    by_cases hk32 : l[k]? = some 32
    · have hlt : k < l.length := (List.getElem?_eq_some_iff.1 hk32).1
      have E : (⟨l.toArray⟩ : ByteArray)[k]'(by simpa [ByteArray.size] using hlt) = 32 := byte_at' hk32 _
      have hlt' : (k : Int) < (l.length : Int) := by omega
      have hf' := Lib.hid ((sk_step hk32).symm.trans hf.out)
      clear hk32 hf
      go_wp2_with fail
      go_round
      case rel => exact ⟨k + 1, by omega, by go_num, hf'⟩
      case measure => simp [intOf]; omega
    have hkq : k = q := by
      rw [← hf.out]
      cases hx : l[k]? with
      | none => exact (sk_end (List.getElem?_eq_none_iff.1 hx)).symm
      | some x => exact (sk_stop hx (fun e => hk32 (by rw [hx, e]))).symm
    rename_i K1 h1 hww
    have H1 := Lib.hid h1
    clear h1 hf HQ hk hp hww
    obtain rfl := hkq
    have hx' := hx
    have hlt : k < l.length := (List.getElem?_eq_some_iff.1 hx).1
    have E : (⟨l.toArray⟩ : ByteArray)[k]'(by simpa [ByteArray.size] using hlt) = x := byte_at' hx _
    have hlt' : (k : Int) < (l.length : Int) := by omega
    have hx32 : ((x.toNat : Int) == 32) = false := by
      rw [beq_eq_false_iff_ne]
      intro e
      exact hk32 (by rw [hx]; exact congrArg some (UInt8.toNat.inj (by simpa using (by omega : x.toNat = 32))))
    have hq2 : ((k : Int) == (l.length : Int)) = false := by rw [beq_eq_false_iff_ne]; omega
    clear hk32
    have HX := Lib.hid hx'
    clear hx hx'
    go_wp2_with fail
    refine H1.out _ _ ?_
    clear H1
    go_step
    rename_i K2 h2
    have H2 := Lib.hid h2
    clear h2
    go_wp2_with fail
    have hX : w.heap.size < w0.heap.size := XB.lt
    have PB := new_pcbox w0 ⟨[], 0, 0, [], false, k, k, 0, false⟩ 114
    have hb1 : Below w0.heap.size w0 (w0.alloc (.cells #[.string ⟨#[]⟩, .int .i64 0, .int .i64 0, .string ⟨#[]⟩, .bool false, .int .i64 (k : Int), .int .i64 (k : Int), .int .i64 0, .bool false] 114)) := (Below.refl _ _).alloc (Nat.le_refl _) _
    change PcBox (w0.alloc (.cells #[.string ⟨#[]⟩, .int .i64 0, .int .i64 0, .string ⟨#[]⟩, .bool false, .int .i64 (k : Int), .int .i64 (k : Int), .int .i64 0, .bool false] 114)) _ _ at PB
    have XB1 := XB.keep hb1
    have hbW1 := chain hbW hb1
    generalize w0.alloc (.cells #[.string ⟨#[]⟩, .int .i64 0, .int .i64 0, .string ⟨#[]⟩, .bool false, .int .i64 (k : Int), .int .i64 (k : Int), .int .i64 0, .bool false] 114) = w1 at PB hb1 XB1 hbW1 ⊢
    clear hb1 XB hbW
    generalize w0.heap.size = X at PB hX ⊢
    try clear w0
    have hd1 : ¬ w.heap.size = X := by omega
    have hd2 : ¬ X = w.heap.size := by omega
    refine H2.out _ _ ?_
    clear H2
    go_step
    rename_i K3 h3
    have H3 := Lib.hid h3
    clear h3
    go_wp2_with fail
    refine H3.out _ _ ?_
    clear H3
    go_step
    rename_i K4 h4
    have H4 := Lib.hid h4
    clear h4
    go_step
    go_loopg [] l.length (fun gk wr => ∃ j : Nat, k ≤ j ∧ j ≤ l.length ∧ l.length ≤ gk + j ∧ Hid (j + ((l.drop j).takeWhile lowb).length = z) ∧ PcBox wr X ⟨[], 0, 0, [], false, k, j, 0, false⟩ ∧ PcBox wr w.heap.size zeroPc ∧ Below w.heap.size w wr)
    case atStart => exact ⟨k, Nat.le_refl _, hql, by omega, hz, PB, XB1, hbW1⟩
    case round =>
    clear PB XB1 hbW1
    obtain ⟨j, hkj, hj, hgk, hf, PBj, XBj, hbj⟩ := hrel
    obtain ⟨p0, p1, p2, p3, p4, p5, p6, p7, p8, p9, p10⟩ := id PBj
    by_cases hlow : (l[j]?.map lowb) = some true
    · obtain ⟨y, hy, hyl⟩ : ∃ y, l[j]? = some y ∧ lowb y = true := by
        cases h : l[j]? with
        | none => rw [h] at hlow; simp at hlow
        | some y => rw [h] at hlow; exact ⟨y, rfl, by simpa using hlow⟩
      have hjl : j < l.length := (List.getElem?_eq_some_iff.1 hy).1
      have E2 : (⟨l.toArray⟩ : ByteArray)[j]'(by simpa [ByteArray.size] using hjl) = y := byte_at' hy _
      have hjl' : (j : Int) < (l.length : Int) := by omega
      have hr : 97 ≤ y.toNat ∧ y.toNat ≤ 122 := by simpa [lowb] using hyl
      have c1 : (97 : Int) ≤ (y.toNat : Int) := by omega
      have c2 : (y.toNat : Int) ≤ 122 := by omega
      have hf' := hf.out
      rw [drop_at hy, List.takeWhile_cons, hyl, if_pos rfl, List.length_cons] at hf'
      have hF : Hid ((j + 1) + ((l.drop (j + 1)).takeWhile lowb).length = z) := Lib.hid (by omega)
      clear hf hf' hy hyl hlow hr
      go_wp2_with fail
      go_roundg (l.length - (j + 1))
      case measure => omega
      case rel => exact ⟨j + 1, by omega, by omega, by omega, hF, by simpa using PBj.set6 (j + 1), XBj.far hd2 _, hbj.setCell (by show w.heap.size ≤ X; omega) _⟩
    have hjz : j = z := by
      rw [← hf.out]
      cases hy : l[j]? with
      | none => rw [List.drop_eq_nil_of_le (List.getElem?_eq_none_iff.1 hy)]; rfl
      | some y =>
        rw [hy] at hlow
        cases hyl : lowb y with
        | true => exact absurd (by simp [hyl]) hlow
        | false => rw [drop_at hy, List.takeWhile_cons, hyl]; rfl
    clear hf
    obtain rfl := hjz
    have hexit : ¬ (j : Int) < (l.length : Int) ∨ ∃ y, l[j]? = some y ∧ (j : Int) < (l.length : Int) ∧ (¬ (97 : Int) ≤ (y.toNat : Int) ∨ ((97 : Int) ≤ (y.toNat : Int) ∧ ¬ (y.toNat : Int) ≤ 122)) := by
      cases hy : l[j]? with
      | none => have := List.getElem?_eq_none_iff.1 hy; exact Or.inl (by omega)
      | some y =>
        refine Or.inr ⟨y, rfl, by have := (List.getElem?_eq_some_iff.1 hy).1; omega, ?_⟩
        rw [hy] at hlow
        have : ¬ (97 ≤ y.toNat ∧ y.toNat ≤ 122) := fun h => hlow (by simp [lowb, h])
        omega
    clear hlow
    rcases hexit with e1 | ⟨y, hy, e1, e2⟩
    rotate_left
    · obtain rfl : y = x := (by have h := HX.out; rw [← hzq] at h; exact Option.some.inj (hy.symm.trans h))
      clear hy
      rcases e2 with e2 | ⟨e2, e3⟩
      all_goals go_wp2_with fail
      all_goals
        (have PBk : PcBox wr X ⟨[], 0, 0, [], false, k, k, 0, false⟩ := by rw [hzq] at PBj; exact PBj
         clear p0 p1 p2 p3 p4 p5 p6 p7 p8 p9 p10 PBj
         obtain ⟨p0, p1, p2, p3, p4, p5, p6, p7, p8, p9, p10⟩ := id PBk
         refine H4.out _ _ ?_
         clear H4
         go_step
         rename_i K5 h5
         have H5 := Lib.hid h5
         clear h5
         go_wp2_with fail
         clear p0 p1 p2 p3 p4 p5 p6 p7 p8 p9 p10
         refine H5.out _ _ ?_
         clear H5
         go_step
         rename_i K6 h6
         have H6 := Lib.hid h6
         clear h6
         go_step
         rename_i K7 h7
         have H7 := Lib.hid h7
         clear h7
         go_wp2_with fail
         refine H7.out _ _ ?_
         clear H7
         go_step
         go_step
         refine H6.out _ _ ?_
         clear H6
         go_step
         rename_i K8 h8
         have H8 := Lib.hid h8
         clear h8
         go_wp2_with fail
         refine H8.out _ _ ?_
         clear H8
         go_step
         rename_i K9 h9
         have H9 := Lib.hid h9
         clear h9
         go_step
         rename_i K10 h10
         have H10 := Lib.hid h10
         clear h10
         go_wp2_with fail
         refine H10.out _ _ ?_
         clear H10
         go_step
         have hk1 : (k : Int) + 1 = (s0 : Int) := by omega
         go_wp2_with (rw [hk1])
         refine H9.out _ _ ?_
         clear H9
         exact hnext.out w.heap.size X wr (Nat.le_refl _) hX PBk XBj hbj _ _ _ _ _ _ _ _ _ _ _ _ _ _ _ _ _ _ _ _ _ _ _ _ _ _ _ _ _ _ _ _ _ _ _ _ _ _ _ _ _ _ _ _ _ _ _ _ _ _ _ _ _ _ _ _ _ _ _ _ _ _ _ _ _ _ _ _ _ _ _ _ _ _ _ _ _ _ _ _ _ _ _ _ _ _ _ _ _ _ _ _ _ _ _ _ _ _ _ _ _ _ _ _ _ _ _ _ _ _ _ _ _ _ _ _ _ _ _ _ _ _ _ _ _ _ _ _ _ _ _ _ _ _ _ _ _ _ _ _ _ _ _ _ _ _ _ _ _ _ _ _ _ _ _ _ _ _ _ _ _ _ _ _ _ _ _ _ _ _ _ _ _ _ _ _ _ _ _ _ _ _ _ _ _ _ _ _ _ _ _ _ _ _ _ _ _ _ _)
    · go_wp2_with fail
      (exfalso; omega)
set_option maxRecDepth 100000
theorem tw_nil {l : Str} {q : Nat} (h : wd l q = []) : q + ((l.drop q).takeWhile lowb).length = q := by
 have : (l.drop q).takeWhile lowb = [] := h
 rw [this]; rfl
theorem sgn_pc (l : Str) (q : Nat) : (if sgn l q ≠ [] then (⟨sgn l q, 0, 0, [], false, q, q + (sgn l q).length, 0, false⟩ : Pc) else ⟨[], 0, 0, [], false, q, q, 3, false⟩) = (if sgn l q = [] then ⟨[], 0, 0, [], false, q, q, 3, false⟩ else ⟨sgn l q, 0, 0, [], false, q, q + (sgn l q).length, 0, false⟩) := by
 by_cases h : sgn l q = []
 ·rw [if_neg (fun h' => h' h), if_pos h]
 ·rw [if_pos h, if_neg h]
def pcN (l : Str) (q s0 : Nat) : Pc :=
  if figs l s0 ≠ [] then
    (match numR ((l.drop q).take (s0 + (figs l s0).length - q)) with
     | none => ⟨[], 1, 0, [], true, q, s0 + (figs l s0).length, 3, false⟩
     | some n => ⟨[], 1, n, [], true, q, s0 + (figs l s0).length, 0, false⟩)
  else if sgn l q = [] then ⟨[], 0, 0, [], false, q, q, 3, false⟩ else ⟨sgn l q, 0, 0, [], false, q, q + (sgn l q).length, 0, false⟩
theorem figs_last {l : Str} {s0 : Nat} (h : figs l s0 ≠ []) : ∃ e1 y, e1 + 1 = s0 + (figs l s0).length ∧ l[e1]? = some y ∧ ((y.toNat : Int) == 45) = false ∧ s0 + (figs l s0).length ≤ l.length := by
 have hpos : 0 < (figs l s0).length := List.length_pos_iff.2 h
 have hle : (figs l s0).length ≤ (l.drop s0).length := by unfold figs; exact (List.takeWhile_sublist figb).length_le
 rw [List.length_drop] at hle
 have hpre : figs l s0 <+: l.drop s0 := by unfold figs; exact List.takeWhile_prefix figb
 refine ⟨s0 + (figs l s0).length - 1, (figs l s0)[(figs l s0).length - 1]'(by omega), by omega, ?_, ?_, by omega⟩
 ·have h1 := hpre.getElem (i := (figs l s0).length - 1) (by omega)
  rw [List.getElem_drop] at h1
  rw [List.getElem?_eq_some_iff]
  refine ⟨by omega, ?_⟩
  rw [h1]
  congr 1
  omega
 ·have hm : figb ((figs l s0)[(figs l s0).length - 1]'(by omega)) = true := tw_all (l.drop s0) _ (List.getElem_mem (l := figs l s0) (by omega))
  rw [beq_eq_false_iff_ne]
  intro e
  have : ((figs l s0)[(figs l s0).length - 1]'(by omega)).toNat = 45 := by omega
  unfold figb at hm
  rw [this] at hm
  revert hm; decide
theorem pc_num_rest (l : Str) (q s0 : Nat) (op : Bool) (w : World) (hl : l.length ≤ 2000) (hk : q < l.length) (hT : Tabs w) (h0 : s0 ≤ l.length) (hs : s0 = q ∨ (q + 1 = s0 ∧ l[q]? = some 45)) (X0 X : Nat) (wr : World) (hX0 : w.heap.size ≤ X0) (hX : X0 < X) (PB : PcBox wr X ⟨[], 0, 0, [], false, q, q, 0, false⟩) (XB : PcBox wr X0 zeroPc) (hb : Below w.heap.size w wr) (u3 u4 u5 u8 u9 u11 u12 u13 u14 u15 u16 u17 u18 u19 u20 u21 u22 u23 u24 u25 u26 u27 u28 u29 u30 u31 u32 u33 u34 u35 u36 u37 u38 u39 u40 u41 u42 u43 u44 u45 u46 u47 u48 u49 u50 u51 u52 u53 u54 u55 u56 u57 u58 u59 u60 u61 u62 u63 u64 u65 u66 u67 u68 u69 u70 u71 u72 u73 u74 u75 u76 u77 u78 u79 u80 u81 u82 u83 u84 u85 u86 u87 u88 u89 u90 u91 u92 u93 u94 u95 u96 u97 u98 u99 u100 u101 u102 u103 u104 u105 u106 u107 u108 u109 u110 u111 u112 u113 u114 u115 u116 u117 u118 u119 u120 u121 u122 u123 u124 u125 u126 u127 u128 u129 u130 u131 u132 u133 u134 u135 u136 u137 u138 u139 u140 u141 u142 u143 u144 u145 u146 u147 u148 u149 u150 u151 u152 u153 u154 u155 u156 u157 u158 u159 u160 u161 u162 u163 u164 u165 u166 u167 u168 u169 u170 u171 u172 u173 u174 u175 u176 u177 u178 u179 u180 u181 u182 u183 u184 u185 u186 u187 u188 u189 u190 u191 u192 u193 u194 u195 u196 u197 u198 u199 u200 u201 u202 u203 u204 : Value) :
  Code.wp Tryz.prog pcT28 (bodyPost Tryz.prog Tryz.f56 fun e0 w' => e0 = .returned (pcV (pcN l q s0)) ∧ Below w.heap.size w w') { tmps := #[.string ⟨l.toArray⟩, .int .i64 (q : Int), .bool op, u3, u4, u5, .pointer (some ⟨X0, 0, none⟩), .pointer (some ⟨X, 0, none⟩), u8, u9, .int .i64 (s0 : Int), u11, u12, u13, u14, u15, u16, u17, u18, u19, u20, u21, u22, u23, u24, u25, u26, u27, u28, u29, u30, u31, u32, u33, u34, u35, u36, u37, u38, u39, u40, u41, u42, u43, u44, u45, u46, u47, u48, u49, u50, u51, u52, u53, u54, u55, u56, u57, u58, u59, u60, u61, u62, u63, u64, u65, u66, u67, u68, u69, u70, u71, u72, u73, u74, u75, u76, u77, u78, u79, u80, u81, u82, u83, u84, u85, u86, u87, u88, u89, u90, u91, u92, u93, u94, u95, u96, u97, u98, u99, u100, u101, u102, u103, u104, u105, u106, u107, u108, u109, u110, u111, u112, u113, u114, u115, u116, u117, u118, u119, u120, u121, u122, u123, u124, u125, u126, u127, u128, u129, u130, u131, u132, u133, u134, u135, u136, u137, u138, u139, u140, u141, u142, u143, u144, u145, u146, u147, u148, u149, u150, u151, u152, u153, u154, u155, u156, u157, u158, u159, u160, u161, u162, u163, u164, u165, u166, u167, u168, u169, u170, u171, u172, u173, u174, u175, u176, u177, u178, u179, u180, u181, u182, u183, u184, u185, u186, u187, u188, u189, u190, u191, u192, u193, u194, u195, u196, u197, u198, u199, u200, u201, u202, u203, u204], defers := [] } wr := by
 refine pc_28 l q op X0 X w wr hl hk hX0 hX PB XB hb s0 (s0 + (figs l s0).length) h0 (Lib.hid rfl) (pcN l q s0) (Lib.hid ?_) _ _ _ _ _ _ _ _ _ _ _ _ _ _ _ _ _ _ _ _ _ _ _ _ _ _ _ _ _ _ _ _ _ _ _ _ _ _ _ _ _ _ _ _ _ _ _ _ _ _ _ _ _ _ _ _ _ _ _ _ _ _ _ _ _ _ _ _ _ _ _ _ _ _ _ _ _ _ _ _ _ _ _ _ _ _ _ _ _ _ _ _ _ _ _ _ _ _ _ _ _ _ _ _ _ _ _ _ _ _ _ _ _ _ _ _ _ _ _ _ _ _ _ _ _ _ _ _ _ _ _ _ _ _ _ _ _ _ _ _ _ _ _ _ _ _ _ _ _ _ _ _ _ _ _ _ _ _ _ _ _ _ _ _ _ _ _ _ _ _ _ _ _ _ _ _ _ _ _ _ _ _ _ _ _ _ _ _ _ _ _ _ _ _ _ _ _ _ _
 intro u3 u4 u5 u8 u9 u11 u12 u13 u14 u15 u16 u17 u18 u19 u20 u21 u22 u23 u24 u25 u26 u27 u28 u29 u30 u31 u32 u33 u34 u35 u36 u37 u38 u39 u40 u41 u42 u43 u44 u45 u46 u47 u48 u49 u50 u51 u52 u53 u54 u55 u56 u57 u58 u59 u60 u61 u62 u63 u64 u65 u66 u67 u68 u69 u70 u71 u72 u73 u74 u75 u76 u77 u78 u79 u80 u81 u82 u83 u84 u85 u86 u87 u88 u89 u90 u91 u92 u93 u94 u95 u96 u97 u98 u99 u100 u101 u102 u103 u104 u105 u106 u107 u108 u109 u110 u111 u112 u113 u114 u115 u116 u117 u118 u119 u120 u121 u122 u123 u124 u125 u126 u127 u128 u129 u130 u131 u132 u133 u134 u135 u136 u137 u138 u139 u140 u141 u142 u143 u144 u145 u146 u147 u148 u149 u150 u151 u152 u153 u154 u155 u156 u157 u158 u159 u160 u161 u162 u163 u164 u165 u166 u167 u168 u169 u170 u171 u172 u173 u174 u175 u176 u177 u178 u179 u180 u181 u182 u183 u184 u185 u186 u187 u188 u189 u190 u191 u192 u193 u194 u195 u196 u197 u198 u199 u200 u201 u202 u203 u204
 unfold pcN
 by_cases hf : figs l s0 = []
 ·rw [if_neg (fun h => h hf), hf]
  rcases hs with rfl | ⟨hs, hm⟩
  ·exact pc_30z1 l s0 op X0 X w wr hl hk hX0 hX PB XB hb (sgn l s0) (Lib.hid (sgn_find l s0)) _ _ _ _ _ _ _ _ _ _ _ _ _ _ _ _ _ _ _ _ _ _ _ _ _ _ _ _ _ _ _ _ _ _ _ _ _ _ _ _ _ _ _ _ _ _ _ _ _ _ _ _ _ _ _ _ _ _ _ _ _ _ _ _ _ _ _ _ _ _ _ _ _ _ _ _ _ _ _ _ _ _ _ _ _ _ _ _ _ _ _ _ _ _ _ _ _ _ _ _ _ _ _ _ _ _ _ _ _ _ _ _ _ _ _ _ _ _ _ _ _ _ _ _ _ _ _ _ _ _ _ _ _ _ _ _ _ _ _ _ _ _ _ _ _ _ _ _ _ _ _ _ _ _ _ _ _ _ _ _ _ _ _ _ _ _ _ _ _ _ _ _ _ _ _ _ _ _ _ _ _ _ _ _ _ _ _ _ _ _ _ _ _ _ _ _ _ _ _
  ·exact pc_30z2 l q op X0 X w wr hl hk hX0 hX PB XB hb s0 hs hm (sgn l q) (Lib.hid (sgn_find l q)) _ _ _ _ _ _ _ _ _ _ _ _ _ _ _ _ _ _ _ _ _ _ _ _ _ _ _ _ _ _ _ _ _ _ _ _ _ _ _ _ _ _ _ _ _ _ _ _ _ _ _ _ _ _ _ _ _ _ _ _ _ _ _ _ _ _ _ _ _ _ _ _ _ _ _ _ _ _ _ _ _ _ _ _ _ _ _ _ _ _ _ _ _ _ _ _ _ _ _ _ _ _ _ _ _ _ _ _ _ _ _ _ _ _ _ _ _ _ _ _ _ _ _ _ _ _ _ _ _ _ _ _ _ _ _ _ _ _ _ _ _ _ _ _ _ _ _ _ _ _ _ _ _ _ _ _ _ _ _ _ _ _ _ _ _ _ _ _ _ _ _ _ _ _ _ _ _ _ _ _ _ _ _ _ _ _ _ _ _ _ _ _ _ _ _ _ _ _ _
 ·rw [if_pos hf]
  obtain ⟨e1, y, he1, hy, hy45, hle⟩ := figs_last hf
  have hpos : 0 < (figs l s0).length := List.length_pos_iff.2 hf
  have hqe : q < s0 + (figs l s0).length := by omega
  cases hN : numR ((l.drop q).take (s0 + (figs l s0).length - q)) with
  | none => exact pc_30n l q op X0 X w wr hl hk hX0 hX PB XB hb hT _ e1 hqe hle he1 y hy hy45 (Lib.hid hN) _ _ _ _ _ _ _ _ _ _ _ _ _ _ _ _ _ _ _ _ _ _ _ _ _ _ _ _ _ _ _ _ _ _ _ _ _ _ _ _ _ _ _ _ _ _ _ _ _ _ _ _ _ _ _ _ _ _ _ _ _ _ _ _ _ _ _ _ _ _ _ _ _ _ _ _ _ _ _ _ _ _ _ _ _ _ _ _ _ _ _ _ _ _ _ _ _ _ _ _ _ _ _ _ _ _ _ _ _ _ _ _ _ _ _ _ _ _ _ _ _ _ _ _ _ _ _ _ _ _ _ _ _ _ _ _ _ _ _ _ _ _ _ _ _ _ _ _ _ _ _ _ _ _ _ _ _ _ _ _ _ _ _ _ _ _ _ _ _ _ _ _ _ _ _ _ _ _ _ _ _ _ _ _ _ _ _ _ _ _ _ _ _ _ _ _ _ _ _
  | some n => exact pc_30s l q op X0 X w wr hl hk hX0 hX PB XB hb hT _ e1 hqe hle he1 y hy hy45 n (Lib.hid hN) _ _ _ _ _ _ _ _ _ _ _ _ _ _ _ _ _ _ _ _ _ _ _ _ _ _ _ _ _ _ _ _ _ _ _ _ _ _ _ _ _ _ _ _ _ _ _ _ _ _ _ _ _ _ _ _ _ _ _ _ _ _ _ _ _ _ _ _ _ _ _ _ _ _ _ _ _ _ _ _ _ _ _ _ _ _ _ _ _ _ _ _ _ _ _ _ _ _ _ _ _ _ _ _ _ _ _ _ _ _ _ _ _ _ _ _ _ _ _ _ _ _ _ _ _ _ _ _ _ _ _ _ _ _ _ _ _ _ _ _ _ _ _ _ _ _ _ _ _ _ _ _ _ _ _ _ _ _ _ _ _ _ _ _ _ _ _ _ _ _ _ _ _ _ _ _ _ _ _ _ _ _ _ _ _ _ _ _ _ _ _ _ _ _ _ _ _ _ _
theorem exprPiece_any (l : Str) (p : Nat) (op : Bool) (w : World) (hl : l.length ≤ 2000) (hp : p ≤ l.length) (hT : Tabs w) :
  Calls Tryz.prog 56 #[.string ⟨l.toArray⟩, .int .i64 p, .bool op] w fun e w' => e = .returned (pcV (piece l p op)) ∧ Below w.heap.size w w' := by
 have hs := sk_le hp
 unfold piece
 obtain ⟨q, hq⟩ : ∃ q, sk l p = q := ⟨_, rfl⟩
 rw [hq] at hs ⊢
 by_cases h0 : q = l.length
 ·rw [if_pos h0]
  exact pc_end l p q op w hl hp hq hs.2 h0
 ·rw [if_neg h0]
  have hlt : q < l.length := by omega
  obtain ⟨x, hx⟩ : ∃ x, l[q]? = some x := ⟨_, List.getElem?_eq_getElem hlt⟩
  by_cases hw : wd l q = []
  ·rw [if_neg (show ¬ wd l q ≠ [] from fun h => h hw)]
   have hz := tw_nil hw
   by_cases h34 : x = 34
   ·have hx34 : ((x.toNat : Int) == 34) = true := by rw [h34]; rfl
    rw [if_pos (by rw [hx, h34])]
    cases hQ : quotedR (l.drop q) with
    | none => exact pc_quoteN l p q op w hl hp hq hs.2 hT x hx q (Lib.hid hz) rfl hx34 (Lib.hid hQ)
    | some o =>
     obtain ⟨n, t⟩ := o
     have hy2 : q + n ≤ l.length := by
      have h1 := (quoted_lit (l.drop q) (by rw [List.head?_drop, hx, h34])).2 _ hQ
      have h2 := litLen_le' (l.drop q)
      rw [List.length_drop] at h2
      simp only at h1
      omega
     simp only
     by_cases h1 : 100 < t.length
     ·rw [if_pos h1]
      exact pc_quoteL l p q op w hl hp hq hs.2 hT x hx q (Lib.hid hz) rfl hx34 n t (Lib.hid hQ) _ rfl hy2 (by omega)
     ·rw [if_neg h1]
      exact pc_quoteS l p q op w hl hp hq hs.2 hT x hx q (Lib.hid hz) rfl hx34 n t (Lib.hid hQ) _ rfl hy2 (by omega)
   ·have hx34 : ((x.toNat : Int) == 34) = false := by
     rw [beq_eq_false_iff_ne]; intro e; exact h34 (UInt8.toNat.inj (by simpa using (by omega : x.toNat = 34)))
    rw [if_neg (by rw [hx]; simpa using h34), sgn_pc]
    show Calls _ _ _ _ fun e w' => e = .returned (pcV (pcN l q (pstart l q op))) ∧ _
    cases hop : op with
    | false =>
     have hst : pstart l q false = q := by unfold pstart; simp
     rw [hst]
     exact pc_numA l p q false w hl hp hq hs.2 hT x hx q (Lib.hid hz) rfl hx34 rfl q rfl (pcN l q q) (Lib.hid (fun X0 X wr a b PB XB hb => pc_num_rest l q q false w hl hlt hT hs.2 (Or.inl rfl) X0 X wr a b PB XB hb))
    | true =>
     by_cases h45 : x = 45
     ·have hst : pstart l q true = q + 1 := by unfold pstart; rw [if_pos ⟨rfl, by rw [hx, h45]⟩]
      rw [hst]
      exact pc_numC l p q true w hl hp hq hs.2 hT x hx q (Lib.hid hz) rfl hx34 rfl (by rw [h45]; rfl) (q + 1) rfl (pcN l q (q + 1)) (Lib.hid (fun X0 X wr a b PB XB hb => pc_num_rest l q (q + 1) true w hl hlt hT (by omega) (Or.inr ⟨rfl, by rw [hx, h45]⟩) X0 X wr a b PB XB hb))
     ·have hst : pstart l q true = q := by unfold pstart; rw [if_neg (fun h => h45 (by have := h.2; rw [hx] at this; exact Option.some.inj this))]
      rw [hst]
      exact pc_numB l p q true w hl hp hq hs.2 hT x hx q (Lib.hid hz) rfl hx34 rfl (by rw [beq_eq_false_iff_ne]; intro e; exact h45 (UInt8.toNat.inj (by simpa using (by omega : x.toNat = 45)))) q rfl (pcN l q q) (Lib.hid (fun X0 X wr a b PB XB hb => pc_num_rest l q q true w hl hlt hT hs.2 (Or.inl rfl) X0 X wr a b PB XB hb))
  ·rw [if_pos hw]
   have hz : q + ((l.drop q).takeWhile lowb).length = q + (wd l q).length := rfl
   have hpos : q < q + (wd l q).length := by have := List.length_pos_iff.2 hw; omega
   by_cases ht : wd l q = trueS
   ·rw [if_pos ht]
    have := pc_wordT l p q op w hl hp hq hs.2 hT x hx (Lib.hid ht) _ (Lib.hid hz) hpos
    rw [ht] at this ⊢
    exact this
   ·rw [if_neg ht]
    by_cases hf : wd l q = falseS
    ·rw [if_pos hf]
     have := pc_wordF l p q op w hl hp hq hs.2 hT x hx (Lib.hid hf) _ (Lib.hid hz) hpos
     rw [hf] at this ⊢
     exact this
    ·rw [if_neg hf]
     exact pc_word l p q op w hl hp hq hs.2 x hx (wd l q) (Lib.hid rfl) _ (Lib.hid hz) hpos (by rw [beq_eq_false_iff_ne]; exact ht) (by rw [beq_eq_false_iff_ne]; exact hf)
set_option maxRecDepth 100000
set_option maxHeartbeats 1000000 in
theorem level_any (l : Str) (w : World) : Calls Tryz.prog 87 #[.string ⟨l.toArray⟩] w fun e w' => e = .returned (.int .i64 (level l)) ∧ w' = w := by
 go_enter Tryz.func87, Tryz.ntmps87
 go_wp2_with fail
 all_goals
  go_ret
  refine ⟨ret_int ?_, rfl⟩
  simp_all [level]
set_option maxHeartbeats 1000000 in
theorem single_any (l : Str) (w : World) : Calls Tryz.prog 125 #[.string ⟨l.toArray⟩] w fun e w' => e = .returned (.bool (lone l)) ∧ w' = w := by
 go_enter Tryz.func125, Tryz.ntmps125
 go_wp2_with fail
 all_goals
  go_ret
  refine ⟨ret_bool ?_, rfl⟩
  rw [Bool.eq_iff_iff]
  simp_all [lone]
def levelsL : List (List Str) := [[[111, 114]], [[97, 110, 100]], [[61, 61], [60], [60, 61]], [[43], [45], [43, 43]], [[42], [47], [37]]]
def findLv : List (List Str) → Int → Str → Int
 | [], _, _ => 0
 | x :: r, k, l => if l ∈ x then k + 1 else findLv r (k + 1) l
theorem level_find (l : Str) : level l = findLv levelsL 0 l := by
 simp only [level, findLv, levelsL, List.mem_cons, List.not_mem_nil, or_false]
 repeat' split
 all_goals first | rfl | simp_all
def StrRows (w : World) (v : Value) (ll : List (List Str)) : Prop := ∃ b, v = .slice (some ⟨b, 0, none⟩) ll.length ll.length ∧ ∀ i l, ll[i]? = some l → ∃ A n c, w.cell? ⟨b, i, none⟩ = some (.slice A n c) ∧ IsStrs w (.slice A n c) l
set_option maxHeartbeats 1000000 in
theorem levels_any (w : World) : Calls Tryz.prog 92 #[] w fun e w' => (∃ v, e = .returned v ∧ StrRows w' v levelsL) ∧ Below w.heap.size w w' := by
 go_enter Tryz.func92, Tryz.ntmps92
 go_wp2_with fail
 go_ret
 refine ⟨⟨_, rfl, _, rfl, fun i l hi => ?_⟩, by go_grown⟩
 match i, hi with
 | 0, hi | 1, hi | 2, hi | 3, hi | 4, hi =>
  simp [levelsL] at hi
  subst hi
  refine ⟨_, _, _, by simp [go_sem]; rfl, ⟨_, _, rfl, Nat.le_refl _, fun _ => ⟨_, 0, rfl, fun j s hj => ?_⟩⟩⟩
  match j, hj with
  | 0, hj | 1, hj | 2, hj => simp at hj; try (subst hj; simp [go_sem])
  | j + 3, hj => simp at hj
 | i + 5, hi => simp [levelsL] at hi
set_option maxHeartbeats 1000000 in
theorem refLevel_any (l : Str) (w : World) : Calls Tryz.prog 57 #[.string ⟨l.toArray⟩] w fun e w' => e = .returned (.int .i64 (level l)) ∧ Below w.heap.size w w' := by
 obtain ⟨ANS, hA⟩ : ∃ x, level l = x := ⟨_, rfl⟩
 have HA := Lib.hid hA; rw [hA]; clear hA
 go_enter Tryz.func57, Tryz.ntmps57
 go_wp2_with fail
 refine (levels_any w).mono ?_; rintro e w1 ⟨⟨v, rfl, hv⟩, hb⟩
 obtain ⟨b, rfl, hr⟩ := hv
 have HR := Lib.hid hr; clear hr
 go_wp2_with fail
 go_loop [4] (fun i => ∃ k : Nat, k ≤ 5 ∧ i = .int .i64 k ∧ Hid (level l = findLv (levelsL.drop k) k l)) (fun i => 5 - (intOf i).toNat)
 case atStart => exact ⟨0, by omega, rfl, level_find l⟩
 case round =>
  obtain ⟨k, hk, rfl, hf⟩ := hrel
  by_cases hlt : k < 5
  ·obtain ⟨x, hx⟩ : ∃ x, levelsL[k]? = some x := ⟨_, List.getElem?_eq_getElem (by simpa [levelsL] using hlt)⟩
   obtain ⟨A, n, c, hc, hs⟩ := HR.out k x hx
   have HF : level l = findLv (x :: levelsL.drop (k + 1)) k l := by
    have := hf.out
    rw [List.drop_eq_getElem_cons (by simpa [levelsL] using hlt)] at this
    rw [(List.getElem?_eq_some_iff.1 hx).2] at this
    exact this
   have HF' := Lib.hid HF
   have hxl : x.length ≤ 100 := by
    have : ∀ y ∈ levelsL, y.length ≤ 100 := by decide
    exact this x (List.mem_of_getElem? hx)
   have HS := Lib.hid hs
   clear HF hf hx hs
   by_cases hm : l ∈ x
   all_goals
    have HM := Lib.hid hm
    clear hm
    go_wp2_with fail
    refine (contains_any HS.out (by omega) l).mono ?_; rintro e w2 ⟨rfl, rfl⟩
    have hd : decide (l ∈ x) = decide (l ∈ x) := rfl
    simp only [HM.out, decide_true, decide_false]
    go_wp2_with fail
   ·go_ret
    refine ⟨ret_int ?_, hb⟩
    have := HF'.out
    rw [findLv, if_pos HM.out, HA.out] at this
    exact this.symm
   ·go_round
    case rel =>
     refine ⟨k + 1, by omega, by go_num, ?_⟩
     have := HF'.out
     rw [findLv, if_neg HM.out] at this
     exact this
    case measure => simp [intOf]; omega
  ·have : k = 5 := by omega
   subst this
   go_wp2_with fail
   go_ret
   refine ⟨ret_int ?_, hb⟩
   have := hf.out
   rw [HA.out] at this
   rw [this]; rfl
end Go.Proofs.YtpidjanngbaiiaaGreatDoor
