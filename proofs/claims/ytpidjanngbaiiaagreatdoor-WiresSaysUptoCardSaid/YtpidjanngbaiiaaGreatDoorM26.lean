/-
  The reference's Unwire: a round at an event of kind 4.
  The reference's Unwire: a round at an event of kind 5.
  The reference's Unwire: a round at an event of kind 6.
-/
import Derived.Test.YtpidjanngbaiiaaGreatDoorM25
namespace Go.Proofs.YtpidjanngbaiiaaGreatDoor
open Go.RowKit Go.Proofs

set_option maxRecDepth 100000
set_option maxHeartbeats 32000000 in
theorem uw_k4 (l : Str) (w wr : World) (RES : List Ev × Int × Nat) (hl : l.length ≤ 1048576) (hTr : Tabs wr) (es : List Ev) (xs : List Value) (p gk : Nat) (Av : Option Addr) (cv : Nat) (c : UInt8) (hplt : p < l.length) (hc : l[p]? = some c) (HEV2 : Hid (rdEv l p = rdTyEv l 4 (p + 1)))
  (HBADR : Hid (∀ q, rdEv l p = .error q → (([] : List Ev), (3 : Int), q) = RES)) (HOKR : Hid (∀ e q, rdEv l p = .ok (e, q) → rdEvs l (gk - 1 + 1) q (es ++ [e]) = RES ∧ q ≤ l.length)) (hK : (c.toNat : Int) = 4) (h2 : ((es.length : Int) == 200) = false) (h200 : ¬ es.length = 200) (hes : es.length + gk = 200)
  (HFX : Hid (FX wr w.heap.size)) (HROW : Hid (EvRow wr (w.heap.size + 1) (.slice Av es.length cv) es xs)) (HBR : Hid (Below w.heap.size w wr)) (hzr : w.heap.size < wr.heap.size) (u2 u7 u8 u9 u10 u11 u12 u13 u14 u15 u16 u17 u18 u19 u20 u21 u22 u23 u24 u25 u26 u27 u28 u29 u30 u31 u32 u33 u34 u35 u36 u37 u38 u39 u40 u41 u42 u43 u44 u45 u46 u47 u48 u49 u50 u51 u52 u53 u54 u55 u56 u57 u58 u59 u60 u61 u62 u63 u64 u65 u66 u67 u68 u69 u70 u71 u72 u73 u74 u75 u76 u77 u78 u79 u80 u81 u82 u83 u84 u85 u86 u87 u88 u89 u90 u91 u92 u93 u94 u95 u96 u97 u98 u99 u100 u101 u102 u103 u104 u105 u106 u107 u108 u109 u110 u111 u112 u113 u114 u115 u116 u117 u118 u119 u120 u121 u122 u123 u124 u125 u126 u127 u128 u129 u130 u131 u132 u133 u134 u135 u136 u137 u138 u139 u140 u141 u142 u143 u144 u145 u146 u147 u148 u149 u150 u151 u152 u153 u154 u155 u156 u157 u158 u159 u160 u161 u162 u163 u164 u165 u166 u167 u168 u169 u170 u171 u172 u173 u174 u175 u176 u177 u178 u179 u180 u181 u182 u183 u184 u185 u186 u187 u188 u189 u190 u191 u192 u193 u194 u195 u196 u197 u198 u199 u200 u201 u202 u203 u204 u205 u206 u207 u208 u209 u210 u211 u212 u213 u214 u215 u216 u217 u218 u219 u220 u221 u222 u223 u224 u225 u226 u227 u228 u229 u230 u231 : Value) (N : Act → World → Prop) (Qx : Exit → Act → World → Prop) (hN : UwNext l w RES gk N)
  (hQ : ∀ a w', bodyPost Tryz.prog Tryz.f10 (fun e w' => Below w.heap.size w w' ∧ ∃ v, e = .returned (.tuple #[v, .agg #[.int .i64 RES.2.1, .int .i64 RES.2.2]]) ∧ EvsD (fun k => w.heap.size ≤ k) w' v RES.1) Exit.ret a w' → Qx Exit.ret a w') :
  Code.wp Tryz.prog unwBody (Exit.then N Qx) { tmps := #[.string ⟨l.toArray⟩, undef, u2, .pointer (some ⟨w.heap.size, 0, none⟩), .func (.func 35) #[] #[], .slice Av es.length cv, .int .i64 p, u7, u8, u9, u10, u11, u12, u13, u14, u15, u16, u17, u18, u19, u20, u21, u22, u23, u24, u25, u26, u27, u28, u29, u30, u31, u32, u33, u34, u35, u36, u37, u38, u39, u40, u41, u42, u43, u44, u45, u46, u47, u48, u49, u50, u51, u52, u53, u54, u55, u56, u57, u58, u59, u60, u61, u62, u63, u64, u65, u66, u67, u68, u69, u70, u71, u72, u73, u74, u75, u76, u77, u78, u79, u80, u81, u82, u83, u84, u85, u86, u87, u88, u89, u90, u91, u92, u93, u94, u95, u96, u97, u98, u99, u100, u101, u102, u103, u104, u105, u106, u107, u108, u109, u110, u111, u112, u113, u114, u115, u116, u117, u118, u119, u120, u121, u122, u123, u124, u125, u126, u127, u128, u129, u130, u131, u132, u133, u134, u135, u136, u137, u138, u139, u140, u141, u142, u143, u144, u145, u146, u147, u148, u149, u150, u151, u152, u153, u154, u155, u156, u157, u158, u159, u160, u161, u162, u163, u164, u165, u166, u167, u168, u169, u170, u171, u172, u173, u174, u175, u176, u177, u178, u179, u180, u181, u182, u183, u184, u185, u186, u187, u188, u189, u190, u191, u192, u193, u194, u195, u196, u197, u198, u199, u200, u201, u202, u203, u204, u205, u206, u207, u208, u209, u210, u211, u212, u213, u214, u215, u216, u217, u218, u219, u220, u221, u222, u223, u224, u225, u226, u227, u228, u229, u230, u231, undef, undef], defers := [] } wr := by
 have hlt : (p : Int) < (l.length : Int) := by omega
 have hby : (⟨l.toArray⟩ : ByteArray)[p]'(by simpa [ByteArray.size] using hplt) = c := byte_at' hc _
 have hp1 : p + 1 ≤ l.length := hplt
 have HN := Lib.hid hN
 have HQ := Lib.hid hQ
 have h : unwBody = Code.seq _ _ := rfl
 rw [h]
 clear h hN hQ hc
 go_step
 rename_i K0 h0
 have H0 := Lib.hid h0
 clear h0
 go_wp2_with fail
 refine H0.out _ _ ?_
 clear H0
 go_step
 go_step
 rename_i K1 h1
 have H1 := Lib.hid h1
 clear h1
 go_wp2_with fail
 refine H1.out _ _ ?_
 clear H1
 go_step
 rename_i K2 h2
 have H2 := Lib.hid h2
 clear h2
 go_wp2_with fail
 refine H2.out _ _ ?_
 clear H2
 go_step
 rename_i K3 h3
 have H3 := Lib.hid h3
 clear h3
 go_wp2_with fail
 refine H3.out _ _ ?_
 clear H3
 go_step
 rename_i K4 h4
 have H4 := Lib.hid h4
 clear h4
 go_wp2_with fail
 refine H4.out _ _ ?_
 clear H4
 go_step
 rename_i K5 h5
 have H5 := Lib.hid h5
 clear h5
 go_wp2_with fail
 refine H5.out _ _ ?_
 clear H5
 have HEV3 : Hid (rdEv l p = (match rtext l (p + 1) with
  | .error q => .error q
  | .ok x => if (rdParse x.1).2.1 = 0 ∧ txt (rdParse x.1).1 = x.1 then .ok (⟨4, 0, 0, [], (rdParse x.1).1, []⟩, x.2) else .error (p + 1))) := Lib.hid (by rw [HEV2.out]; unfold rdTyEv; cases rtext l (p + 1) <;> rfl)
 clear HEV2
 go_step
 rename_i K6 h6
 have H6 := Lib.hid h6
 clear h6
 go_wp2_with fail
 refine H6.out _ _ ?_
 clear H6
 go_step
 rename_i K7 h7
 have H7 := Lib.hid h7
 clear h7
 go_wp2_with fail
 refine H7.out _ _ ?_
 clear H7
 have hnum := refNum_any l (p + 1) (wr.alloc (.cells (evCells ⟨4, 0, 0, [], zeroTy, []⟩ (.slice none 0 0) (.slice none 0 0)) 32)) hl (by omega)
 rw [← wnum_agree l (p + 1) (by omega)] at hnum
 have HNUM := Lib.hid hnum
 have hbW : Below wr.heap.size wr (wr.alloc (.cells (evCells ⟨4, 0, 0, [], zeroTy, []⟩ (.slice none 0 0) (.slice none 0 0)) 32)) := (Below.refl _ _).alloc (Nat.le_refl _) _
 have HX := Lib.hid (XBox.new wr ⟨4, 0, 0, [], zeroTy, []⟩ (.slice none 0 0) (.slice none 0 0))
 have HBW := Lib.hid hbW
 clear hnum hbW
 cases hq : wnum l (p + 1) with
 | error q =>
  rw [hq] at HNUM
  have hrt : rtext l (p + 1) = .error q := by unfold rtext; rw [hq]
  have hq := HBADR.out q (by rw [HEV3.out, hrt])
  have HRES := Lib.hid hq
  clear hq hrt HBADR HOKR HEV3
  go_step
  rename_i K8 h8
  have H8 := Lib.hid h8
  clear h8
  go_wp2_with fail
  refine HNUM.out.mono ?_
  rintro r w5 ⟨rfl, hb5⟩
  have X5 := HX.out.keep hb5
  have hbr5 := chain HBW.out hb5
  have HWZ : Hid (wr.heap.size < w5.heap.size) := Lib.hid (by have := hb5.size; simp only [World.size_alloc] at this; omega)
  have FX5 := HFX.out.keep hbr5
  have B5 := chain HBR.out hbr5
  clear HNUM HX HBW hb5
  simp only [numTup]
  go_wp2_with fail
  refine H8.out _ _ ?_
  clear H8
  go_wp2_with fail
  refine (wbad_any q _).mono ?_
  rintro r w6 ⟨rfl, hb6⟩
  have FX6 := FX5.keep hb6
  have B6 := chain B5 hb6
  clear hb6
  obtain ⟨f0, f1, fz⟩ := id FX6
  go_wp2_with fail
  obtain ⟨y0, y1⟩ := FX6.set 3 q
  have B7 := below2 B6 (Nat.le_refl _) 3 q
  generalize (w6.setCell ⟨w.heap.size, 0, none⟩ (.int .i64 3)).setCell ⟨w.heap.size, 1, none⟩ (.int .i64 q) = w7 at y0 y1 B7 ⊢
  refine HQ.out _ _ ?_
  rw [← HRES.out]
  exact bodyPost_ret (v := .tuple #[.slice none 0 0, .agg #[.int .i64 3, .int .i64 q]]) (by simp [results, Tryz.results10, go_sem, y0, y1]) rfl ⟨B7, _, rfl, evs_nil _ _⟩
 | ok x =>
  obtain ⟨n, e⟩ := x
  have hn64 := wnum_lt hq
  have hne := wnum_le hq
  have hu : IntKind.u64.wrap ((l.length : Int) - (e : Int)) = (l.length : Int) - (e : Int) := Go.IntWalk.u64_in _ (by omega)
  have hu2 : ((l.length : Int) - (e : Int)) % 18446744073709551616 = (l.length : Int) - (e : Int) := by omega
  rw [hq] at HNUM
  go_step
  rename_i K8 h8
  have H8 := Lib.hid h8
  clear h8
  go_wp2_with fail
  refine HNUM.out.mono ?_
  rintro r w5 ⟨rfl, hb5⟩
  have X5 := HX.out.keep hb5
  have hbr5 := chain HBW.out hb5
  have HWZ : Hid (wr.heap.size < w5.heap.size) := Lib.hid (by have := hb5.size; simp only [World.size_alloc] at this; omega)
  have FX5 := HFX.out.keep hbr5
  have B5 := chain HBR.out hbr5
  clear HNUM HX HBW hb5
  simp only [numTup]
  go_wp2_with fail
  refine H8.out _ _ ?_
  clear H8
  have e0 : ¬ (e : Int) < 0 := by omega
  go_step
  rename_i K9 h9
  have H9 := Lib.hid h9
  clear h9
  go_wp2_with fail
  refine H9.out _ _ ?_
  clear H9
  obtain ⟨x0, x1, x2, x3, x4, x5, x6, x7, x8, x9⟩ := X5.c.box
  have xf := X5.fr
  go_step
  rename_i K10 h10
  have H10 := Lib.hid h10
  clear h10
  go_wp2_with fail
  refine H10.out _ _ ?_
  clear H10
  by_cases hbig : l.length - e < n
  ·have hb1 : (l.length : Int) - (e : Int) < (n : Int) := by omega
   have hrt : rtext l (p + 1) = .error (p + 1) := by unfold rtext; rw [hq]; simp only; rw [if_pos hbig]
   have hq := HBADR.out (p + 1) (by rw [HEV3.out, hrt])
   have HRES := Lib.hid hq
   clear hq hrt HBADR HOKR HEV3 hbig
   go_wp2_with fail
   refine (wbad_any (p + 1) _).mono ?_
   rintro r w6 ⟨rfl, hb6⟩
   have FX6 := FX5.keep hb6
   have B6 := chain B5 hb6
   clear hb6
   obtain ⟨f0, f1, fz⟩ := id FX6
   go_wp2_with fail
   obtain ⟨y0, y1⟩ := FX6.set 3 (p + 1)
   have B7 := below2 B6 (Nat.le_refl _) 3 (p + 1)
   generalize (w6.setCell ⟨w.heap.size, 0, none⟩ (.int .i64 3)).setCell ⟨w.heap.size, 1, none⟩ (.int .i64 (p + 1)) = w7 at y0 y1 B7 ⊢
   refine HQ.out _ _ ?_
   rw [← HRES.out]
   exact bodyPost_ret (v := .tuple #[.slice none 0 0, .agg #[.int .i64 3, .int .i64 (p + 1)]]) (by simp [results, Tryz.results10, go_sem, y0, y1]) rfl ⟨B7, _, rfl, evs_nil _ _⟩
  ·have hb1 : ¬ (l.length : Int) - (e : Int) < (n : Int) := by omega
   have hrt : rtext l (p + 1) = .ok ((l.drop e).take n, e + n) := by unfold rtext; rw [hq]; simp only; rw [if_neg hbig]
   rw [hrt] at HEV3
   have hTl : ((l.drop e).take n).length ≤ 1048576 := by simp only [List.length_take, List.length_drop]; omega
   have hex : (⟨l.toArray⟩ : ByteArray).extract e (e + n) = ⟨((l.drop e).take n).toArray⟩ := by
    have := ext_mid l e (e + n)
    rw [Nat.add_sub_cancel_left] at this
    exact this
   have hwn : IntKind.i64.wrap (n : Int) = (n : Int) := Go.IntWalk.i64_in _ (by omega)
   have g1 : ¬ (e : Int) < 0 := by omega
   have g3 : ¬ ((e : Int) + (n : Int)) < (e : Int) := by omega
   have g5 : (e : Int) + (n : Int) ≤ (l.length : Int) := by omega
   have g6 : e + n ≤ l.length := by omega
   clear hrt hbig hq
   generalize (l.drop e).take n = T at HEV3 hTl hex
   go_step
   rename_i K11 h11
   have H11 := Lib.hid h11
   clear h11
   go_wp2_with fail
   refine H11.out _ _ ?_
   clear H11
   go_step
   rename_i K12 h12
   have H12 := Lib.hid h12
   clear h12
   go_wp2_with fail
   refine H12.out _ _ ?_
   clear H12
   have hparse := ParseType_any T w5 (by omega)
   have hgood := fun h => rdParse_good (l := T) h
   have hpf := parse_fit T (by unfold maxLen; omega)
   obtain ⟨TY, CC, AA, hP⟩ : ∃ t c a, rdParse T = (t, c, a) := ⟨_, _, _, rfl⟩
   rw [hP] at hparse hgood hpf
   simp only [hP] at HEV3
   simp only at hparse hgood hpf
   have HPR := Lib.hid hparse
   have HG := Lib.hid hgood
   have HF := Lib.hid hpf
   clear hparse hgood hpf hP
   obtain ⟨x0, x1, x2, x3, x4, x5, x6, x7, x8, x9⟩ := X5.c.box
   go_step
   rename_i K13 h13
   have H13 := Lib.hid h13
   clear h13
   go_wp2_with fail
   refine HPR.out.mono ?_
   rintro r w6 ⟨hb6, v, rfl, hT6⟩
   have X6 := X5.keep hb6
   have hbr6 := chain hbr5 hb6
   have hz6 := hbr6.size
   have hz5 := hb6.size
   have hzr5 := hbr5.size
   obtain ⟨lv, kv, rfl, k1, k2⟩ := hT6
   have K1 : Hid (StrsD (fun k => w5.heap.size ≤ k) w6 lv TY.labels) := Lib.hid k1
   have K2 : Hid (TysD (fun k => w5.heap.size ≤ k) w6 kv TY.kids) := Lib.hid k2
   obtain ⟨A1, c1, rfl, -, -⟩ := k1
   obtain ⟨A2, c2, rfl, -, -⟩ := k2
   clear HPR X5 hbr5 FX5 B5 hb6 x0 x1 x2 x3 x4 x5 x6 x7 x8 x9
   obtain ⟨W7, hW7⟩ : ∃ x, (w6.alloc (.cells #[.int .i64 TY.kind, .int .i64 TY.sort, .string ⟨TY.name.toArray⟩, (.slice A1 TY.labels.length c1), (.slice A2 TY.kids.length c2)] 30)).alloc (.cells #[.int .i64 CC, .int .i64 AA] 37) = x := ⟨_, rfl⟩
   have hb7 : Below w6.heap.size w6 W7 := by subst hW7; go_grown
   have HW7 := Lib.hid hW7
   have TB7 : VBox W7 w6.heap.size TY (.slice A1 TY.labels.length c1) (.slice A2 TY.kids.length c2) := by subst hW7; exact ⟨by simp [go_sem], by simp [go_sem], by simp [go_sem], by simp [go_sem], by simp [go_sem], fun j => by simp [go_sem], by simp; omega⟩
   have f07 : W7.cell? ⟨w6.heap.size + 1, 0, none⟩ = some (.int .i64 CC) := by subst hW7; simp [go_sem]
   have X7 := X6.keep hb7
   have hbr7 := chain hbr6 hb7
   replace K1 := Lib.hid (StrsD.below K1.out hb7)
   replace K2 := Lib.hid (TysD.below' K2.out hb7)
   clear X6 hbr6 hb7 hW7
   by_cases hc0 : CC = 0
   ·subst hc0
    have hty := HG.out rfl
    have HTY := Lib.hid hty
    have hg := good_of_chk TY [] 60 hty
    have hcall := refText_any (parts TY) TY _ W7 (Nat.le_refl _) (parts_ok hty) (tyD_of K1.out K2.out).is hg
    unfold TextSays at hcall
    have HCL := Lib.hid hcall
    obtain ⟨t0, t1, t2, t3, t4, t5, t6⟩ := id TB7
    clear hcall hg HG hty
    go_wp2_with fail
    rw [HW7.out]
    go_wp2_with fail
    refine HCL.out.mono ?_
    rintro r w9 ⟨rfl, hb9⟩
    have X9 := X7.keep hb9
    have hbr9 := chain hbr7 hb9
    have TB9 := TB7.keep hb9 TB7.lt
    replace K1 := Lib.hid (StrsD.below K1.out hb9)
    replace K2 := Lib.hid (TysD.below' K2.out hb9)

    clear HCL X7 hbr7 TB7 hb9 t0 t1 t2 t3 t4 t5 t6 f07 HW7

    obtain ⟨t0, t1, t2, t3, t4, t5, t6⟩ := id TB9
    by_cases hx : txt TY = T
    ·have hx2 : (txt TY == T) = true := by rw [beq_iff_eq]; exact hx
     have hok := HOKR.out _ _ (show rdEv l p = .ok (⟨4, 0, 0, [], TY, []⟩, e + n) by rw [HEV3.out]; rw [if_pos (by first | exact ⟨rfl, hx⟩ | exact ⟨trivial, hx⟩)])
     have HOK := Lib.hid hok
     clear hok hx HBADR HOKR HEV3
     obtain ⟨x0, x1, x2, x3, x4, x5, x6, x7, x8, x9⟩ := X9.c.box
     have xf := X9.fr
     go_wp2_with fail
     refine H13.out _ _ ?_
     clear H13
     have X10 := X9.set_ty TY (.slice A1 TY.labels.length c1) (.slice A2 TY.kids.length c2)
     simp only at X10
     have hbr10 : Below wr.heap.size wr (((((w9.setCell ⟨wr.heap.size, 4, none⟩ (.int .i64 TY.kind)).setCell ⟨wr.heap.size, 5, none⟩ (.int .i64 TY.sort)).setCell ⟨wr.heap.size, 6, none⟩ (.string ⟨TY.name.toArray⟩)).setCell ⟨wr.heap.size, 7, none⟩ (.slice A1 TY.labels.length c1)).setCell ⟨wr.heap.size, 8, none⟩ (.slice A2 TY.kids.length c2)) := ((((hbr9.setCell (p := ⟨wr.heap.size, 4, none⟩) (Nat.le_refl _) _).setCell (p := ⟨wr.heap.size, 5, none⟩) (Nat.le_refl _) _).setCell (p := ⟨wr.heap.size, 6, none⟩) (Nat.le_refl _) _).setCell (p := ⟨wr.heap.size, 7, none⟩) (Nat.le_refl _) _).setCell (p := ⟨wr.heap.size, 8, none⟩) (Nat.le_refl _) _
     have hs10 : Same (· ≠ wr.heap.size) w9 (((((w9.setCell ⟨wr.heap.size, 4, none⟩ (.int .i64 TY.kind)).setCell ⟨wr.heap.size, 5, none⟩ (.int .i64 TY.sort)).setCell ⟨wr.heap.size, 6, none⟩ (.string ⟨TY.name.toArray⟩)).setCell ⟨wr.heap.size, 7, none⟩ (.slice A1 TY.labels.length c1)).setCell ⟨wr.heap.size, 8, none⟩ (.slice A2 TY.kids.length c2)) := same5 _ _ _ _ _ _ _
     have hwz5 : wr.heap.size < w5.heap.size := HWZ.out
     replace K1 := Lib.hid (StrsD.keep (D' := fun k => wr.heap.size < k) K1.out (fun k hk hl => hs10 k (by have : w5.heap.size ≤ k := hk; omega) hl) (fun k hk _ => by have : w5.heap.size ≤ k := hk; omega))
     replace K2 := Lib.hid (TysD.keep (D' := fun k => wr.heap.size < k) K2.out (fun k hk hl => hs10 k (by have : w5.heap.size ≤ k := hk; omega) hl) (fun k hk _ => by have : w5.heap.size ≤ k := hk; omega))
     clear X9 hbr9 hs10 x0 x1 x2 x3 x4 x5 x6 x7 x8 x9 xf t0 t1 t2 t3 t4 t5 t6 TB9
     generalize ((((w9.setCell ⟨wr.heap.size, 4, none⟩ (.int .i64 TY.kind)).setCell ⟨wr.heap.size, 5, none⟩ (.int .i64 TY.sort)).setCell ⟨wr.heap.size, 6, none⟩ (.string ⟨TY.name.toArray⟩)).setCell ⟨wr.heap.size, 7, none⟩ (.slice A1 TY.labels.length c1)).setCell ⟨wr.heap.size, 8, none⟩ (.slice A2 TY.kids.length c2) = w10 at X10 hbr10 K1 K2 ⊢
     have hfe : EvFit ⟨4, 0, 0, [], TY, []⟩ := ⟨by simp only; omega, by simp only; omega, by simp only; omega, by simp only; omega, by simp, HF.out, by simp⟩
     have hE : wchk (tyErr (⟨4, 0, 0, [], TY, []⟩ : Ev).ty) (isName (⟨4, 0, 0, [], TY, []⟩ : Ev).label) ⟨4, 0, 0, [], TY, []⟩ = 0 := by
      show (if (4 : Int) = 2 ∨ (4 : Int) = 3 then _ else if (4 : Int) = 4 ∨ (4 : Int) = 5 then tyErr TY else _) = _
      rw [if_neg (by decide), if_pos (by decide), HTY.out]
     have hcall := wireEvent_any ⟨4, 0, 0, [], TY, []⟩ (evAgg ⟨4, 0, 0, [], TY, []⟩ (.slice A1 TY.labels.length c1) (.slice A2 TY.kids.length c2)) w10 ⟨_, _, rfl, StrsD.keep (D' := All) K1.out (Same.refl _ _) (fun _ _ _ => trivial), TysD.keep (D' := All) K2.out (Same.refl _ _) (fun _ _ _ => trivial)⟩ hfe (hTr.below hbr10)
     rw [hE] at hcall
     have HCALL := Lib.hid hcall
     clear hcall hE hfe
     obtain ⟨x0, x1, x2, x3, x4, x5, x6, x7, x8, x9⟩ := X10.c.box
     have xf := X10.fr
     go_wp2_with fail
     refine HCALL.out.mono ?_
     rintro r w11 ⟨rfl, hb11⟩
     have X11 := X10.keep hb11
     have hbr11 := chain hbr10 hb11
     replace K1 := Lib.hid (StrsD.below K1.out hb11)
     replace K2 := Lib.hid (TysD.below' K2.out hb11)
     clear HCALL X10 hbr10 hb11 x0 x1 x2 x3 x4 x5 x6 x7 x8 x9 xf
     clear w10
     obtain ⟨x0, x1, x2, x3, x4, x5, x6, x7, x8, x9⟩ := X11.c.box
     have hown := fun k e => (HROW.out.own.lt k e).2
     obtain ⟨A1', A2', A3, A4⟩ := app_ready HROW.out _ hbr11 (by omega) w11.heap.size rfl ⟨4, 0, 0, [], TY, []⟩ (.slice A1 TY.labels.length c1) (.slice A2 TY.kids.length c2) ⟨StrsD.keep K1.out (Same.refl _ _) (fun k hk _ => ⟨by have : wr.heap.size < k := hk; omega, fun e => by have h1 := hown k e; have : wr.heap.size < k := hk; omega⟩), TysD.keep K2.out (Same.refl _ _) (fun k hk _ => ⟨by have : wr.heap.size < k := hk; omega, fun e => by have h1 := hown k e; have : wr.heap.size < k := hk; omega⟩)⟩
     clear hown
     go_wp2_with (at_builtin; go_loud (refine wpList_app rt_evs rfl (.tmp 228) (.tmp 230) rfl (w.heap.size + 1) (.slice Av es.length cv) es.length xs rfl A1'.out ⟨w11.heap.size, 0, none⟩ 1 1 (evList ⟨4, 0, 0, [], TY, []⟩ (.slice A1 TY.labels.length c1) (.slice A2 TY.kids.length c2)) rfl rfl A2'.out (by simp [Value.oneCell']) (by unfold maxLen; omega) (by omega) A3.out ?_; intro v' w4 k1 k2 k3 k4; obtain ⟨row4, hb4⟩ := A4.out v' w4 k1 k2 k3 k4; obtain ⟨Ax, cx, rfl⟩ := own_form k1; clear k1 k2 k3 k4 A1' A2' A3 A4))
     refine HN.out _ _ (e + n) (es ++ [⟨4, 0, 0, [], TY, []⟩]) _ _ HOK.out.2 (by rw [List.length_append]; simp only [List.length_cons, List.length_nil]; omega) rfl (Lib.hid HOK.out.1) (Lib.hid (HFX.out.keepB hb4 (by omega))) row4 (HBR.out.trans (hb4.mono (by omega))) (by have := hb4.size; omega) ..
    ·have hx2 : (txt TY == T) = false := by rw [beq_eq_false_iff_ne]; exact hx
     have hq := HBADR.out (p + 1) (by rw [HEV3.out]; rw [if_neg (fun h => hx h.2)])
     have HRES := Lib.hid hq
     have FX5 := HFX.out.keep hbr9
     have B5 := chain HBR.out hbr9
     clear hq hx HBADR HOKR HEV3
     go_wp2_with fail
     refine (wbad_any (p + 1) _).mono ?_
     rintro r w6 ⟨rfl, hb6⟩
     have FX6 := FX5.keep hb6
     have B6 := chain B5 hb6
     clear hb6
     obtain ⟨f0, f1, fz⟩ := id FX6
     go_wp2_with fail
     obtain ⟨y0, y1⟩ := FX6.set 3 (p + 1)
     have B7 := below2 B6 (Nat.le_refl _) 3 (p + 1)
     generalize (w6.setCell ⟨w.heap.size, 0, none⟩ (.int .i64 3)).setCell ⟨w.heap.size, 1, none⟩ (.int .i64 (p + 1)) = w7 at y0 y1 B7 ⊢
     refine HQ.out _ _ ?_
     rw [← HRES.out]
     exact bodyPost_ret (v := .tuple #[.slice none 0 0, .agg #[.int .i64 3, .int .i64 (p + 1)]]) (by simp [results, Tryz.results10, go_sem, y0, y1]) rfl ⟨B7, _, rfl, evs_nil _ _⟩
   ·have hcb : (CC != 0) = true := by rw [bne_iff_ne]; exact hc0
    have hq := HBADR.out (p + 1) (by rw [HEV3.out]; rw [if_neg (fun h => hc0 h.1)])
    have HRES := Lib.hid hq
    clear hq hc0 HBADR HOKR HEV3
    go_wp2_with fail
    rw [HW7.out]
    have FX5 := HFX.out.keep hbr7
    have B5 := chain HBR.out hbr7
    go_wp2_with fail
    refine (wbad_any (p + 1) _).mono ?_
    rintro r w6 ⟨rfl, hb6⟩
    have FX6 := FX5.keep hb6
    have B6 := chain B5 hb6
    clear hb6
    obtain ⟨f0, f1, fz⟩ := id FX6
    go_wp2_with fail
    obtain ⟨y0, y1⟩ := FX6.set 3 (p + 1)
    have B7 := below2 B6 (Nat.le_refl _) 3 (p + 1)
    generalize (w6.setCell ⟨w.heap.size, 0, none⟩ (.int .i64 3)).setCell ⟨w.heap.size, 1, none⟩ (.int .i64 (p + 1)) = w7 at y0 y1 B7 ⊢
    refine HQ.out _ _ ?_
    rw [← HRES.out]
    exact bodyPost_ret (v := .tuple #[.slice none 0 0, .agg #[.int .i64 3, .int .i64 (p + 1)]]) (by simp [results, Tryz.results10, go_sem, y0, y1]) rfl ⟨B7, _, rfl, evs_nil _ _⟩
set_option maxRecDepth 100000
set_option maxHeartbeats 32000000 in
theorem uw_k5 (l : Str) (w wr : World) (RES : List Ev × Int × Nat) (hl : l.length ≤ 1048576) (hTr : Tabs wr) (es : List Ev) (xs : List Value) (p gk : Nat) (Av : Option Addr) (cv : Nat) (c : UInt8) (hplt : p < l.length) (hc : l[p]? = some c) (HEV2 : Hid (rdEv l p = rdTyEv l 5 (p + 1)))
  (HBADR : Hid (∀ q, rdEv l p = .error q → (([] : List Ev), (3 : Int), q) = RES)) (HOKR : Hid (∀ e q, rdEv l p = .ok (e, q) → rdEvs l (gk - 1 + 1) q (es ++ [e]) = RES ∧ q ≤ l.length)) (hK : (c.toNat : Int) = 5) (h2 : ((es.length : Int) == 200) = false) (h200 : ¬ es.length = 200) (hes : es.length + gk = 200)
  (HFX : Hid (FX wr w.heap.size)) (HROW : Hid (EvRow wr (w.heap.size + 1) (.slice Av es.length cv) es xs)) (HBR : Hid (Below w.heap.size w wr)) (hzr : w.heap.size < wr.heap.size) (u2 u7 u8 u9 u10 u11 u12 u13 u14 u15 u16 u17 u18 u19 u20 u21 u22 u23 u24 u25 u26 u27 u28 u29 u30 u31 u32 u33 u34 u35 u36 u37 u38 u39 u40 u41 u42 u43 u44 u45 u46 u47 u48 u49 u50 u51 u52 u53 u54 u55 u56 u57 u58 u59 u60 u61 u62 u63 u64 u65 u66 u67 u68 u69 u70 u71 u72 u73 u74 u75 u76 u77 u78 u79 u80 u81 u82 u83 u84 u85 u86 u87 u88 u89 u90 u91 u92 u93 u94 u95 u96 u97 u98 u99 u100 u101 u102 u103 u104 u105 u106 u107 u108 u109 u110 u111 u112 u113 u114 u115 u116 u117 u118 u119 u120 u121 u122 u123 u124 u125 u126 u127 u128 u129 u130 u131 u132 u133 u134 u135 u136 u137 u138 u139 u140 u141 u142 u143 u144 u145 u146 u147 u148 u149 u150 u151 u152 u153 u154 u155 u156 u157 u158 u159 u160 u161 u162 u163 u164 u165 u166 u167 u168 u169 u170 u171 u172 u173 u174 u175 u176 u177 u178 u179 u180 u181 u182 u183 u184 u185 u186 u187 u188 u189 u190 u191 u192 u193 u194 u195 u196 u197 u198 u199 u200 u201 u202 u203 u204 u205 u206 u207 u208 u209 u210 u211 u212 u213 u214 u215 u216 u217 u218 u219 u220 u221 u222 u223 u224 u225 u226 u227 u228 u229 u230 u231 : Value) (N : Act → World → Prop) (Qx : Exit → Act → World → Prop) (hN : UwNext l w RES gk N)
  (hQ : ∀ a w', bodyPost Tryz.prog Tryz.f10 (fun e w' => Below w.heap.size w w' ∧ ∃ v, e = .returned (.tuple #[v, .agg #[.int .i64 RES.2.1, .int .i64 RES.2.2]]) ∧ EvsD (fun k => w.heap.size ≤ k) w' v RES.1) Exit.ret a w' → Qx Exit.ret a w') :
  Code.wp Tryz.prog unwBody (Exit.then N Qx) { tmps := #[.string ⟨l.toArray⟩, undef, u2, .pointer (some ⟨w.heap.size, 0, none⟩), .func (.func 35) #[] #[], .slice Av es.length cv, .int .i64 p, u7, u8, u9, u10, u11, u12, u13, u14, u15, u16, u17, u18, u19, u20, u21, u22, u23, u24, u25, u26, u27, u28, u29, u30, u31, u32, u33, u34, u35, u36, u37, u38, u39, u40, u41, u42, u43, u44, u45, u46, u47, u48, u49, u50, u51, u52, u53, u54, u55, u56, u57, u58, u59, u60, u61, u62, u63, u64, u65, u66, u67, u68, u69, u70, u71, u72, u73, u74, u75, u76, u77, u78, u79, u80, u81, u82, u83, u84, u85, u86, u87, u88, u89, u90, u91, u92, u93, u94, u95, u96, u97, u98, u99, u100, u101, u102, u103, u104, u105, u106, u107, u108, u109, u110, u111, u112, u113, u114, u115, u116, u117, u118, u119, u120, u121, u122, u123, u124, u125, u126, u127, u128, u129, u130, u131, u132, u133, u134, u135, u136, u137, u138, u139, u140, u141, u142, u143, u144, u145, u146, u147, u148, u149, u150, u151, u152, u153, u154, u155, u156, u157, u158, u159, u160, u161, u162, u163, u164, u165, u166, u167, u168, u169, u170, u171, u172, u173, u174, u175, u176, u177, u178, u179, u180, u181, u182, u183, u184, u185, u186, u187, u188, u189, u190, u191, u192, u193, u194, u195, u196, u197, u198, u199, u200, u201, u202, u203, u204, u205, u206, u207, u208, u209, u210, u211, u212, u213, u214, u215, u216, u217, u218, u219, u220, u221, u222, u223, u224, u225, u226, u227, u228, u229, u230, u231, undef, undef], defers := [] } wr := by
 have hlt : (p : Int) < (l.length : Int) := by omega
 have hby : (⟨l.toArray⟩ : ByteArray)[p]'(by simpa [ByteArray.size] using hplt) = c := byte_at' hc _
 have hp1 : p + 1 ≤ l.length := hplt
 have HN := Lib.hid hN
 have HQ := Lib.hid hQ
 have h : unwBody = Code.seq _ _ := rfl
 rw [h]
 clear h hN hQ hc
 go_step
 rename_i K0 h0
 have H0 := Lib.hid h0
 clear h0
 go_wp2_with fail
 refine H0.out _ _ ?_
 clear H0
 go_step
 go_step
 rename_i K1 h1
 have H1 := Lib.hid h1
 clear h1
 go_wp2_with fail
 refine H1.out _ _ ?_
 clear H1
 go_step
 rename_i K2 h2
 have H2 := Lib.hid h2
 clear h2
 go_wp2_with fail
 refine H2.out _ _ ?_
 clear H2
 go_step
 rename_i K3 h3
 have H3 := Lib.hid h3
 clear h3
 go_wp2_with fail
 refine H3.out _ _ ?_
 clear H3
 go_step
 rename_i K4 h4
 have H4 := Lib.hid h4
 clear h4
 go_wp2_with fail
 refine H4.out _ _ ?_
 clear H4
 go_step
 rename_i K5 h5
 have H5 := Lib.hid h5
 clear h5
 go_wp2_with fail
 refine H5.out _ _ ?_
 clear H5
 have HEV3 : Hid (rdEv l p = (match rtext l (p + 1) with
  | .error q => .error q
  | .ok x => if (rdParse x.1).2.1 = 0 ∧ txt (rdParse x.1).1 = x.1 then .ok (⟨5, 0, 0, [], (rdParse x.1).1, []⟩, x.2) else .error (p + 1))) := Lib.hid (by rw [HEV2.out]; unfold rdTyEv; cases rtext l (p + 1) <;> rfl)
 clear HEV2
 go_step
 rename_i K6 h6
 have H6 := Lib.hid h6
 clear h6
 go_wp2_with fail
 refine H6.out _ _ ?_
 clear H6
 go_step
 rename_i K7 h7
 have H7 := Lib.hid h7
 clear h7
 go_wp2_with fail
 refine H7.out _ _ ?_
 clear H7
 have hnum := refNum_any l (p + 1) (wr.alloc (.cells (evCells ⟨5, 0, 0, [], zeroTy, []⟩ (.slice none 0 0) (.slice none 0 0)) 32)) hl (by omega)
 rw [← wnum_agree l (p + 1) (by omega)] at hnum
 have HNUM := Lib.hid hnum
 have hbW : Below wr.heap.size wr (wr.alloc (.cells (evCells ⟨5, 0, 0, [], zeroTy, []⟩ (.slice none 0 0) (.slice none 0 0)) 32)) := (Below.refl _ _).alloc (Nat.le_refl _) _
 have HX := Lib.hid (XBox.new wr ⟨5, 0, 0, [], zeroTy, []⟩ (.slice none 0 0) (.slice none 0 0))
 have HBW := Lib.hid hbW
 clear hnum hbW
 cases hq : wnum l (p + 1) with
 | error q =>
  rw [hq] at HNUM
  have hrt : rtext l (p + 1) = .error q := by unfold rtext; rw [hq]
  have hq := HBADR.out q (by rw [HEV3.out, hrt])
  have HRES := Lib.hid hq
  clear hq hrt HBADR HOKR HEV3
  go_step
  rename_i K8 h8
  have H8 := Lib.hid h8
  clear h8
  go_wp2_with fail
  refine HNUM.out.mono ?_
  rintro r w5 ⟨rfl, hb5⟩
  have X5 := HX.out.keep hb5
  have hbr5 := chain HBW.out hb5
  have HWZ : Hid (wr.heap.size < w5.heap.size) := Lib.hid (by have := hb5.size; simp only [World.size_alloc] at this; omega)
  have FX5 := HFX.out.keep hbr5
  have B5 := chain HBR.out hbr5
  clear HNUM HX HBW hb5
  simp only [numTup]
  go_wp2_with fail
  refine H8.out _ _ ?_
  clear H8
  go_wp2_with fail
  refine (wbad_any q _).mono ?_
  rintro r w6 ⟨rfl, hb6⟩
  have FX6 := FX5.keep hb6
  have B6 := chain B5 hb6
  clear hb6
  obtain ⟨f0, f1, fz⟩ := id FX6
  go_wp2_with fail
  obtain ⟨y0, y1⟩ := FX6.set 3 q
  have B7 := below2 B6 (Nat.le_refl _) 3 q
  generalize (w6.setCell ⟨w.heap.size, 0, none⟩ (.int .i64 3)).setCell ⟨w.heap.size, 1, none⟩ (.int .i64 q) = w7 at y0 y1 B7 ⊢
  refine HQ.out _ _ ?_
  rw [← HRES.out]
  exact bodyPost_ret (v := .tuple #[.slice none 0 0, .agg #[.int .i64 3, .int .i64 q]]) (by simp [results, Tryz.results10, go_sem, y0, y1]) rfl ⟨B7, _, rfl, evs_nil _ _⟩
 | ok x =>
  obtain ⟨n, e⟩ := x
  have hn64 := wnum_lt hq
  have hne := wnum_le hq
  have hu : IntKind.u64.wrap ((l.length : Int) - (e : Int)) = (l.length : Int) - (e : Int) := Go.IntWalk.u64_in _ (by omega)
  have hu2 : ((l.length : Int) - (e : Int)) % 18446744073709551616 = (l.length : Int) - (e : Int) := by omega
  rw [hq] at HNUM
  go_step
  rename_i K8 h8
  have H8 := Lib.hid h8
  clear h8
  go_wp2_with fail
  refine HNUM.out.mono ?_
  rintro r w5 ⟨rfl, hb5⟩
  have X5 := HX.out.keep hb5
  have hbr5 := chain HBW.out hb5
  have HWZ : Hid (wr.heap.size < w5.heap.size) := Lib.hid (by have := hb5.size; simp only [World.size_alloc] at this; omega)
  have FX5 := HFX.out.keep hbr5
  have B5 := chain HBR.out hbr5
  clear HNUM HX HBW hb5
  simp only [numTup]
  go_wp2_with fail
  refine H8.out _ _ ?_
  clear H8
  have e0 : ¬ (e : Int) < 0 := by omega
  go_step
  rename_i K9 h9
  have H9 := Lib.hid h9
  clear h9
  go_wp2_with fail
  refine H9.out _ _ ?_
  clear H9
  obtain ⟨x0, x1, x2, x3, x4, x5, x6, x7, x8, x9⟩ := X5.c.box
  have xf := X5.fr
  go_step
  rename_i K10 h10
  have H10 := Lib.hid h10
  clear h10
  go_wp2_with fail
  refine H10.out _ _ ?_
  clear H10
  by_cases hbig : l.length - e < n
  ·have hb1 : (l.length : Int) - (e : Int) < (n : Int) := by omega
   have hrt : rtext l (p + 1) = .error (p + 1) := by unfold rtext; rw [hq]; simp only; rw [if_pos hbig]
   have hq := HBADR.out (p + 1) (by rw [HEV3.out, hrt])
   have HRES := Lib.hid hq
   clear hq hrt HBADR HOKR HEV3 hbig
   go_wp2_with fail
   refine (wbad_any (p + 1) _).mono ?_
   rintro r w6 ⟨rfl, hb6⟩
   have FX6 := FX5.keep hb6
   have B6 := chain B5 hb6
   clear hb6
   obtain ⟨f0, f1, fz⟩ := id FX6
   go_wp2_with fail
   obtain ⟨y0, y1⟩ := FX6.set 3 (p + 1)
   have B7 := below2 B6 (Nat.le_refl _) 3 (p + 1)
   generalize (w6.setCell ⟨w.heap.size, 0, none⟩ (.int .i64 3)).setCell ⟨w.heap.size, 1, none⟩ (.int .i64 (p + 1)) = w7 at y0 y1 B7 ⊢
   refine HQ.out _ _ ?_
   rw [← HRES.out]
   exact bodyPost_ret (v := .tuple #[.slice none 0 0, .agg #[.int .i64 3, .int .i64 (p + 1)]]) (by simp [results, Tryz.results10, go_sem, y0, y1]) rfl ⟨B7, _, rfl, evs_nil _ _⟩
  ·have hb1 : ¬ (l.length : Int) - (e : Int) < (n : Int) := by omega
   have hrt : rtext l (p + 1) = .ok ((l.drop e).take n, e + n) := by unfold rtext; rw [hq]; simp only; rw [if_neg hbig]
   rw [hrt] at HEV3
   have hTl : ((l.drop e).take n).length ≤ 1048576 := by simp only [List.length_take, List.length_drop]; omega
   have hex : (⟨l.toArray⟩ : ByteArray).extract e (e + n) = ⟨((l.drop e).take n).toArray⟩ := by
    have := ext_mid l e (e + n)
    rw [Nat.add_sub_cancel_left] at this
    exact this
   have hwn : IntKind.i64.wrap (n : Int) = (n : Int) := Go.IntWalk.i64_in _ (by omega)
   have g1 : ¬ (e : Int) < 0 := by omega
   have g3 : ¬ ((e : Int) + (n : Int)) < (e : Int) := by omega
   have g5 : (e : Int) + (n : Int) ≤ (l.length : Int) := by omega
   have g6 : e + n ≤ l.length := by omega
   clear hrt hbig hq
   generalize (l.drop e).take n = T at HEV3 hTl hex
   go_step
   rename_i K11 h11
   have H11 := Lib.hid h11
   clear h11
   go_wp2_with fail
   refine H11.out _ _ ?_
   clear H11
   go_step
   rename_i K12 h12
   have H12 := Lib.hid h12
   clear h12
   go_wp2_with fail
   refine H12.out _ _ ?_
   clear H12
   have hparse := ParseType_any T w5 (by omega)
   have hgood := fun h => rdParse_good (l := T) h
   have hpf := parse_fit T (by unfold maxLen; omega)
   obtain ⟨TY, CC, AA, hP⟩ : ∃ t c a, rdParse T = (t, c, a) := ⟨_, _, _, rfl⟩
   rw [hP] at hparse hgood hpf
   simp only [hP] at HEV3
   simp only at hparse hgood hpf
   have HPR := Lib.hid hparse
   have HG := Lib.hid hgood
   have HF := Lib.hid hpf
   clear hparse hgood hpf hP
   obtain ⟨x0, x1, x2, x3, x4, x5, x6, x7, x8, x9⟩ := X5.c.box
   go_step
   rename_i K13 h13
   have H13 := Lib.hid h13
   clear h13
   go_wp2_with fail
   refine HPR.out.mono ?_
   rintro r w6 ⟨hb6, v, rfl, hT6⟩
   have X6 := X5.keep hb6
   have hbr6 := chain hbr5 hb6
   have hz6 := hbr6.size
   have hz5 := hb6.size
   have hzr5 := hbr5.size
   obtain ⟨lv, kv, rfl, k1, k2⟩ := hT6
   have K1 : Hid (StrsD (fun k => w5.heap.size ≤ k) w6 lv TY.labels) := Lib.hid k1
   have K2 : Hid (TysD (fun k => w5.heap.size ≤ k) w6 kv TY.kids) := Lib.hid k2
   obtain ⟨A1, c1, rfl, -, -⟩ := k1
   obtain ⟨A2, c2, rfl, -, -⟩ := k2
   clear HPR X5 hbr5 FX5 B5 hb6 x0 x1 x2 x3 x4 x5 x6 x7 x8 x9
   obtain ⟨W7, hW7⟩ : ∃ x, (w6.alloc (.cells #[.int .i64 TY.kind, .int .i64 TY.sort, .string ⟨TY.name.toArray⟩, (.slice A1 TY.labels.length c1), (.slice A2 TY.kids.length c2)] 30)).alloc (.cells #[.int .i64 CC, .int .i64 AA] 37) = x := ⟨_, rfl⟩
   have hb7 : Below w6.heap.size w6 W7 := by subst hW7; go_grown
   have HW7 := Lib.hid hW7
   have TB7 : VBox W7 w6.heap.size TY (.slice A1 TY.labels.length c1) (.slice A2 TY.kids.length c2) := by subst hW7; exact ⟨by simp [go_sem], by simp [go_sem], by simp [go_sem], by simp [go_sem], by simp [go_sem], fun j => by simp [go_sem], by simp; omega⟩
   have f07 : W7.cell? ⟨w6.heap.size + 1, 0, none⟩ = some (.int .i64 CC) := by subst hW7; simp [go_sem]
   have X7 := X6.keep hb7
   have hbr7 := chain hbr6 hb7
   replace K1 := Lib.hid (StrsD.below K1.out hb7)
   replace K2 := Lib.hid (TysD.below' K2.out hb7)
   clear X6 hbr6 hb7 hW7
   by_cases hc0 : CC = 0
   ·subst hc0
    have hty := HG.out rfl
    have HTY := Lib.hid hty
    have hg := good_of_chk TY [] 60 hty
    have hcall := refText_any (parts TY) TY _ W7 (Nat.le_refl _) (parts_ok hty) (tyD_of K1.out K2.out).is hg
    unfold TextSays at hcall
    have HCL := Lib.hid hcall
    obtain ⟨t0, t1, t2, t3, t4, t5, t6⟩ := id TB7
    clear hcall hg HG hty
    go_wp2_with fail
    rw [HW7.out]
    go_wp2_with fail
    refine HCL.out.mono ?_
    rintro r w9 ⟨rfl, hb9⟩
    have X9 := X7.keep hb9
    have hbr9 := chain hbr7 hb9
    have TB9 := TB7.keep hb9 TB7.lt
    replace K1 := Lib.hid (StrsD.below K1.out hb9)
    replace K2 := Lib.hid (TysD.below' K2.out hb9)

    clear HCL X7 hbr7 TB7 hb9 t0 t1 t2 t3 t4 t5 t6 f07 HW7

    obtain ⟨t0, t1, t2, t3, t4, t5, t6⟩ := id TB9
    by_cases hx : txt TY = T
    ·have hx2 : (txt TY == T) = true := by rw [beq_iff_eq]; exact hx
     have hok := HOKR.out _ _ (show rdEv l p = .ok (⟨5, 0, 0, [], TY, []⟩, e + n) by rw [HEV3.out]; rw [if_pos (by first | exact ⟨rfl, hx⟩ | exact ⟨trivial, hx⟩)])
     have HOK := Lib.hid hok
     clear hok hx HBADR HOKR HEV3
     obtain ⟨x0, x1, x2, x3, x4, x5, x6, x7, x8, x9⟩ := X9.c.box
     have xf := X9.fr
     go_wp2_with fail
     refine H13.out _ _ ?_
     clear H13
     have X10 := X9.set_ty TY (.slice A1 TY.labels.length c1) (.slice A2 TY.kids.length c2)
     simp only at X10
     have hbr10 : Below wr.heap.size wr (((((w9.setCell ⟨wr.heap.size, 4, none⟩ (.int .i64 TY.kind)).setCell ⟨wr.heap.size, 5, none⟩ (.int .i64 TY.sort)).setCell ⟨wr.heap.size, 6, none⟩ (.string ⟨TY.name.toArray⟩)).setCell ⟨wr.heap.size, 7, none⟩ (.slice A1 TY.labels.length c1)).setCell ⟨wr.heap.size, 8, none⟩ (.slice A2 TY.kids.length c2)) := ((((hbr9.setCell (p := ⟨wr.heap.size, 4, none⟩) (Nat.le_refl _) _).setCell (p := ⟨wr.heap.size, 5, none⟩) (Nat.le_refl _) _).setCell (p := ⟨wr.heap.size, 6, none⟩) (Nat.le_refl _) _).setCell (p := ⟨wr.heap.size, 7, none⟩) (Nat.le_refl _) _).setCell (p := ⟨wr.heap.size, 8, none⟩) (Nat.le_refl _) _
     have hs10 : Same (· ≠ wr.heap.size) w9 (((((w9.setCell ⟨wr.heap.size, 4, none⟩ (.int .i64 TY.kind)).setCell ⟨wr.heap.size, 5, none⟩ (.int .i64 TY.sort)).setCell ⟨wr.heap.size, 6, none⟩ (.string ⟨TY.name.toArray⟩)).setCell ⟨wr.heap.size, 7, none⟩ (.slice A1 TY.labels.length c1)).setCell ⟨wr.heap.size, 8, none⟩ (.slice A2 TY.kids.length c2)) := same5 _ _ _ _ _ _ _
     have hwz5 : wr.heap.size < w5.heap.size := HWZ.out
     replace K1 := Lib.hid (StrsD.keep (D' := fun k => wr.heap.size < k) K1.out (fun k hk hl => hs10 k (by have : w5.heap.size ≤ k := hk; omega) hl) (fun k hk _ => by have : w5.heap.size ≤ k := hk; omega))
     replace K2 := Lib.hid (TysD.keep (D' := fun k => wr.heap.size < k) K2.out (fun k hk hl => hs10 k (by have : w5.heap.size ≤ k := hk; omega) hl) (fun k hk _ => by have : w5.heap.size ≤ k := hk; omega))
     clear X9 hbr9 hs10 x0 x1 x2 x3 x4 x5 x6 x7 x8 x9 xf t0 t1 t2 t3 t4 t5 t6 TB9
     generalize ((((w9.setCell ⟨wr.heap.size, 4, none⟩ (.int .i64 TY.kind)).setCell ⟨wr.heap.size, 5, none⟩ (.int .i64 TY.sort)).setCell ⟨wr.heap.size, 6, none⟩ (.string ⟨TY.name.toArray⟩)).setCell ⟨wr.heap.size, 7, none⟩ (.slice A1 TY.labels.length c1)).setCell ⟨wr.heap.size, 8, none⟩ (.slice A2 TY.kids.length c2) = w10 at X10 hbr10 K1 K2 ⊢
     have hfe : EvFit ⟨5, 0, 0, [], TY, []⟩ := ⟨by simp only; omega, by simp only; omega, by simp only; omega, by simp only; omega, by simp, HF.out, by simp⟩
     have hE : wchk (tyErr (⟨5, 0, 0, [], TY, []⟩ : Ev).ty) (isName (⟨5, 0, 0, [], TY, []⟩ : Ev).label) ⟨5, 0, 0, [], TY, []⟩ = 0 := by
      show (if (5 : Int) = 2 ∨ (5 : Int) = 3 then _ else if (5 : Int) = 4 ∨ (5 : Int) = 5 then tyErr TY else _) = _
      rw [if_neg (by decide), if_pos (by decide), HTY.out]
     have hcall := wireEvent_any ⟨5, 0, 0, [], TY, []⟩ (evAgg ⟨5, 0, 0, [], TY, []⟩ (.slice A1 TY.labels.length c1) (.slice A2 TY.kids.length c2)) w10 ⟨_, _, rfl, StrsD.keep (D' := All) K1.out (Same.refl _ _) (fun _ _ _ => trivial), TysD.keep (D' := All) K2.out (Same.refl _ _) (fun _ _ _ => trivial)⟩ hfe (hTr.below hbr10)
     rw [hE] at hcall
     have HCALL := Lib.hid hcall
     clear hcall hE hfe
     obtain ⟨x0, x1, x2, x3, x4, x5, x6, x7, x8, x9⟩ := X10.c.box
     have xf := X10.fr
     go_wp2_with fail
     refine HCALL.out.mono ?_
     rintro r w11 ⟨rfl, hb11⟩
     have X11 := X10.keep hb11
     have hbr11 := chain hbr10 hb11
     replace K1 := Lib.hid (StrsD.below K1.out hb11)
     replace K2 := Lib.hid (TysD.below' K2.out hb11)
     clear HCALL X10 hbr10 hb11 x0 x1 x2 x3 x4 x5 x6 x7 x8 x9 xf
     clear w10
     obtain ⟨x0, x1, x2, x3, x4, x5, x6, x7, x8, x9⟩ := X11.c.box
     have hown := fun k e => (HROW.out.own.lt k e).2
     obtain ⟨A1', A2', A3, A4⟩ := app_ready HROW.out _ hbr11 (by omega) w11.heap.size rfl ⟨5, 0, 0, [], TY, []⟩ (.slice A1 TY.labels.length c1) (.slice A2 TY.kids.length c2) ⟨StrsD.keep K1.out (Same.refl _ _) (fun k hk _ => ⟨by have : wr.heap.size < k := hk; omega, fun e => by have h1 := hown k e; have : wr.heap.size < k := hk; omega⟩), TysD.keep K2.out (Same.refl _ _) (fun k hk _ => ⟨by have : wr.heap.size < k := hk; omega, fun e => by have h1 := hown k e; have : wr.heap.size < k := hk; omega⟩)⟩
     clear hown
     go_wp2_with (at_builtin; go_loud (refine wpList_app rt_evs rfl (.tmp 228) (.tmp 230) rfl (w.heap.size + 1) (.slice Av es.length cv) es.length xs rfl A1'.out ⟨w11.heap.size, 0, none⟩ 1 1 (evList ⟨5, 0, 0, [], TY, []⟩ (.slice A1 TY.labels.length c1) (.slice A2 TY.kids.length c2)) rfl rfl A2'.out (by simp [Value.oneCell']) (by unfold maxLen; omega) (by omega) A3.out ?_; intro v' w4 k1 k2 k3 k4; obtain ⟨row4, hb4⟩ := A4.out v' w4 k1 k2 k3 k4; obtain ⟨Ax, cx, rfl⟩ := own_form k1; clear k1 k2 k3 k4 A1' A2' A3 A4))
     refine HN.out _ _ (e + n) (es ++ [⟨5, 0, 0, [], TY, []⟩]) _ _ HOK.out.2 (by rw [List.length_append]; simp only [List.length_cons, List.length_nil]; omega) rfl (Lib.hid HOK.out.1) (Lib.hid (HFX.out.keepB hb4 (by omega))) row4 (HBR.out.trans (hb4.mono (by omega))) (by have := hb4.size; omega) ..
    ·have hx2 : (txt TY == T) = false := by rw [beq_eq_false_iff_ne]; exact hx
     have hq := HBADR.out (p + 1) (by rw [HEV3.out]; rw [if_neg (fun h => hx h.2)])
     have HRES := Lib.hid hq
     have FX5 := HFX.out.keep hbr9
     have B5 := chain HBR.out hbr9
     clear hq hx HBADR HOKR HEV3
     go_wp2_with fail
     refine (wbad_any (p + 1) _).mono ?_
     rintro r w6 ⟨rfl, hb6⟩
     have FX6 := FX5.keep hb6
     have B6 := chain B5 hb6
     clear hb6
     obtain ⟨f0, f1, fz⟩ := id FX6
     go_wp2_with fail
     obtain ⟨y0, y1⟩ := FX6.set 3 (p + 1)
     have B7 := below2 B6 (Nat.le_refl _) 3 (p + 1)
     generalize (w6.setCell ⟨w.heap.size, 0, none⟩ (.int .i64 3)).setCell ⟨w.heap.size, 1, none⟩ (.int .i64 (p + 1)) = w7 at y0 y1 B7 ⊢
     refine HQ.out _ _ ?_
     rw [← HRES.out]
     exact bodyPost_ret (v := .tuple #[.slice none 0 0, .agg #[.int .i64 3, .int .i64 (p + 1)]]) (by simp [results, Tryz.results10, go_sem, y0, y1]) rfl ⟨B7, _, rfl, evs_nil _ _⟩
   ·have hcb : (CC != 0) = true := by rw [bne_iff_ne]; exact hc0
    have hq := HBADR.out (p + 1) (by rw [HEV3.out]; rw [if_neg (fun h => hc0 h.1)])
    have HRES := Lib.hid hq
    clear hq hc0 HBADR HOKR HEV3
    go_wp2_with fail
    rw [HW7.out]
    have FX5 := HFX.out.keep hbr7
    have B5 := chain HBR.out hbr7
    go_wp2_with fail
    refine (wbad_any (p + 1) _).mono ?_
    rintro r w6 ⟨rfl, hb6⟩
    have FX6 := FX5.keep hb6
    have B6 := chain B5 hb6
    clear hb6
    obtain ⟨f0, f1, fz⟩ := id FX6
    go_wp2_with fail
    obtain ⟨y0, y1⟩ := FX6.set 3 (p + 1)
    have B7 := below2 B6 (Nat.le_refl _) 3 (p + 1)
    generalize (w6.setCell ⟨w.heap.size, 0, none⟩ (.int .i64 3)).setCell ⟨w.heap.size, 1, none⟩ (.int .i64 (p + 1)) = w7 at y0 y1 B7 ⊢
    refine HQ.out _ _ ?_
    rw [← HRES.out]
    exact bodyPost_ret (v := .tuple #[.slice none 0 0, .agg #[.int .i64 3, .int .i64 (p + 1)]]) (by simp [results, Tryz.results10, go_sem, y0, y1]) rfl ⟨B7, _, rfl, evs_nil _ _⟩
set_option maxRecDepth 100000
set_option maxHeartbeats 32000000 in
theorem uw_k6 (l : Str) (w wr : World) (RES : List Ev × Int × Nat) (hl : l.length ≤ 1048576) (hTr : Tabs wr) (es : List Ev) (xs : List Value) (p gk : Nat) (Av : Option Addr) (cv : Nat) (c : UInt8) (hplt : p < l.length) (hc : l[p]? = some c) (HEV2 : Hid (rdEv l p = rdLab l 6 (p + 1)))
  (HBADR : Hid (∀ q, rdEv l p = .error q → (([] : List Ev), (3 : Int), q) = RES)) (HOKR : Hid (∀ e q, rdEv l p = .ok (e, q) → rdEvs l (gk - 1 + 1) q (es ++ [e]) = RES ∧ q ≤ l.length)) (hK : (c.toNat : Int) = 6) (h2 : ((es.length : Int) == 200) = false) (h200 : ¬ es.length = 200) (hes : es.length + gk = 200)
  (HFX : Hid (FX wr w.heap.size)) (HROW : Hid (EvRow wr (w.heap.size + 1) (.slice Av es.length cv) es xs)) (HBR : Hid (Below w.heap.size w wr)) (hzr : w.heap.size < wr.heap.size) (u2 u7 u8 u9 u10 u11 u12 u13 u14 u15 u16 u17 u18 u19 u20 u21 u22 u23 u24 u25 u26 u27 u28 u29 u30 u31 u32 u33 u34 u35 u36 u37 u38 u39 u40 u41 u42 u43 u44 u45 u46 u47 u48 u49 u50 u51 u52 u53 u54 u55 u56 u57 u58 u59 u60 u61 u62 u63 u64 u65 u66 u67 u68 u69 u70 u71 u72 u73 u74 u75 u76 u77 u78 u79 u80 u81 u82 u83 u84 u85 u86 u87 u88 u89 u90 u91 u92 u93 u94 u95 u96 u97 u98 u99 u100 u101 u102 u103 u104 u105 u106 u107 u108 u109 u110 u111 u112 u113 u114 u115 u116 u117 u118 u119 u120 u121 u122 u123 u124 u125 u126 u127 u128 u129 u130 u131 u132 u133 u134 u135 u136 u137 u138 u139 u140 u141 u142 u143 u144 u145 u146 u147 u148 u149 u150 u151 u152 u153 u154 u155 u156 u157 u158 u159 u160 u161 u162 u163 u164 u165 u166 u167 u168 u169 u170 u171 u172 u173 u174 u175 u176 u177 u178 u179 u180 u181 u182 u183 u184 u185 u186 u187 u188 u189 u190 u191 u192 u193 u194 u195 u196 u197 u198 u199 u200 u201 u202 u203 u204 u205 u206 u207 u208 u209 u210 u211 u212 u213 u214 u215 u216 u217 u218 u219 u220 u221 u222 u223 u224 u225 u226 u227 u228 u229 u230 u231 : Value) (N : Act → World → Prop) (Qx : Exit → Act → World → Prop) (hN : UwNext l w RES gk N)
  (hQ : ∀ a w', bodyPost Tryz.prog Tryz.f10 (fun e w' => Below w.heap.size w w' ∧ ∃ v, e = .returned (.tuple #[v, .agg #[.int .i64 RES.2.1, .int .i64 RES.2.2]]) ∧ EvsD (fun k => w.heap.size ≤ k) w' v RES.1) Exit.ret a w' → Qx Exit.ret a w') :
  Code.wp Tryz.prog unwBody (Exit.then N Qx) { tmps := #[.string ⟨l.toArray⟩, undef, u2, .pointer (some ⟨w.heap.size, 0, none⟩), .func (.func 35) #[] #[], .slice Av es.length cv, .int .i64 p, u7, u8, u9, u10, u11, u12, u13, u14, u15, u16, u17, u18, u19, u20, u21, u22, u23, u24, u25, u26, u27, u28, u29, u30, u31, u32, u33, u34, u35, u36, u37, u38, u39, u40, u41, u42, u43, u44, u45, u46, u47, u48, u49, u50, u51, u52, u53, u54, u55, u56, u57, u58, u59, u60, u61, u62, u63, u64, u65, u66, u67, u68, u69, u70, u71, u72, u73, u74, u75, u76, u77, u78, u79, u80, u81, u82, u83, u84, u85, u86, u87, u88, u89, u90, u91, u92, u93, u94, u95, u96, u97, u98, u99, u100, u101, u102, u103, u104, u105, u106, u107, u108, u109, u110, u111, u112, u113, u114, u115, u116, u117, u118, u119, u120, u121, u122, u123, u124, u125, u126, u127, u128, u129, u130, u131, u132, u133, u134, u135, u136, u137, u138, u139, u140, u141, u142, u143, u144, u145, u146, u147, u148, u149, u150, u151, u152, u153, u154, u155, u156, u157, u158, u159, u160, u161, u162, u163, u164, u165, u166, u167, u168, u169, u170, u171, u172, u173, u174, u175, u176, u177, u178, u179, u180, u181, u182, u183, u184, u185, u186, u187, u188, u189, u190, u191, u192, u193, u194, u195, u196, u197, u198, u199, u200, u201, u202, u203, u204, u205, u206, u207, u208, u209, u210, u211, u212, u213, u214, u215, u216, u217, u218, u219, u220, u221, u222, u223, u224, u225, u226, u227, u228, u229, u230, u231, undef, undef], defers := [] } wr := by
 have hlt : (p : Int) < (l.length : Int) := by omega
 have hby : (⟨l.toArray⟩ : ByteArray)[p]'(by simpa [ByteArray.size] using hplt) = c := byte_at' hc _
 have hp1 : p + 1 ≤ l.length := hplt
 have HN := Lib.hid hN
 have HQ := Lib.hid hQ
 have h : unwBody = Code.seq _ _ := rfl
 rw [h]
 clear h hN hQ hc
 go_step
 rename_i K0 h0
 have H0 := Lib.hid h0
 clear h0
 go_wp2_with fail
 refine H0.out _ _ ?_
 clear H0
 go_step
 go_step
 rename_i K1 h1
 have H1 := Lib.hid h1
 clear h1
 go_wp2_with fail
 refine H1.out _ _ ?_
 clear H1
 go_step
 rename_i K2 h2
 have H2 := Lib.hid h2
 clear h2
 go_wp2_with fail
 refine H2.out _ _ ?_
 clear H2
 go_step
 rename_i K3 h3
 have H3 := Lib.hid h3
 clear h3
 go_wp2_with fail
 refine H3.out _ _ ?_
 clear H3
 go_step
 rename_i K4 h4
 have H4 := Lib.hid h4
 clear h4
 go_wp2_with fail
 refine H4.out _ _ ?_
 clear H4
 go_step
 rename_i K5 h5
 have H5 := Lib.hid h5
 clear h5
 go_wp2_with fail
 refine H5.out _ _ ?_
 clear H5
 have HEV3 : Hid (rdEv l p = (match rtext l (p + 1) with
  | .error q => .error q
  | .ok x => if isName x.1 then .ok (⟨6, 0, 0, [], zeroTy, x.1⟩, x.2) else .error (p + 1))) := Lib.hid (by rw [HEV2.out]; unfold rdLab; cases rtext l (p + 1) <;> rfl)
 clear HEV2
 go_step
 rename_i K6 h6
 have H6 := Lib.hid h6
 clear h6
 go_wp2_with fail
 refine H6.out _ _ ?_
 clear H6
 go_step
 rename_i K7 h7
 have H7 := Lib.hid h7
 clear h7
 go_wp2_with fail
 refine H7.out _ _ ?_
 clear H7
 have hnum := refNum_any l (p + 1) (wr.alloc (.cells (evCells ⟨6, 0, 0, [], zeroTy, []⟩ (.slice none 0 0) (.slice none 0 0)) 32)) hl (by omega)
 rw [← wnum_agree l (p + 1) (by omega)] at hnum
 have HNUM := Lib.hid hnum
 have hbW : Below wr.heap.size wr (wr.alloc (.cells (evCells ⟨6, 0, 0, [], zeroTy, []⟩ (.slice none 0 0) (.slice none 0 0)) 32)) := (Below.refl _ _).alloc (Nat.le_refl _) _
 have HX := Lib.hid (XBox.new wr ⟨6, 0, 0, [], zeroTy, []⟩ (.slice none 0 0) (.slice none 0 0))
 have HBW := Lib.hid hbW
 clear hnum hbW
 cases hq : wnum l (p + 1) with
 | error q =>
  rw [hq] at HNUM
  have hrt : rtext l (p + 1) = .error q := by unfold rtext; rw [hq]
  have hq := HBADR.out q (by rw [HEV3.out, hrt])
  have HRES := Lib.hid hq
  clear hq hrt HBADR HOKR HEV3
  go_step
  rename_i K8 h8
  have H8 := Lib.hid h8
  clear h8
  go_wp2_with fail
  refine HNUM.out.mono ?_
  rintro r w5 ⟨rfl, hb5⟩
  have X5 := HX.out.keep hb5
  have hbr5 := chain HBW.out hb5
  have HWZ : Hid (wr.heap.size < w5.heap.size) := Lib.hid (by have := hb5.size; simp only [World.size_alloc] at this; omega)
  have FX5 := HFX.out.keep hbr5
  have B5 := chain HBR.out hbr5
  clear HNUM HX HBW hb5
  simp only [numTup]
  go_wp2_with fail
  refine H8.out _ _ ?_
  clear H8
  go_wp2_with fail
  refine (wbad_any q _).mono ?_
  rintro r w6 ⟨rfl, hb6⟩
  have FX6 := FX5.keep hb6
  have B6 := chain B5 hb6
  clear hb6
  obtain ⟨f0, f1, fz⟩ := id FX6
  go_wp2_with fail
  obtain ⟨y0, y1⟩ := FX6.set 3 q
  have B7 := below2 B6 (Nat.le_refl _) 3 q
  generalize (w6.setCell ⟨w.heap.size, 0, none⟩ (.int .i64 3)).setCell ⟨w.heap.size, 1, none⟩ (.int .i64 q) = w7 at y0 y1 B7 ⊢
  refine HQ.out _ _ ?_
  rw [← HRES.out]
  exact bodyPost_ret (v := .tuple #[.slice none 0 0, .agg #[.int .i64 3, .int .i64 q]]) (by simp [results, Tryz.results10, go_sem, y0, y1]) rfl ⟨B7, _, rfl, evs_nil _ _⟩
 | ok x =>
  obtain ⟨n, e⟩ := x
  have hn64 := wnum_lt hq
  have hne := wnum_le hq
  have hu : IntKind.u64.wrap ((l.length : Int) - (e : Int)) = (l.length : Int) - (e : Int) := Go.IntWalk.u64_in _ (by omega)
  have hu2 : ((l.length : Int) - (e : Int)) % 18446744073709551616 = (l.length : Int) - (e : Int) := by omega
  rw [hq] at HNUM
  go_step
  rename_i K8 h8
  have H8 := Lib.hid h8
  clear h8
  go_wp2_with fail
  refine HNUM.out.mono ?_
  rintro r w5 ⟨rfl, hb5⟩
  have X5 := HX.out.keep hb5
  have hbr5 := chain HBW.out hb5
  have HWZ : Hid (wr.heap.size < w5.heap.size) := Lib.hid (by have := hb5.size; simp only [World.size_alloc] at this; omega)
  have FX5 := HFX.out.keep hbr5
  have B5 := chain HBR.out hbr5
  clear HNUM HX HBW hb5
  simp only [numTup]
  go_wp2_with fail
  refine H8.out _ _ ?_
  clear H8
  have e0 : ¬ (e : Int) < 0 := by omega
  go_step
  rename_i K9 h9
  have H9 := Lib.hid h9
  clear h9
  go_wp2_with fail
  refine H9.out _ _ ?_
  clear H9
  obtain ⟨x0, x1, x2, x3, x4, x5, x6, x7, x8, x9⟩ := X5.c.box
  have xf := X5.fr
  go_step
  rename_i K10 h10
  have H10 := Lib.hid h10
  clear h10
  go_wp2_with fail
  refine H10.out _ _ ?_
  clear H10
  by_cases hbig : l.length - e < n
  ·have hb1 : (l.length : Int) - (e : Int) < (n : Int) := by omega
   have hrt : rtext l (p + 1) = .error (p + 1) := by unfold rtext; rw [hq]; simp only; rw [if_pos hbig]
   have hq := HBADR.out (p + 1) (by rw [HEV3.out, hrt])
   have HRES := Lib.hid hq
   clear hq hrt HBADR HOKR HEV3 hbig
   go_wp2_with fail
   refine (wbad_any (p + 1) _).mono ?_
   rintro r w6 ⟨rfl, hb6⟩
   have FX6 := FX5.keep hb6
   have B6 := chain B5 hb6
   clear hb6
   obtain ⟨f0, f1, fz⟩ := id FX6
   go_wp2_with fail
   obtain ⟨y0, y1⟩ := FX6.set 3 (p + 1)
   have B7 := below2 B6 (Nat.le_refl _) 3 (p + 1)
   generalize (w6.setCell ⟨w.heap.size, 0, none⟩ (.int .i64 3)).setCell ⟨w.heap.size, 1, none⟩ (.int .i64 (p + 1)) = w7 at y0 y1 B7 ⊢
   refine HQ.out _ _ ?_
   rw [← HRES.out]
   exact bodyPost_ret (v := .tuple #[.slice none 0 0, .agg #[.int .i64 3, .int .i64 (p + 1)]]) (by simp [results, Tryz.results10, go_sem, y0, y1]) rfl ⟨B7, _, rfl, evs_nil _ _⟩
  ·have hb1 : ¬ (l.length : Int) - (e : Int) < (n : Int) := by omega
   have hrt : rtext l (p + 1) = .ok ((l.drop e).take n, e + n) := by unfold rtext; rw [hq]; simp only; rw [if_neg hbig]
   rw [hrt] at HEV3
   have hTl : ((l.drop e).take n).length ≤ 1048576 := by simp only [List.length_take, List.length_drop]; omega
   have hex : (⟨l.toArray⟩ : ByteArray).extract e (e + n) = ⟨((l.drop e).take n).toArray⟩ := by
    have := ext_mid l e (e + n)
    rw [Nat.add_sub_cancel_left] at this
    exact this
   have hwn : IntKind.i64.wrap (n : Int) = (n : Int) := Go.IntWalk.i64_in _ (by omega)
   have g1 : ¬ (e : Int) < 0 := by omega
   have g3 : ¬ ((e : Int) + (n : Int)) < (e : Int) := by omega
   have g5 : (e : Int) + (n : Int) ≤ (l.length : Int) := by omega
   have g6 : e + n ≤ l.length := by omega
   clear hrt hbig hq
   generalize (l.drop e).take n = T at HEV3 hTl hex
   go_step
   rename_i K11 h11
   have H11 := Lib.hid h11
   clear h11
   go_wp2_with fail
   refine H11.out _ _ ?_
   clear H11
   go_step
   rename_i K12 h12
   have H12 := Lib.hid h12
   clear h12
   go_wp2_with fail
   refine H12.out _ _ ?_
   clear H12
   go_step
   rename_i K13 h13
   have H13 := Lib.hid h13
   clear h13
   go_wp2_with fail
   refine H13.out _ _ ?_
   clear H13
   have X6 : XBox (w5.setCell ⟨wr.heap.size, 9, none⟩ (.string ⟨T.toArray⟩)) wr.heap.size ⟨6, 0, 0, [], zeroTy, T⟩ (.slice none 0 0) (.slice none 0 0) := X5.set_lab T
   have hbr6 : Below wr.heap.size wr (w5.setCell ⟨wr.heap.size, 9, none⟩ (.string ⟨T.toArray⟩)) := hbr5.setCell (p := ⟨wr.heap.size, 9, none⟩) (Nat.le_refl _) _
   clear X5 hbr5 FX5 B5 x0 x1 x2 x3 x4 x5 x6 x7 x8 x9 xf
   generalize w5.setCell ⟨wr.heap.size, 9, none⟩ (.string ⟨T.toArray⟩) = w6 at X6 hbr6 ⊢
   have hfit : EvFit ⟨6, 0, 0, [], zeroTy, T⟩ := ⟨by simp only; omega, by simp only; omega, by simp only; omega, by simp only; omega, by simp only [List.length_nil]; omega, fit_no, by simp only [List.length_nil]; omega⟩
   have hchk : wchk (tyErr (⟨6, 0, 0, [], zeroTy, T⟩ : Ev).ty) (isName (⟨6, 0, 0, [], zeroTy, T⟩ : Ev).label) ⟨6, 0, 0, [], zeroTy, T⟩ = (if isName T = true then 0 else 1) := by
    show (if (6 : Int) = 2 ∨ (6 : Int) = 3 then _ else if (6 : Int) = 4 ∨ (6 : Int) = 5 then _ else if ((6 : Int) = 6 ∨ (6 : Int) = 7) ∧ isName T = true then 0 else 1) = _; rw [if_neg (by decide), if_neg (by decide)]; simp
   have hcall := wireEvent_any ⟨6, 0, 0, [], zeroTy, T⟩ (evAgg ⟨6, 0, 0, [], zeroTy, T⟩ (.slice none 0 0) (.slice none 0 0)) w6 ⟨_, _, rfl, no_strs' _ _, no_tys _ _⟩ hfit (hTr.below hbr6)
   rw [hchk] at hcall
   have HCALL := Lib.hid hcall
   clear hcall hchk hfit
   obtain ⟨x0, x1, x2, x3, x4, x5, x6, x7, x8, x9⟩ := X6.c.box
   have xf := X6.fr
   by_cases hcd : isName T = true
   ·rw [if_pos hcd] at HCALL
    have hok := HOKR.out _ _ (show rdEv l p = .ok (⟨6, 0, 0, [], zeroTy, T⟩, e + n) by rw [HEV3.out]; (try simp only); rw [if_pos hcd])
    have HOK := Lib.hid hok
    clear hok hcd HBADR HOKR HEV3
    go_wp2_with fail
    refine HCALL.out.mono ?_
    rintro r w7 ⟨rfl, hb7⟩
    have X7 := X6.keep hb7
    have hbr7 := chain hbr6 hb7
    clear HCALL X6 hbr6 hb7 x0 x1 x2 x3 x4 x5 x6 x7 x8 x9 xf
    clear w6
    obtain ⟨x0, x1, x2, x3, x4, x5, x6, x7, x8, x9⟩ := X7.c.box
    obtain ⟨A1, A2, A3, A4⟩ := app_ready HROW.out _ hbr7 (by omega) w7.heap.size rfl ⟨6, 0, 0, [], zeroTy, T⟩ (.slice none 0 0) (.slice none 0 0) ⟨no_strs' _ _, no_tys _ _⟩
    go_wp2_with (at_builtin; go_loud (refine wpList_app rt_evs rfl (.tmp 228) (.tmp 230) rfl (w.heap.size + 1) (.slice Av es.length cv) es.length xs rfl A1.out ⟨w7.heap.size, 0, none⟩ 1 1 (evList ⟨6, 0, 0, [], zeroTy, T⟩ (.slice none 0 0) (.slice none 0 0)) rfl rfl A2.out (by simp [Value.oneCell']) (by unfold maxLen; omega) (by omega) A3.out ?_; intro v' w4 k1 k2 k3 k4; obtain ⟨row4, hb4⟩ := A4.out v' w4 k1 k2 k3 k4; obtain ⟨Ax, cx, rfl⟩ := own_form k1; clear k1 k2 k3 k4 A1 A2 A3 A4))
    refine HN.out _ _ (e + n) (es ++ [⟨6, 0, 0, [], zeroTy, T⟩]) _ _ HOK.out.2 (by rw [List.length_append]; simp only [List.length_cons, List.length_nil]; omega) rfl (Lib.hid HOK.out.1) (Lib.hid (HFX.out.keepB hb4 (by omega))) row4 (HBR.out.trans (hb4.mono (by omega))) (by have := hb4.size; omega) ..
   ·have hq := HBADR.out (p + 1) (by rw [HEV3.out]; (try simp only); rw [if_neg hcd])
    have HRES := Lib.hid hq
    obtain ⟨E, hE⟩ : ∃ E : Int, (if isName T = true then 0 else 1) = E := ⟨_, rfl⟩
    have hE0 : (E != 0) = true := by rw [bne_iff_ne, ← hE]; rw [if_neg hcd]; decide
    rw [hE] at HCALL
    clear hq hcd HBADR HOKR HEV3 hE
    go_wp2_with fail
    refine HCALL.out.mono ?_
    rintro r w7 ⟨rfl, hb7⟩
    have FX5 := HFX.out.keep (chain hbr6 hb7)
    have B5 := chain HBR.out (chain hbr6 hb7)
    clear HCALL X6 hbr6 hb7 x0 x1 x2 x3 x4 x5 x6 x7 x8 x9 xf
    go_wp2_with fail
    refine (wbad_any (p + 1) _).mono ?_
    rintro r w6 ⟨rfl, hb6⟩
    have FX6 := FX5.keep hb6
    have B6 := chain B5 hb6
    clear hb6
    obtain ⟨f0, f1, fz⟩ := id FX6
    go_wp2_with fail
    obtain ⟨y0, y1⟩ := FX6.set 3 (p + 1)
    have B7 := below2 B6 (Nat.le_refl _) 3 (p + 1)
    generalize (w6.setCell ⟨w.heap.size, 0, none⟩ (.int .i64 3)).setCell ⟨w.heap.size, 1, none⟩ (.int .i64 (p + 1)) = w7 at y0 y1 B7 ⊢
    refine HQ.out _ _ ?_
    rw [← HRES.out]
    exact bodyPost_ret (v := .tuple #[.slice none 0 0, .agg #[.int .i64 3, .int .i64 (p + 1)]]) (by simp [results, Tryz.results10, go_sem, y0, y1]) rfl ⟨B7, _, rfl, evs_nil _ _⟩
end Go.Proofs.YtpidjanngbaiiaaGreatDoor
