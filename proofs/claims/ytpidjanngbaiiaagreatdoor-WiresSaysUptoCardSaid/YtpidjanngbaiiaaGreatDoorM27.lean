/-
  The reference's Unwire: a round at an event of kind 7.
  The reference's Unwire.
  The law WiresSays returns true whatever events and bytes are handed in.
  Data that come in, with their bulk.
  Lists of numbers that come in, with their bulk.
  Events that come in, opened.
-/
import Derived.Test.YtpidjanngbaiiaaGreatDoorM25
import Derived.Test.YtpidjanngbaiiaaGreatDoorM26
import Derived.Test.YtpidjanngbaiiaaGreatDoorM21
import Derived.Test.YtpidjanngbaiiaaGreatDoorWrV
import Derived.Test.YtpidjanngbaiiaaGreatDoorM3
import Derived.Test.YtpidjanngbaiiaaGreatDoorRows
import Derived.ChangeSlices
import Derived.Test.YtpidjanngbaiiaaGreatDoorM8
namespace Go.Proofs.YtpidjanngbaiiaaGreatDoor
open Go.RowKit Go.Proofs

set_option maxRecDepth 100000
set_option maxHeartbeats 32000000 in
theorem uw_k7 (l : Str) (w wr : World) (RES : List Ev × Int × Nat) (hl : l.length ≤ 1048576) (hTr : Tabs wr) (es : List Ev) (xs : List Value) (p gk : Nat) (Av : Option Addr) (cv : Nat) (c : UInt8) (hplt : p < l.length) (hc : l[p]? = some c) (HEV2 : Hid (rdEv l p = rdLab l 7 (p + 1)))
  (HBADR : Hid (∀ q, rdEv l p = .error q → (([] : List Ev), (3 : Int), q) = RES)) (HOKR : Hid (∀ e q, rdEv l p = .ok (e, q) → rdEvs l (gk - 1 + 1) q (es ++ [e]) = RES ∧ q ≤ l.length)) (hK : (c.toNat : Int) = 7) (h2 : ((es.length : Int) == 200) = false) (h200 : ¬ es.length = 200) (hes : es.length + gk = 200)
  (HFX : Hid (FX wr w.heap.size)) (HROW : Hid (EvRow wr (w.heap.size + 1) (.slice Av es.length cv) es xs)) (HBR : Hid (Below w.heap.size w wr)) (hzr : w.heap.size < wr.heap.size) (u2 u7 u8 u9 u10 u11 u12 u13 u14 u15 u16 u17 u18 u19 u20 u21 u22 u23 u24 u25 u26 u27 u28 u29 u30 u31 u32 u33 u34 u35 u36 u37 u38 u39 u40 u41 u42 u43 u44 u45 u46 u47 u48 u49 u50 u51 u52 u53 u54 u55 u56 u57 u58 u59 u60 u61 u62 u63 u64 u65 u66 u67 u68 u69 u70 u71 u72 u73 u74 u75 u76 u77 u78 u79 u80 u81 u82 u83 u84 u85 u86 u87 u88 u89 u90 u91 u92 u93 u94 u95 u96 u97 u98 u99 u100 u101 u102 u103 u104 u105 u106 u107 u108 u109 u110 u111 u112 u113 u114 u115 u116 u117 u118 u119 u120 u121 u122 u123 u124 u125 u126 u127 u128 u129 u130 u131 u132 u133 u134 u135 u136 u137 u138 u139 u140 u141 u142 u143 u144 u145 u146 u147 u148 u149 u150 u151 u152 u153 u154 u155 u156 u157 u158 u159 u160 u161 u162 u163 u164 u165 u166 u167 u168 u169 u170 u171 u172 u173 u174 u175 u176 u177 u178 u179 u180 u181 u182 u183 u184 u185 u186 u187 u188 u189 u190 u191 u192 u193 u194 u195 u196 u197 u198 u199 u200 u201 u202 u203 u204 u205 u206 u207 u208 u209 u210 u211 u212 u213 u214 u215 u216 u217 u218 u219 u220 u221 u222 u223 u224 u225 u226 u227 u228 u229 u230 u231 : Value) (N : Act → World → Prop) (Qx : Exit → Act → World → Prop) (hN : UwNext l w RES gk N)
  (hQ : ∀ a w', bodyPost Tryz.prog Tryz.f10 (fun e w' => Below w.heap.size w w' ∧ ∃ v, e = .returned (.tuple #[v, .agg #[.int .i64 RES.2.1, .int .i64 RES.2.2]]) ∧ EvsD (fun k => w.heap.size ≤ k) w' v RES.1) Exit.ret a w' → Qx Exit.ret a w') :
  Code.wp Tryz.prog unwBody (Exit.then N Qx) { tmps := #[.string ⟨l.toArray⟩, undef, u2, .pointer (some ⟨w.heap.size, 0, none⟩), .func (.func 35) #[] #[], .slice Av es.length cv, .int .i64 p, u7, u8, u9, u10, u11, u12, u13, u14, u15, u16, u17, u18, u19, u20, u21, u22, u23, u24, u25, u26, u27, u28, u29, u30, u31, u32, u33, u34, u35, u36, u37, u38, u39, u40, u41, u42, u43, u44, u45, u46, u47, u48, u49, u50, u51, u52, u53, u54, u55, u56, u57, u58, u59, u60, u61, u62, u63, u64, u65, u66, u67, u68, u69, u70, u71, u72, u73, u74, u75, u76, u77, u78, u79, u80, u81, u82, u83, u84, u85, u86, u87, u88, u89, u90, u91, u92, u93, u94, u95, u96, u97, u98, u99, u100, u101, u102, u103, u104, u105, u106, u107, u108, u109, u110, u111, u112, u113, u114, u115, u116, u117, u118, u119, u120, u121, u122, u123, u124, u125, u126, u127, u128, u129, u130, u131, u132, u133, u134, u135, u136, u137, u138, u139, u140, u141, u142, u143, u144, u145, u146, u147, u148, u149, u150, u151, u152, u153, u154, u155, u156, u157, u158, u159, u160, u161, u162, u163, u164, u165, u166, u167, u168, u169, u170, u171, u172, u173, u174, u175, u176, u177, u178, u179, u180, u181, u182, u183, u184, u185, u186, u187, u188, u189, u190, u191, u192, u193, u194, u195, u196, u197, u198, u199, u200, u201, u202, u203, u204, u205, u206, u207, u208, u209, u210, u211, u212, u213, u214, u215, u216, u217, u218, u219, u220, u221, u222, u223, u224, u225, u226, u227, u228, u229, u230, u231, undef, undef], defers := [] } wr := by
 have hlt : (p : Int) < (l.length : Int) := by omega
 have hby : (⟨l.toArray⟩ : ByteArray)[p]'(by simpa [ByteArray.size] using hplt) = c := byte_at' hc _
 have hp1 : p + 1 ≤ l.length := hplt
 have HN := Lib.hid hN
 have HQ := Lib.hid hQ
 have h : unwBody = Code.seq _ _ := rfl
 rw [h]
 clear h hN hQ hc
 go_step
 rename_i K0 h0
 have H0 := Lib.hid h0
 clear h0
 go_wp2_with fail
 refine H0.out _ _ ?_
 clear H0
 go_step
 go_step
 rename_i K1 h1
 have H1 := Lib.hid h1
 clear h1
 go_wp2_with fail
 refine H1.out _ _ ?_
 clear H1
 go_step
 rename_i K2 h2
 have H2 := Lib.hid h2
 clear h2
 go_wp2_with fail
 refine H2.out _ _ ?_
 clear H2
 go_step
 rename_i K3 h3
 have H3 := Lib.hid h3
 clear h3
 go_wp2_with fail
 refine H3.out _ _ ?_
 clear H3
 go_step
 rename_i K4 h4
 have H4 := Lib.hid h4
 clear h4
 go_wp2_with fail
 refine H4.out _ _ ?_
 clear H4
 go_step
 rename_i K5 h5
 have H5 := Lib.hid h5
 clear h5
 go_wp2_with fail
 refine H5.out _ _ ?_
 clear H5
 have HEV3 : Hid (rdEv l p = (match rtext l (p + 1) with
  | .error q => .error q
  | .ok x => if isName x.1 then .ok (⟨7, 0, 0, [], zeroTy, x.1⟩, x.2) else .error (p + 1))) := Lib.hid (by rw [HEV2.out]; unfold rdLab; cases rtext l (p + 1) <;> rfl)
 clear HEV2
 go_step
 rename_i K6 h6
 have H6 := Lib.hid h6
 clear h6
 go_wp2_with fail
 refine H6.out _ _ ?_
 clear H6
 go_step
 rename_i K7 h7
 have H7 := Lib.hid h7
 clear h7
 go_wp2_with fail
 refine H7.out _ _ ?_
 clear H7
 have hnum := refNum_any l (p + 1) (wr.alloc (.cells (evCells ⟨7, 0, 0, [], zeroTy, []⟩ (.slice none 0 0) (.slice none 0 0)) 32)) hl (by omega)
 rw [← wnum_agree l (p + 1) (by omega)] at hnum
 have HNUM := Lib.hid hnum
 have hbW : Below wr.heap.size wr (wr.alloc (.cells (evCells ⟨7, 0, 0, [], zeroTy, []⟩ (.slice none 0 0) (.slice none 0 0)) 32)) := (Below.refl _ _).alloc (Nat.le_refl _) _
 have HX := Lib.hid (XBox.new wr ⟨7, 0, 0, [], zeroTy, []⟩ (.slice none 0 0) (.slice none 0 0))
 have HBW := Lib.hid hbW
 clear hnum hbW
 cases hq : wnum l (p + 1) with
 | error q =>
  rw [hq] at HNUM
  have hrt : rtext l (p + 1) = .error q := by unfold rtext; rw [hq]
  have hq := HBADR.out q (by rw [HEV3.out, hrt])
  have HRES := Lib.hid hq
  clear hq hrt HBADR HOKR HEV3
  go_step
  rename_i K8 h8
  have H8 := Lib.hid h8
  clear h8
  go_wp2_with fail
  refine HNUM.out.mono ?_
  rintro r w5 ⟨rfl, hb5⟩
  have X5 := HX.out.keep hb5
  have hbr5 := chain HBW.out hb5
  have HWZ : Hid (wr.heap.size < w5.heap.size) := Lib.hid (by have := hb5.size; simp only [World.size_alloc] at this; omega)
  have FX5 := HFX.out.keep hbr5
  have B5 := chain HBR.out hbr5
  clear HNUM HX HBW hb5
  simp only [numTup]
  go_wp2_with fail
  refine H8.out _ _ ?_
  clear H8
  go_wp2_with fail
  refine (wbad_any q _).mono ?_
  rintro r w6 ⟨rfl, hb6⟩
  have FX6 := FX5.keep hb6
  have B6 := chain B5 hb6
  clear hb6
  obtain ⟨f0, f1, fz⟩ := id FX6
  go_wp2_with fail
  obtain ⟨y0, y1⟩ := FX6.set 3 q
  have B7 := below2 B6 (Nat.le_refl _) 3 q
  generalize (w6.setCell ⟨w.heap.size, 0, none⟩ (.int .i64 3)).setCell ⟨w.heap.size, 1, none⟩ (.int .i64 q) = w7 at y0 y1 B7 ⊢
  refine HQ.out _ _ ?_
  rw [← HRES.out]
  exact bodyPost_ret (v := .tuple #[.slice none 0 0, .agg #[.int .i64 3, .int .i64 q]]) (by simp [results, Tryz.results10, go_sem, y0, y1]) rfl ⟨B7, _, rfl, evs_nil _ _⟩
 | ok x =>
  obtain ⟨n, e⟩ := x
  have hn64 := wnum_lt hq
  have hne := wnum_le hq
  have hu : IntKind.u64.wrap ((l.length : Int) - (e : Int)) = (l.length : Int) - (e : Int) := Go.IntWalk.u64_in _ (by omega)
  have hu2 : ((l.length : Int) - (e : Int)) % 18446744073709551616 = (l.length : Int) - (e : Int) := by omega
  rw [hq] at HNUM
  go_step
  rename_i K8 h8
  have H8 := Lib.hid h8
  clear h8
  go_wp2_with fail
  refine HNUM.out.mono ?_
  rintro r w5 ⟨rfl, hb5⟩
  have X5 := HX.out.keep hb5
  have hbr5 := chain HBW.out hb5
  have HWZ : Hid (wr.heap.size < w5.heap.size) := Lib.hid (by have := hb5.size; simp only [World.size_alloc] at this; omega)
  have FX5 := HFX.out.keep hbr5
  have B5 := chain HBR.out hbr5
  clear HNUM HX HBW hb5
  simp only [numTup]
  go_wp2_with fail
  refine H8.out _ _ ?_
  clear H8
  have e0 : ¬ (e : Int) < 0 := by omega
  go_step
  rename_i K9 h9
  have H9 := Lib.hid h9
  clear h9
  go_wp2_with fail
  refine H9.out _ _ ?_
  clear H9
  obtain ⟨x0, x1, x2, x3, x4, x5, x6, x7, x8, x9⟩ := X5.c.box
  have xf := X5.fr
  go_step
  rename_i K10 h10
  have H10 := Lib.hid h10
  clear h10
  go_wp2_with fail
  refine H10.out _ _ ?_
  clear H10
  by_cases hbig : l.length - e < n
  ·have hb1 : (l.length : Int) - (e : Int) < (n : Int) := by omega
   have hrt : rtext l (p + 1) = .error (p + 1) := by unfold rtext; rw [hq]; simp only; rw [if_pos hbig]
   have hq := HBADR.out (p + 1) (by rw [HEV3.out, hrt])
   have HRES := Lib.hid hq
   clear hq hrt HBADR HOKR HEV3 hbig
   go_wp2_with fail
   refine (wbad_any (p + 1) _).mono ?_
   rintro r w6 ⟨rfl, hb6⟩
   have FX6 := FX5.keep hb6
   have B6 := chain B5 hb6
   clear hb6
   obtain ⟨f0, f1, fz⟩ := id FX6
   go_wp2_with fail
   obtain ⟨y0, y1⟩ := FX6.set 3 (p + 1)
   have B7 := below2 B6 (Nat.le_refl _) 3 (p + 1)
   generalize (w6.setCell ⟨w.heap.size, 0, none⟩ (.int .i64 3)).setCell ⟨w.heap.size, 1, none⟩ (.int .i64 (p + 1)) = w7 at y0 y1 B7 ⊢
   refine HQ.out _ _ ?_
   rw [← HRES.out]
   exact bodyPost_ret (v := .tuple #[.slice none 0 0, .agg #[.int .i64 3, .int .i64 (p + 1)]]) (by simp [results, Tryz.results10, go_sem, y0, y1]) rfl ⟨B7, _, rfl, evs_nil _ _⟩
  ·have hb1 : ¬ (l.length : Int) - (e : Int) < (n : Int) := by omega
   have hrt : rtext l (p + 1) = .ok ((l.drop e).take n, e + n) := by unfold rtext; rw [hq]; simp only; rw [if_neg hbig]
   rw [hrt] at HEV3
   have hTl : ((l.drop e).take n).length ≤ 1048576 := by simp only [List.length_take, List.length_drop]; omega
   have hex : (⟨l.toArray⟩ : ByteArray).extract e (e + n) = ⟨((l.drop e).take n).toArray⟩ := by
    have := ext_mid l e (e + n)
    rw [Nat.add_sub_cancel_left] at this
    exact this
   have hwn : IntKind.i64.wrap (n : Int) = (n : Int) := Go.IntWalk.i64_in _ (by omega)
   have g1 : ¬ (e : Int) < 0 := by omega
   have g3 : ¬ ((e : Int) + (n : Int)) < (e : Int) := by omega
   have g5 : (e : Int) + (n : Int) ≤ (l.length : Int) := by omega
   have g6 : e + n ≤ l.length := by omega
   clear hrt hbig hq
   generalize (l.drop e).take n = T at HEV3 hTl hex
   go_step
   rename_i K11 h11
   have H11 := Lib.hid h11
   clear h11
   go_wp2_with fail
   refine H11.out _ _ ?_
   clear H11
   go_step
   rename_i K12 h12
   have H12 := Lib.hid h12
   clear h12
   go_wp2_with fail
   refine H12.out _ _ ?_
   clear H12
   go_step
   rename_i K13 h13
   have H13 := Lib.hid h13
   clear h13
   go_wp2_with fail
   refine H13.out _ _ ?_
   clear H13
   have X6 : XBox (w5.setCell ⟨wr.heap.size, 9, none⟩ (.string ⟨T.toArray⟩)) wr.heap.size ⟨7, 0, 0, [], zeroTy, T⟩ (.slice none 0 0) (.slice none 0 0) := X5.set_lab T
   have hbr6 : Below wr.heap.size wr (w5.setCell ⟨wr.heap.size, 9, none⟩ (.string ⟨T.toArray⟩)) := hbr5.setCell (p := ⟨wr.heap.size, 9, none⟩) (Nat.le_refl _) _
   clear X5 hbr5 FX5 B5 x0 x1 x2 x3 x4 x5 x6 x7 x8 x9 xf
   generalize w5.setCell ⟨wr.heap.size, 9, none⟩ (.string ⟨T.toArray⟩) = w6 at X6 hbr6 ⊢
   have hfit : EvFit ⟨7, 0, 0, [], zeroTy, T⟩ := ⟨by simp only; omega, by simp only; omega, by simp only; omega, by simp only; omega, by simp only [List.length_nil]; omega, fit_no, by simp only [List.length_nil]; omega⟩
   have hchk : wchk (tyErr (⟨7, 0, 0, [], zeroTy, T⟩ : Ev).ty) (isName (⟨7, 0, 0, [], zeroTy, T⟩ : Ev).label) ⟨7, 0, 0, [], zeroTy, T⟩ = (if isName T = true then 0 else 1) := by
    show (if (7 : Int) = 2 ∨ (7 : Int) = 3 then _ else if (7 : Int) = 4 ∨ (7 : Int) = 5 then _ else if ((7 : Int) = 6 ∨ (7 : Int) = 7) ∧ isName T = true then 0 else 1) = _; rw [if_neg (by decide), if_neg (by decide)]; simp
   have hcall := wireEvent_any ⟨7, 0, 0, [], zeroTy, T⟩ (evAgg ⟨7, 0, 0, [], zeroTy, T⟩ (.slice none 0 0) (.slice none 0 0)) w6 ⟨_, _, rfl, no_strs' _ _, no_tys _ _⟩ hfit (hTr.below hbr6)
   rw [hchk] at hcall
   have HCALL := Lib.hid hcall
   clear hcall hchk hfit
   obtain ⟨x0, x1, x2, x3, x4, x5, x6, x7, x8, x9⟩ := X6.c.box
   have xf := X6.fr
   by_cases hcd : isName T = true
   ·rw [if_pos hcd] at HCALL
    have hok := HOKR.out _ _ (show rdEv l p = .ok (⟨7, 0, 0, [], zeroTy, T⟩, e + n) by rw [HEV3.out]; (try simp only); rw [if_pos hcd])
    have HOK := Lib.hid hok
    clear hok hcd HBADR HOKR HEV3
    go_wp2_with fail
    refine HCALL.out.mono ?_
    rintro r w7 ⟨rfl, hb7⟩
    have X7 := X6.keep hb7
    have hbr7 := chain hbr6 hb7
    clear HCALL X6 hbr6 hb7 x0 x1 x2 x3 x4 x5 x6 x7 x8 x9 xf
    clear w6
    obtain ⟨x0, x1, x2, x3, x4, x5, x6, x7, x8, x9⟩ := X7.c.box
    obtain ⟨A1, A2, A3, A4⟩ := app_ready HROW.out _ hbr7 (by omega) w7.heap.size rfl ⟨7, 0, 0, [], zeroTy, T⟩ (.slice none 0 0) (.slice none 0 0) ⟨no_strs' _ _, no_tys _ _⟩
    go_wp2_with (at_builtin; go_loud (refine wpList_app rt_evs rfl (.tmp 228) (.tmp 230) rfl (w.heap.size + 1) (.slice Av es.length cv) es.length xs rfl A1.out ⟨w7.heap.size, 0, none⟩ 1 1 (evList ⟨7, 0, 0, [], zeroTy, T⟩ (.slice none 0 0) (.slice none 0 0)) rfl rfl A2.out (by simp [Value.oneCell']) (by unfold maxLen; omega) (by omega) A3.out ?_; intro v' w4 k1 k2 k3 k4; obtain ⟨row4, hb4⟩ := A4.out v' w4 k1 k2 k3 k4; obtain ⟨Ax, cx, rfl⟩ := own_form k1; clear k1 k2 k3 k4 A1 A2 A3 A4))
    refine HN.out _ _ (e + n) (es ++ [⟨7, 0, 0, [], zeroTy, T⟩]) _ _ HOK.out.2 (by rw [List.length_append]; simp only [List.length_cons, List.length_nil]; omega) rfl (Lib.hid HOK.out.1) (Lib.hid (HFX.out.keepB hb4 (by omega))) row4 (HBR.out.trans (hb4.mono (by omega))) (by have := hb4.size; omega) ..
   ·have hq := HBADR.out (p + 1) (by rw [HEV3.out]; (try simp only); rw [if_neg hcd])
    have HRES := Lib.hid hq
    obtain ⟨E, hE⟩ : ∃ E : Int, (if isName T = true then 0 else 1) = E := ⟨_, rfl⟩
    have hE0 : (E != 0) = true := by rw [bne_iff_ne, ← hE]; rw [if_neg hcd]; decide
    rw [hE] at HCALL
    clear hq hcd HBADR HOKR HEV3 hE
    go_wp2_with fail
    refine HCALL.out.mono ?_
    rintro r w7 ⟨rfl, hb7⟩
    have FX5 := HFX.out.keep (chain hbr6 hb7)
    have B5 := chain HBR.out (chain hbr6 hb7)
    clear HCALL X6 hbr6 hb7 x0 x1 x2 x3 x4 x5 x6 x7 x8 x9 xf
    go_wp2_with fail
    refine (wbad_any (p + 1) _).mono ?_
    rintro r w6 ⟨rfl, hb6⟩
    have FX6 := FX5.keep hb6
    have B6 := chain B5 hb6
    clear hb6
    obtain ⟨f0, f1, fz⟩ := id FX6
    go_wp2_with fail
    obtain ⟨y0, y1⟩ := FX6.set 3 (p + 1)
    have B7 := below2 B6 (Nat.le_refl _) 3 (p + 1)
    generalize (w6.setCell ⟨w.heap.size, 0, none⟩ (.int .i64 3)).setCell ⟨w.heap.size, 1, none⟩ (.int .i64 (p + 1)) = w7 at y0 y1 B7 ⊢
    refine HQ.out _ _ ?_
    rw [← HRES.out]
    exact bodyPost_ret (v := .tuple #[.slice none 0 0, .agg #[.int .i64 3, .int .i64 (p + 1)]]) (by simp [results, Tryz.results10, go_sem, y0, y1]) rfl ⟨B7, _, rfl, evs_nil _ _⟩
set_option maxRecDepth 100000
set_option maxHeartbeats 32000000 in
theorem unwire_any (l : Str) (w : World) (hl : l.length ≤ 1048576) (hT : Tabs w) (hSo : Sorts w) :
  Calls Tryz.prog 10 #[.string ⟨l.toArray⟩] w fun e w' => Below w.heap.size w w' ∧ ∃ v, e = .returned (.tuple #[v, .agg #[.int .i64 (rdWire l).2.1, .int .i64 (rdWire l).2.2]]) ∧ EvsD (fun k => w.heap.size ≤ k) w' v (rdWire l).1 := by
 obtain ⟨RES, hA⟩ : ∃ r, rdWire l = r := ⟨_, rfl⟩
 rw [hA]
 have HA : Hid (rdEvs l 201 0 [] = RES) := Lib.hid hA
 clear hA
 go_enter Tryz.func10, Tryz.ntmps10
 go_wp2_with fail
 have FX0 : FX (w.alloc (.cells #[.int .i64 0, .int .i64 0] 37)) w.heap.size := ⟨by simp [go_sem], by simp [go_sem], fun j => by simp [go_sem]⟩
 have B0 : Below w.heap.size w (w.alloc (.cells #[.int .i64 0, .int .i64 0] 37)) := by go_grown
 have Z0 : w.heap.size < (w.alloc (.cells #[.int .i64 0, .int .i64 0] 37)).heap.size := by simp
 generalize w.alloc (.cells #[.int .i64 0, .int .i64 0] 37) = w1 at FX0 B0 Z0 ⊢
 go_loopg [5, 6] 200 (fun gk ov av wr => ∃ (p : Nat) (es : List Ev) (xs : List Value), p ≤ l.length ∧ es.length + gk = 200 ∧ av = .int .i64 p ∧ Hid (rdEvs l (gk + 1) p es = RES) ∧ Hid (FX wr w.heap.size) ∧ EvRow wr (w.heap.size + 1) ov es xs ∧ Below w.heap.size w wr ∧ w.heap.size < wr.heap.size)
 case atStart => exact ⟨0, [], [], by omega, rfl, rfl, HA, Lib.hid FX0, EvRow.new _ _, B0, Z0⟩
 case round =>
  clear FX0 B0 Z0 HA
  obtain ⟨p, es, xs, hp, hes, rfl, hrd, HFX, hrow, hbr, hzr⟩ := hrel
  obtain ⟨Av, cv, rfl⟩ := own_form hrow.own
  have HROW := Lib.hid hrow
  have HBR := Lib.hid hbr
  have hTr := hT.below hbr
  clear hrow hbr
  by_cases hend : l.length ≤ p
  ·have hlt : ¬ (p : Int) < (l.length : Int) := by omega
   have hres : (es, (0 : Int), 0) = RES := by
    have := hrd.out
    rw [rdEvs, if_pos hend] at this
    exact this
   have HRES := Lib.hid hres
   clear hres hrd
   obtain ⟨f0, f1, fz⟩ := HFX.out
   go_wp2_with fail
   obtain ⟨y0, y1⟩ := HFX.out.set 0 0
   have B6 := below2 HBR.out (Nat.le_refl _) 0 0
   have row6 := (HROW.out.set (a := ⟨w.heap.size, 0, none⟩) (show w.heap.size < _ by omega) (.int .i64 0)).set (a := ⟨w.heap.size, 1, none⟩) (show w.heap.size < _ by omega) (.int .i64 0)
   generalize (wr.setCell ⟨w.heap.size, 0, none⟩ (.int .i64 0)).setCell ⟨w.heap.size, 1, none⟩ (.int .i64 0) = w6 at y0 y1 B6 row6 ⊢
   rw [← HRES.out]
   exact bodyPost_ret (v := .tuple #[.slice Av es.length cv, .agg #[.int .i64 0, .int .i64 0]]) (by simp [results, Tryz.results10, go_sem, y0, y1]) rfl ⟨B6, _, rfl, row6.evs (fun k hk => by omega)⟩
  ·have hlt : (p : Int) < (l.length : Int) := by omega
   by_cases h200 : es.length = 200
   ·have h2 : ((es.length : Int) == 200) = true := by rw [beq_iff_eq]; omega
    have hres : (([] : List Ev), (2 : Int), p) = RES := by
     have := hrd.out
     rw [rdEvs, if_neg hend, if_pos h200] at this
     exact this
    have HRES := Lib.hid hres
    clear hres hrd h200
    obtain ⟨f0, f1, fz⟩ := HFX.out
    go_wp2_with fail
    obtain ⟨y0, y1⟩ := HFX.out.set 2 p
    have B6 := below2 HBR.out (Nat.le_refl _) 2 p
    generalize (wr.setCell ⟨w.heap.size, 0, none⟩ (.int .i64 2)).setCell ⟨w.heap.size, 1, none⟩ (.int .i64 p) = w6 at y0 y1 B6 ⊢
    rw [← HRES.out]
    exact bodyPost_ret (v := .tuple #[.slice none 0 0, .agg #[.int .i64 2, .int .i64 p]]) (by simp [results, Tryz.results10, go_sem, y0, y1]) rfl ⟨B6, _, rfl, evs_nil _ _⟩
   ·have h2 : ((es.length : Int) == 200) = false := by rw [beq_eq_false_iff_ne]; omega
    have hc : l[p]? = some l[p] := List.getElem?_eq_getElem (by omega)
    generalize l[p]'(by omega) = c at hc
    have hplt : p < l.length := by omega
    have hby : (⟨l.toArray⟩ : ByteArray)[p]'(by simpa [ByteArray.size] using hplt) = c := byte_at' hc _
    have hc256 : c.toNat < 256 := c.toNat_lt
    have hw : wrap64 (c.toNat : Int) = (c.toNat : Int) := by unfold wrap64; omega
    have HC := Lib.hid hc
    have hev : rdEv l p = (if c.toNat = 2 ∨ c.toNat = 3 then rdVal l c.toNat (p + 1)
     else if c.toNat = 4 ∨ c.toNat = 5 then rdTyEv l c.toNat (p + 1)
     else if c.toNat = 6 ∨ c.toNat = 7 then rdLab l c.toNat (p + 1)
     else .error p) := by unfold rdEv; rw [hc]
    have HEV := Lib.hid hev
    have hbadR : ∀ q, rdEv l p = .error q → (([] : List Ev), (3 : Int), q) = RES := fun q h => by
     have := hrd.out
     rw [rdEvs, if_neg hend, if_neg h200, h] at this
     exact this
    have hokR : ∀ e q, rdEv l p = .ok (e, q) → rdEvs l (gk - 1 + 1) q (es ++ [e]) = RES ∧ q ≤ l.length := fun e q h => by
     have := hrd.out
     rw [rdEvs, if_neg hend, if_neg h200, h] at this
     rw [show gk - 1 + 1 = gk by omega]
     exact ⟨this, (rdEv_le h).2⟩
    have HBADR := Lib.hid hbadR
    have HOKR := Lib.hid hokR
    clear hev hbadR hokR hrd hc hend
    by_cases hK : c.toNat < 2 ∨ 7 < c.toNat
    ·have hres := HBADR.out p (by rw [HEV.out, if_neg (by omega), if_neg (by omega), if_neg (by omega)])
     have HRES := Lib.hid hres
     clear hres HBADR HOKR HEV
     rcases hK with hK | hK
     ·have k1 : (c.toNat : Int) < 2 := by omega
      clear hK
      go_wp2_with fail
      refine (wbad_any p _).mono ?_
      rintro r w5 ⟨rfl, hb5⟩
      have hb6 : Below wr.heap.size wr w5 := chain (by go_grown) hb5
      have FX5 := HFX.out.keep hb6
      have B5 := chain HBR.out (hb6)
      clear hb5 hb6
      obtain ⟨f0, f1, fz⟩ := id FX5
      go_wp2_with fail
      obtain ⟨y0, y1⟩ := FX5.set 3 p
      have B6 := below2 B5 (Nat.le_refl _) 3 p
      generalize (w5.setCell ⟨w.heap.size, 0, none⟩ (.int .i64 3)).setCell ⟨w.heap.size, 1, none⟩ (.int .i64 p) = w6 at y0 y1 B6 ⊢
      rw [← HRES.out]
      exact bodyPost_ret (v := .tuple #[.slice none 0 0, .agg #[.int .i64 3, .int .i64 p]]) (by simp [results, Tryz.results10, go_sem, y0, y1]) rfl ⟨B6, _, rfl, evs_nil _ _⟩
     ·have k1 : ¬ (c.toNat : Int) < 2 := by omega
      have k2 : (7 : Int) < (c.toNat : Int) := by omega
      clear hK
      go_wp2_with fail
      refine (wbad_any p _).mono ?_
      rintro r w5 ⟨rfl, hb5⟩
      have hb6 : Below wr.heap.size wr w5 := chain (by go_grown) hb5
      have FX5 := HFX.out.keep hb6
      have B5 := chain HBR.out (hb6)
      clear hb5 hb6
      obtain ⟨f0, f1, fz⟩ := id FX5
      go_wp2_with fail
      obtain ⟨y0, y1⟩ := FX5.set 3 p
      have B6 := below2 B5 (Nat.le_refl _) 3 p
      generalize (w5.setCell ⟨w.heap.size, 0, none⟩ (.int .i64 3)).setCell ⟨w.heap.size, 1, none⟩ (.int .i64 p) = w6 at y0 y1 B6 ⊢
      rw [← HRES.out]
      exact bodyPost_ret (v := .tuple #[.slice none 0 0, .agg #[.int .i64 3, .int .i64 p]]) (by simp [results, Tryz.results10, go_sem, y0, y1]) rfl ⟨B6, _, rfl, evs_nil _ _⟩
    ·have k1 : ¬ (c.toNat : Int) < 2 := by omega
     have k2 : ¬ (7 : Int) < (c.toNat : Int) := by omega
     by_cases hvK : c.toNat = 2
     ·exact uw_k2 l w wr RES hl hTr es xs p gk Av cv c hplt HC.out (Lib.hid (by rw [HEV.out, if_pos (by omega), hvK]; rfl)) HBADR HOKR (by omega) h2 h200 hes HFX HROW HBR hzr _ _ _ _ _ _ _ _ _ _ _ _ _ _ _ _ _ _ _ _ _ _ _ _ _ _ _ _ _ _ _ _ _ _ _ _ _ _ _ _ _ _ _ _ _ _ _ _ _ _ _ _ _ _ _ _ _ _ _ _ _ _ _ _ _ _ _ _ _ _ _ _ _ _ _ _ _ _ _ _ _ _ _ _ _ _ _ _ _ _ _ _ _ _ _ _ _ _ _ _ _ _ _ _ _ _ _ _ _ _ _ _ _ _ _ _ _ _ _ _ _ _ _ _ _ _ _ _ _ _ _ _ _ _ _ _ _ _ _ _ _ _ _ _ _ _ _ _ _ _ _ _ _ _ _ _ _ _ _ _ _ _ _ _ _ _ _ _ _ _ _ _ _ _ _ _ _ _ _ _ _ _ _ _ _ _ _ _ _ _ _ _ _ _ _ _ _ _ _ _ _ _ _ _ _ _ _ _ _ _ _ _ _ _ _ _ _ _ _ _ _ _ _ _ _ _ _ _ (fun ov av q fs ys wz g1 g2 g3 g4 g5 g6 g7 g8 u2 u7 u8 u9 u10 u11 u12 u13 u14 u15 u16 u17 u18 u19 u20 u21 u22 u23 u24 u25 u26 u27 u28 u29 u30 u31 u32 u33 u34 u35 u36 u37 u38 u39 u40 u41 u42 u43 u44 u45 u46 u47 u48 u49 u50 u51 u52 u53 u54 u55 u56 u57 u58 u59 u60 u61 u62 u63 u64 u65 u66 u67 u68 u69 u70 u71 u72 u73 u74 u75 u76 u77 u78 u79 u80 u81 u82 u83 u84 u85 u86 u87 u88 u89 u90 u91 u92 u93 u94 u95 u96 u97 u98 u99 u100 u101 u102 u103 u104 u105 u106 u107 u108 u109 u110 u111 u112 u113 u114 u115 u116 u117 u118 u119 u120 u121 u122 u123 u124 u125 u126 u127 u128 u129 u130 u131 u132 u133 u134 u135 u136 u137 u138 u139 u140 u141 u142 u143 u144 u145 u146 u147 u148 u149 u150 u151 u152 u153 u154 u155 u156 u157 u158 u159 u160 u161 u162 u163 u164 u165 u166 u167 u168 u169 u170 u171 u172 u173 u174 u175 u176 u177 u178 u179 u180 u181 u182 u183 u184 u185 u186 u187 u188 u189 u190 u191 u192 u193 u194 u195 u196 u197 u198 u199 u200 u201 u202 u203 u204 u205 u206 u207 u208 u209 u210 u211 u212 u213 u214 u215 u216 u217 u218 u219 u220 u221 u222 u223 u224 u225 u226 u227 u228 u229 u230 u231 => by go_wp2_with fail; go_roundg (gk - 1); (case measure => omega); (case rel => exact ⟨q, fs, ys, g1, g2, (by first | rfl | exact g3), g4, g5, g6, g7, g8⟩)) (fun _ _ h => h)
     by_cases hvK : c.toNat = 3
     ·exact uw_k3 l w wr RES hl hTr es xs p gk Av cv c hplt HC.out (Lib.hid (by rw [HEV.out, if_pos (by omega), hvK]; rfl)) HBADR HOKR (by omega) h2 h200 hes HFX HROW HBR hzr _ _ _ _ _ _ _ _ _ _ _ _ _ _ _ _ _ _ _ _ _ _ _ _ _ _ _ _ _ _ _ _ _ _ _ _ _ _ _ _ _ _ _ _ _ _ _ _ _ _ _ _ _ _ _ _ _ _ _ _ _ _ _ _ _ _ _ _ _ _ _ _ _ _ _ _ _ _ _ _ _ _ _ _ _ _ _ _ _ _ _ _ _ _ _ _ _ _ _ _ _ _ _ _ _ _ _ _ _ _ _ _ _ _ _ _ _ _ _ _ _ _ _ _ _ _ _ _ _ _ _ _ _ _ _ _ _ _ _ _ _ _ _ _ _ _ _ _ _ _ _ _ _ _ _ _ _ _ _ _ _ _ _ _ _ _ _ _ _ _ _ _ _ _ _ _ _ _ _ _ _ _ _ _ _ _ _ _ _ _ _ _ _ _ _ _ _ _ _ _ _ _ _ _ _ _ _ _ _ _ _ _ _ _ _ _ _ _ _ _ _ _ _ _ _ _ _ _ (fun ov av q fs ys wz g1 g2 g3 g4 g5 g6 g7 g8 u2 u7 u8 u9 u10 u11 u12 u13 u14 u15 u16 u17 u18 u19 u20 u21 u22 u23 u24 u25 u26 u27 u28 u29 u30 u31 u32 u33 u34 u35 u36 u37 u38 u39 u40 u41 u42 u43 u44 u45 u46 u47 u48 u49 u50 u51 u52 u53 u54 u55 u56 u57 u58 u59 u60 u61 u62 u63 u64 u65 u66 u67 u68 u69 u70 u71 u72 u73 u74 u75 u76 u77 u78 u79 u80 u81 u82 u83 u84 u85 u86 u87 u88 u89 u90 u91 u92 u93 u94 u95 u96 u97 u98 u99 u100 u101 u102 u103 u104 u105 u106 u107 u108 u109 u110 u111 u112 u113 u114 u115 u116 u117 u118 u119 u120 u121 u122 u123 u124 u125 u126 u127 u128 u129 u130 u131 u132 u133 u134 u135 u136 u137 u138 u139 u140 u141 u142 u143 u144 u145 u146 u147 u148 u149 u150 u151 u152 u153 u154 u155 u156 u157 u158 u159 u160 u161 u162 u163 u164 u165 u166 u167 u168 u169 u170 u171 u172 u173 u174 u175 u176 u177 u178 u179 u180 u181 u182 u183 u184 u185 u186 u187 u188 u189 u190 u191 u192 u193 u194 u195 u196 u197 u198 u199 u200 u201 u202 u203 u204 u205 u206 u207 u208 u209 u210 u211 u212 u213 u214 u215 u216 u217 u218 u219 u220 u221 u222 u223 u224 u225 u226 u227 u228 u229 u230 u231 => by go_wp2_with fail; go_roundg (gk - 1); (case measure => omega); (case rel => exact ⟨q, fs, ys, g1, g2, (by first | rfl | exact g3), g4, g5, g6, g7, g8⟩)) (fun _ _ h => h)
     by_cases hvK : c.toNat = 4
     ·exact uw_k4 l w wr RES hl hTr es xs p gk Av cv c hplt HC.out (Lib.hid (by rw [HEV.out, if_neg (by omega), if_pos (by omega), hvK]; rfl)) HBADR HOKR (by omega) h2 h200 hes HFX HROW HBR hzr _ _ _ _ _ _ _ _ _ _ _ _ _ _ _ _ _ _ _ _ _ _ _ _ _ _ _ _ _ _ _ _ _ _ _ _ _ _ _ _ _ _ _ _ _ _ _ _ _ _ _ _ _ _ _ _ _ _ _ _ _ _ _ _ _ _ _ _ _ _ _ _ _ _ _ _ _ _ _ _ _ _ _ _ _ _ _ _ _ _ _ _ _ _ _ _ _ _ _ _ _ _ _ _ _ _ _ _ _ _ _ _ _ _ _ _ _ _ _ _ _ _ _ _ _ _ _ _ _ _ _ _ _ _ _ _ _ _ _ _ _ _ _ _ _ _ _ _ _ _ _ _ _ _ _ _ _ _ _ _ _ _ _ _ _ _ _ _ _ _ _ _ _ _ _ _ _ _ _ _ _ _ _ _ _ _ _ _ _ _ _ _ _ _ _ _ _ _ _ _ _ _ _ _ _ _ _ _ _ _ _ _ _ _ _ _ _ _ _ _ _ _ _ _ _ _ _ _ (fun ov av q fs ys wz g1 g2 g3 g4 g5 g6 g7 g8 u2 u7 u8 u9 u10 u11 u12 u13 u14 u15 u16 u17 u18 u19 u20 u21 u22 u23 u24 u25 u26 u27 u28 u29 u30 u31 u32 u33 u34 u35 u36 u37 u38 u39 u40 u41 u42 u43 u44 u45 u46 u47 u48 u49 u50 u51 u52 u53 u54 u55 u56 u57 u58 u59 u60 u61 u62 u63 u64 u65 u66 u67 u68 u69 u70 u71 u72 u73 u74 u75 u76 u77 u78 u79 u80 u81 u82 u83 u84 u85 u86 u87 u88 u89 u90 u91 u92 u93 u94 u95 u96 u97 u98 u99 u100 u101 u102 u103 u104 u105 u106 u107 u108 u109 u110 u111 u112 u113 u114 u115 u116 u117 u118 u119 u120 u121 u122 u123 u124 u125 u126 u127 u128 u129 u130 u131 u132 u133 u134 u135 u136 u137 u138 u139 u140 u141 u142 u143 u144 u145 u146 u147 u148 u149 u150 u151 u152 u153 u154 u155 u156 u157 u158 u159 u160 u161 u162 u163 u164 u165 u166 u167 u168 u169 u170 u171 u172 u173 u174 u175 u176 u177 u178 u179 u180 u181 u182 u183 u184 u185 u186 u187 u188 u189 u190 u191 u192 u193 u194 u195 u196 u197 u198 u199 u200 u201 u202 u203 u204 u205 u206 u207 u208 u209 u210 u211 u212 u213 u214 u215 u216 u217 u218 u219 u220 u221 u222 u223 u224 u225 u226 u227 u228 u229 u230 u231 => by go_wp2_with fail; go_roundg (gk - 1); (case measure => omega); (case rel => exact ⟨q, fs, ys, g1, g2, (by first | rfl | exact g3), g4, g5, g6, g7, g8⟩)) (fun _ _ h => h)
     by_cases hvK : c.toNat = 5
     ·exact uw_k5 l w wr RES hl hTr es xs p gk Av cv c hplt HC.out (Lib.hid (by rw [HEV.out, if_neg (by omega), if_pos (by omega), hvK]; rfl)) HBADR HOKR (by omega) h2 h200 hes HFX HROW HBR hzr _ _ _ _ _ _ _ _ _ _ _ _ _ _ _ _ _ _ _ _ _ _ _ _ _ _ _ _ _ _ _ _ _ _ _ _ _ _ _ _ _ _ _ _ _ _ _ _ _ _ _ _ _ _ _ _ _ _ _ _ _ _ _ _ _ _ _ _ _ _ _ _ _ _ _ _ _ _ _ _ _ _ _ _ _ _ _ _ _ _ _ _ _ _ _ _ _ _ _ _ _ _ _ _ _ _ _ _ _ _ _ _ _ _ _ _ _ _ _ _ _ _ _ _ _ _ _ _ _ _ _ _ _ _ _ _ _ _ _ _ _ _ _ _ _ _ _ _ _ _ _ _ _ _ _ _ _ _ _ _ _ _ _ _ _ _ _ _ _ _ _ _ _ _ _ _ _ _ _ _ _ _ _ _ _ _ _ _ _ _ _ _ _ _ _ _ _ _ _ _ _ _ _ _ _ _ _ _ _ _ _ _ _ _ _ _ _ _ _ _ _ _ _ _ _ _ _ _ (fun ov av q fs ys wz g1 g2 g3 g4 g5 g6 g7 g8 u2 u7 u8 u9 u10 u11 u12 u13 u14 u15 u16 u17 u18 u19 u20 u21 u22 u23 u24 u25 u26 u27 u28 u29 u30 u31 u32 u33 u34 u35 u36 u37 u38 u39 u40 u41 u42 u43 u44 u45 u46 u47 u48 u49 u50 u51 u52 u53 u54 u55 u56 u57 u58 u59 u60 u61 u62 u63 u64 u65 u66 u67 u68 u69 u70 u71 u72 u73 u74 u75 u76 u77 u78 u79 u80 u81 u82 u83 u84 u85 u86 u87 u88 u89 u90 u91 u92 u93 u94 u95 u96 u97 u98 u99 u100 u101 u102 u103 u104 u105 u106 u107 u108 u109 u110 u111 u112 u113 u114 u115 u116 u117 u118 u119 u120 u121 u122 u123 u124 u125 u126 u127 u128 u129 u130 u131 u132 u133 u134 u135 u136 u137 u138 u139 u140 u141 u142 u143 u144 u145 u146 u147 u148 u149 u150 u151 u152 u153 u154 u155 u156 u157 u158 u159 u160 u161 u162 u163 u164 u165 u166 u167 u168 u169 u170 u171 u172 u173 u174 u175 u176 u177 u178 u179 u180 u181 u182 u183 u184 u185 u186 u187 u188 u189 u190 u191 u192 u193 u194 u195 u196 u197 u198 u199 u200 u201 u202 u203 u204 u205 u206 u207 u208 u209 u210 u211 u212 u213 u214 u215 u216 u217 u218 u219 u220 u221 u222 u223 u224 u225 u226 u227 u228 u229 u230 u231 => by go_wp2_with fail; go_roundg (gk - 1); (case measure => omega); (case rel => exact ⟨q, fs, ys, g1, g2, (by first | rfl | exact g3), g4, g5, g6, g7, g8⟩)) (fun _ _ h => h)
     by_cases hvK : c.toNat = 6
     ·exact uw_k6 l w wr RES hl hTr es xs p gk Av cv c hplt HC.out (Lib.hid (by rw [HEV.out, if_neg (by omega), if_neg (by omega), if_pos (by omega), hvK]; rfl)) HBADR HOKR (by omega) h2 h200 hes HFX HROW HBR hzr _ _ _ _ _ _ _ _ _ _ _ _ _ _ _ _ _ _ _ _ _ _ _ _ _ _ _ _ _ _ _ _ _ _ _ _ _ _ _ _ _ _ _ _ _ _ _ _ _ _ _ _ _ _ _ _ _ _ _ _ _ _ _ _ _ _ _ _ _ _ _ _ _ _ _ _ _ _ _ _ _ _ _ _ _ _ _ _ _ _ _ _ _ _ _ _ _ _ _ _ _ _ _ _ _ _ _ _ _ _ _ _ _ _ _ _ _ _ _ _ _ _ _ _ _ _ _ _ _ _ _ _ _ _ _ _ _ _ _ _ _ _ _ _ _ _ _ _ _ _ _ _ _ _ _ _ _ _ _ _ _ _ _ _ _ _ _ _ _ _ _ _ _ _ _ _ _ _ _ _ _ _ _ _ _ _ _ _ _ _ _ _ _ _ _ _ _ _ _ _ _ _ _ _ _ _ _ _ _ _ _ _ _ _ _ _ _ _ _ _ _ _ _ _ _ _ _ _ (fun ov av q fs ys wz g1 g2 g3 g4 g5 g6 g7 g8 u2 u7 u8 u9 u10 u11 u12 u13 u14 u15 u16 u17 u18 u19 u20 u21 u22 u23 u24 u25 u26 u27 u28 u29 u30 u31 u32 u33 u34 u35 u36 u37 u38 u39 u40 u41 u42 u43 u44 u45 u46 u47 u48 u49 u50 u51 u52 u53 u54 u55 u56 u57 u58 u59 u60 u61 u62 u63 u64 u65 u66 u67 u68 u69 u70 u71 u72 u73 u74 u75 u76 u77 u78 u79 u80 u81 u82 u83 u84 u85 u86 u87 u88 u89 u90 u91 u92 u93 u94 u95 u96 u97 u98 u99 u100 u101 u102 u103 u104 u105 u106 u107 u108 u109 u110 u111 u112 u113 u114 u115 u116 u117 u118 u119 u120 u121 u122 u123 u124 u125 u126 u127 u128 u129 u130 u131 u132 u133 u134 u135 u136 u137 u138 u139 u140 u141 u142 u143 u144 u145 u146 u147 u148 u149 u150 u151 u152 u153 u154 u155 u156 u157 u158 u159 u160 u161 u162 u163 u164 u165 u166 u167 u168 u169 u170 u171 u172 u173 u174 u175 u176 u177 u178 u179 u180 u181 u182 u183 u184 u185 u186 u187 u188 u189 u190 u191 u192 u193 u194 u195 u196 u197 u198 u199 u200 u201 u202 u203 u204 u205 u206 u207 u208 u209 u210 u211 u212 u213 u214 u215 u216 u217 u218 u219 u220 u221 u222 u223 u224 u225 u226 u227 u228 u229 u230 u231 => by go_wp2_with fail; go_roundg (gk - 1); (case measure => omega); (case rel => exact ⟨q, fs, ys, g1, g2, (by first | rfl | exact g3), g4, g5, g6, g7, g8⟩)) (fun _ _ h => h)
     by_cases hvK : c.toNat = 7
     ·exact uw_k7 l w wr RES hl hTr es xs p gk Av cv c hplt HC.out (Lib.hid (by rw [HEV.out, if_neg (by omega), if_neg (by omega), if_pos (by omega), hvK]; rfl)) HBADR HOKR (by omega) h2 h200 hes HFX HROW HBR hzr _ _ _ _ _ _ _ _ _ _ _ _ _ _ _ _ _ _ _ _ _ _ _ _ _ _ _ _ _ _ _ _ _ _ _ _ _ _ _ _ _ _ _ _ _ _ _ _ _ _ _ _ _ _ _ _ _ _ _ _ _ _ _ _ _ _ _ _ _ _ _ _ _ _ _ _ _ _ _ _ _ _ _ _ _ _ _ _ _ _ _ _ _ _ _ _ _ _ _ _ _ _ _ _ _ _ _ _ _ _ _ _ _ _ _ _ _ _ _ _ _ _ _ _ _ _ _ _ _ _ _ _ _ _ _ _ _ _ _ _ _ _ _ _ _ _ _ _ _ _ _ _ _ _ _ _ _ _ _ _ _ _ _ _ _ _ _ _ _ _ _ _ _ _ _ _ _ _ _ _ _ _ _ _ _ _ _ _ _ _ _ _ _ _ _ _ _ _ _ _ _ _ _ _ _ _ _ _ _ _ _ _ _ _ _ _ _ _ _ _ _ _ _ _ _ _ _ _ (fun ov av q fs ys wz g1 g2 g3 g4 g5 g6 g7 g8 u2 u7 u8 u9 u10 u11 u12 u13 u14 u15 u16 u17 u18 u19 u20 u21 u22 u23 u24 u25 u26 u27 u28 u29 u30 u31 u32 u33 u34 u35 u36 u37 u38 u39 u40 u41 u42 u43 u44 u45 u46 u47 u48 u49 u50 u51 u52 u53 u54 u55 u56 u57 u58 u59 u60 u61 u62 u63 u64 u65 u66 u67 u68 u69 u70 u71 u72 u73 u74 u75 u76 u77 u78 u79 u80 u81 u82 u83 u84 u85 u86 u87 u88 u89 u90 u91 u92 u93 u94 u95 u96 u97 u98 u99 u100 u101 u102 u103 u104 u105 u106 u107 u108 u109 u110 u111 u112 u113 u114 u115 u116 u117 u118 u119 u120 u121 u122 u123 u124 u125 u126 u127 u128 u129 u130 u131 u132 u133 u134 u135 u136 u137 u138 u139 u140 u141 u142 u143 u144 u145 u146 u147 u148 u149 u150 u151 u152 u153 u154 u155 u156 u157 u158 u159 u160 u161 u162 u163 u164 u165 u166 u167 u168 u169 u170 u171 u172 u173 u174 u175 u176 u177 u178 u179 u180 u181 u182 u183 u184 u185 u186 u187 u188 u189 u190 u191 u192 u193 u194 u195 u196 u197 u198 u199 u200 u201 u202 u203 u204 u205 u206 u207 u208 u209 u210 u211 u212 u213 u214 u215 u216 u217 u218 u219 u220 u221 u222 u223 u224 u225 u226 u227 u228 u229 u230 u231 => by go_wp2_with fail; go_roundg (gk - 1); (case measure => omega); (case rel => exact ⟨q, fs, ys, g1, g2, (by first | rfl | exact g3), g4, g5, g6, g7, g8⟩)) (fun _ _ h => h)
     omega
set_option maxRecDepth 100000
theorem run_eqf (w : World) (c a : Int) : (binOp .eql 37 (.agg #[.int .i64 c, .int .i64 a]) (.agg #[.int .i64 c, .int .i64 a])).run Tryz.prog w = .ok (.bool true) w := by
 simp [go_sem]
theorem rdEv_fit {l : Str} (hl : l.length ≤ 1048576) {p : Nat} {x : Ev × Nat} (h : rdEv l p = .ok x) : Fit x.1.ty := by
 unfold rdEv at h
 split at h
 ·simp at h
 ·split at h
  ·unfold rdVal at h
   split at h
   ·simp at h
   ·split at h
    ·split at h
     ·simp at h
     ·injection h with h; subst h; exact fit_no
    ·split at h
     ·split at h
      ·simp at h
      ·split at h
       ·simp at h
       ·injection h with h; subst h; exact fit_no
     ·split at h
      ·split at h
       ·simp at h
       ·split at h
        ·injection h with h; subst h; exact fit_no
        ·simp at h
      ·simp at h
  ·split at h
   ·unfold rdTyEv at h
    split at h
    ·simp at h
    ·rename_i y hy
     have := rtext_len hy
     split at h
     ·injection h with h; subst h; exact parse_fit _ (by unfold maxLen; omega)
     ·simp at h
   ·split at h
    ·unfold rdLab at h
     split at h
     ·simp at h
     ·split at h
      ·injection h with h; subst h; exact fit_no
      ·simp at h
    ·simp at h
theorem rdEvs_fit {l : Str} (hl : l.length ≤ 1048576) : ∀ (f p : Nat) (es : List Ev), (∀ e ∈ es, Fit e.ty) → es.length ≤ 200 → (∀ e ∈ (rdEvs l f p es).1, Fit e.ty) ∧ (rdEvs l f p es).1.length ≤ 200 := by
 intro f
 induction f with
 | zero => intro p es _ _; simp [rdEvs]
 | succ f ih =>
  intro p es h1 h2
  rw [rdEvs]
  split
  ·exact ⟨h1, h2⟩
  ·split
   ·simp
   ·split
    ·simp
    ·rename_i x hx
     refine ih _ _ (fun e he => ?_) (by simp; omega)
     rcases List.mem_append.1 he with he | he
     ·exact h1 e he
     ·have : e = x.1 := by simpa using he
      rw [this]
      exact rdEv_fit hl hx
theorem rdWire_fit {l : Str} (hl : l.length ≤ 1048576) : (∀ e ∈ (rdWire l).1, Fit e.ty) ∧ (rdWire l).1.length ≤ 200 := rdEvs_fit hl 201 0 [] (by simp) (by simp)
theorem firstErr_all : ∀ {l : List Ev}, firstErr l = 0 → ∀ e ∈ l, errOf e = 0
 | [], _ => by simp
 | x :: r, h => by
  unfold firstErr at h
  split at h
  ·rename_i h1; exact absurd h h1
  ·rename_i h1
   intro e he
   rcases List.mem_cons.1 he with rfl | he
   ·exact Decidable.of_not_not h1
   ·exact firstErr_all h e he
set_option maxHeartbeats 16000000 in
theorem wiresSays_any (es : List Ev) (s : Str) (v : Value) (w : World) (hv : EvsD All w v es) (hf : ∀ e ∈ es, EvFit e) (hlen : es.length ≤ 1048576) (hl : s.length ≤ 1048576) (hT : Tabs w) (hS : Sorts w) :
  Calls Tryz.prog 3 #[v, .string ⟨s.toArray⟩] w fun r w' => r = .returned (.bool true) ∧ Below w.heap.size w w' := by
 have HV := Lib.hid hv
 obtain ⟨A, cp, rfl, -, -, -⟩ := hv
 have HF := Lib.hid hf
 obtain ⟨L, hL⟩ : ∃ L, es.length = L := ⟨_, rfl⟩
 have HL := Lib.hid hL
 obtain ⟨RE, hRE⟩ : ∃ x, wiresErr es = x := ⟨_, rfl⟩
 have HRE := Lib.hid hRE
 have hqf := fun w c a => run_eqf w c a
 have hWrite := fun (W : World) (hb : Below w.heap.size w W) => wWrite_any es _ W (HV.out.below hb) HF.out hlen (hT.below hb) (hS.keep hb)
 have hRead := fun (W : World) (hb : Below w.heap.size w W) => wRead_any s W hl (hT.below hb) (hS.keep hb)
 have hUn := fun (W : World) (hb : Below w.heap.size w W) => unwire_any s W hl (hT.below hb) (hS.keep hb)
 obtain ⟨rf1, rf2⟩ := rdWire_fit (l := s) hl
 obtain ⟨ks, kc, ka, hk⟩ : ∃ a b c, rdWire s = (a, b, c) := ⟨_, _, _, rfl⟩
 rw [hk] at hRead hUn rf1 rf2
 rw [hRE] at hWrite
 rw [hL] at hWrite HV hlen ⊢
 simp only at hRead hUn rf1 rf2
 have HRead := Lib.hid hRead; have HUn := Lib.hid hUn; have HWrite := Lib.hid hWrite
 have HRF := Lib.hid rf1
 have HTT := Lib.hid hT
 have HV0 : Hid (EvsD All w (.slice A es.length cp) es) := Lib.hid (by rw [HL.out]; exact HV.out)
 clear hL hRE hRead hUn hWrite rf1 hk hf
 go_enter Tryz.func3, Tryz.ntmps3
 by_cases h200 : 200 < L
 ·have h200i : (200 : Int) < (L : Int) := by omega
  have hre : RE = 2 := by rw [← HRE.out]; unfold wiresErr; rw [HL.out, if_pos h200]
  subst hre
  clear h200
  go_wp2_with fail
  go_loopw [5, 6] (fun ev iv wr => ev = .int .i64 2 ∧ iv = .int .i64 0 ∧ Below w.heap.size w wr) (fun _ _ _ => 0)
  case atStart => exact ⟨rfl, rfl, Below.refl _ _⟩
  case round =>
   obtain ⟨rfl, rfl, hbr⟩ := hrel
   go_wp2_with fail
   refine (HWrite.out wr hbr).mono ?_
   rintro r w1 ⟨rfl, hq⟩
   have hb1 := chain hbr hq
   clear hq
   rw [if_neg (by decide)]
   go_wp2_with fail
   refine (HRead.out w1 hb1).mono ?_
   rintro r w2 ⟨hq, v1, rfl, hv1⟩
   have hb2 := chain hb1 hq
   have HV1 := Lib.hid hv1
   obtain ⟨Ab, cb, rfl, -, -, -⟩ := hv1
   clear hq
   rename_i Kx hkx Ky hky
   have HKX := Lib.hid hkx
   clear hkx
   go_wp2_with fail
   have hB : Below w2.heap.size w2 (w2.alloc (.cells #[.int .i64 kc, .int .i64 ka] 37)) := by go_grown
   have f0 : (w2.alloc (.cells #[.int .i64 kc, .int .i64 ka] 37)).cell? ⟨w2.heap.size, 0, none⟩ = some (.int .i64 kc) := by simp [go_sem]
   have f1 : (w2.alloc (.cells #[.int .i64 kc, .int .i64 ka] 37)).cell? ⟨w2.heap.size, 1, none⟩ = some (.int .i64 ka) := by simp [go_sem]
   have hb3 := chain hb2 hB
   have hz2 : w.heap.size ≤ w2.heap.size := hb2.size
   replace HV1 := Lib.hid (EvsD.keep (D' := All) HV1.out (Same.below hB) (fun _ _ _ => trivial))
   generalize w2.alloc (.cells #[.int .i64 kc, .int .i64 ka] 37) = w3 at hb3 f0 f1 HV1 ⊢
   clear hB hb2
   generalize w2.heap.size = F1 at *
   clear w2
   refine HKX.out _ _ ?_
   clear HKX
   go_wp2_with fail
   refine (HUn.out w3 hb3).mono ?_
   rintro r w4 ⟨hq, v2, rfl, hv2⟩
   have hb4 := chain hb3 hq
   replace f0 := cell_keep f0 hq
   replace f1 := cell_keep f1 hq
   replace HV1 := Lib.hid (HV1.out.below hq)
   have HV2 := Lib.hid hv2
   obtain ⟨Ac, cc, rfl, -, -, -⟩ := hv2
   clear hq
   rename_i Kx hkx Ky hky
   have HKX := Lib.hid hkx
   clear hkx
   go_wp2_with fail
   have hB : Below w4.heap.size w4 (w4.alloc (.cells #[.int .i64 kc, .int .i64 ka] 37)) := by go_grown
   have g0 : (w4.alloc (.cells #[.int .i64 kc, .int .i64 ka] 37)).cell? ⟨w4.heap.size, 0, none⟩ = some (.int .i64 kc) := by simp [go_sem]
   have g1 : (w4.alloc (.cells #[.int .i64 kc, .int .i64 ka] 37)).cell? ⟨w4.heap.size, 1, none⟩ = some (.int .i64 ka) := by simp [go_sem]
   have hb5 := chain hb4 hB
   replace f0 := cell_keep f0 hB
   replace f1 := cell_keep f1 hB
   replace HV1 := Lib.hid (HV1.out.below hB)
   replace HV2 := Lib.hid (EvsD.keep (D' := All) HV2.out (Same.below hB) (fun _ _ _ => trivial))
   generalize w4.alloc (.cells #[.int .i64 kc, .int .i64 ka] 37) = w5 at hb5 f0 f1 g0 g1 HV1 HV2 ⊢
   clear hB hb4
   generalize w4.heap.size = F2 at *
   clear w4
   refine HKX.out _ _ ?_
   clear HKX
   go_wp2_with fail
   refine (text_any [] [] 2 2 w5 ⟨fun _ => ⟨rfl, rfl⟩, fun h => absurd h (by decide)⟩).mono ?_
   rintro r w6 ⟨rfl, rfl⟩
   go_wp2_with fail
   refine (sameEvs_any ks _ _ w6 (by omega) HRF.out HV1.out HV2.out).mono ?_
   rintro r w7 ⟨rfl, hq⟩
   have hb7 := chain hb5 hq
   go_wp2_with fail
   go_ret
   exact ⟨rfl, hb7⟩
 ·have h200i : ¬ (200 : Int) < (L : Int) := by omega
  have hre : firstErr es = RE := by rw [← HRE.out]; unfold wiresErr; rw [HL.out, if_neg h200]
  have HFE := Lib.hid hre
  clear hre
  go_wp2_with fail
  go_loopw [5, 6] (fun ev iv wr => ∃ (j : Nat) (E : Int), j ≤ L ∧ ev = .int .i64 E ∧ iv = .int .i64 j ∧ Below w.heap.size w wr ∧ Hid ((E ≠ 0 ∧ E = RE) ∨ (E = 0 ∧ firstErr (es.drop j) = RE))) (fun _ i _ => L - (intOf i).toNat)
  case atStart => exact ⟨0, 0, by omega, rfl, rfl, Below.refl _ _, Lib.hid (.inr ⟨rfl, HFE.out⟩)⟩
  case round =>
   obtain ⟨j, E, hj, rfl, rfl, hbr, hE⟩ := hrel
   rcases hE.out with ⟨hne, he⟩ | ⟨h0, hfe⟩
   ·have hEb : (E == 0) = false := by rw [beq_eq_false_iff_ne]; exact hne
    have HNE : Hid (RE ≠ 0) := Lib.hid (by rw [← he]; exact hne)
    have HNE0 := Lib.hid hne
    have HEQ := Lib.hid he
    clear hE hne he
    by_cases hjL : j < L
    ·have hlt : (j : Int) < (L : Int) := by omega
     clear hjL
     go_wp2_with fail
     refine (HWrite.out wr hbr).mono ?_
     rintro r w1 ⟨rfl, hq⟩
     have hb1 := chain hbr hq
     clear hq
     rw [if_neg HNE.out, ← HEQ.out]
     go_wp2_with fail
     refine (HRead.out w1 hb1).mono ?_
     rintro r w2 ⟨hq, v1, rfl, hv1⟩
     have hb2 := chain hb1 hq
     have HV1 := Lib.hid hv1
     obtain ⟨Ab, cb, rfl, -, -, -⟩ := hv1
     clear hq
     rename_i Kx hkx Ky hky
     have HKX := Lib.hid hkx
     clear hkx
     go_wp2_with fail
     have hB : Below w2.heap.size w2 (w2.alloc (.cells #[.int .i64 kc, .int .i64 ka] 37)) := by go_grown
     have f0 : (w2.alloc (.cells #[.int .i64 kc, .int .i64 ka] 37)).cell? ⟨w2.heap.size, 0, none⟩ = some (.int .i64 kc) := by simp [go_sem]
     have f1 : (w2.alloc (.cells #[.int .i64 kc, .int .i64 ka] 37)).cell? ⟨w2.heap.size, 1, none⟩ = some (.int .i64 ka) := by simp [go_sem]
     have hb3 := chain hb2 hB
     have hz2 : w.heap.size ≤ w2.heap.size := hb2.size
     replace HV1 := Lib.hid (EvsD.keep (D' := All) HV1.out (Same.below hB) (fun _ _ _ => trivial))
     generalize w2.alloc (.cells #[.int .i64 kc, .int .i64 ka] 37) = w3 at hb3 f0 f1 HV1 ⊢
     clear hB hb2
     generalize w2.heap.size = F1 at *
     clear w2
     refine HKX.out _ _ ?_
     clear HKX
     go_wp2_with fail
     refine (HUn.out w3 hb3).mono ?_
     rintro r w4 ⟨hq, v2, rfl, hv2⟩
     have hb4 := chain hb3 hq
     replace f0 := cell_keep f0 hq
     replace f1 := cell_keep f1 hq
     replace HV1 := Lib.hid (HV1.out.below hq)
     have HV2 := Lib.hid hv2
     obtain ⟨Ac, cc, rfl, -, -, -⟩ := hv2
     clear hq
     rename_i Kx hkx Ky hky
     have HKX := Lib.hid hkx
     clear hkx
     go_wp2_with fail
     have hB : Below w4.heap.size w4 (w4.alloc (.cells #[.int .i64 kc, .int .i64 ka] 37)) := by go_grown
     have g0 : (w4.alloc (.cells #[.int .i64 kc, .int .i64 ka] 37)).cell? ⟨w4.heap.size, 0, none⟩ = some (.int .i64 kc) := by simp [go_sem]
     have g1 : (w4.alloc (.cells #[.int .i64 kc, .int .i64 ka] 37)).cell? ⟨w4.heap.size, 1, none⟩ = some (.int .i64 ka) := by simp [go_sem]
     have hb5 := chain hb4 hB
     replace f0 := cell_keep f0 hB
     replace f1 := cell_keep f1 hB
     replace HV1 := Lib.hid (HV1.out.below hB)
     replace HV2 := Lib.hid (EvsD.keep (D' := All) HV2.out (Same.below hB) (fun _ _ _ => trivial))
     generalize w4.alloc (.cells #[.int .i64 kc, .int .i64 ka] 37) = w5 at hb5 f0 f1 g0 g1 HV1 HV2 ⊢
     clear hB hb4
     generalize w4.heap.size = F2 at *
     clear w4
     refine HKX.out _ _ ?_
     clear HKX
     go_wp2_with fail
     refine (text_any [] [] E E w5 ⟨fun _ => ⟨rfl, rfl⟩, fun h => absurd h HNE0.out⟩).mono ?_
     rintro r w6 ⟨rfl, rfl⟩
     go_wp2_with fail
     refine (sameEvs_any ks _ _ w6 (by omega) HRF.out HV1.out HV2.out).mono ?_
     rintro r w7 ⟨rfl, hq⟩
     have hb7 := chain hb5 hq
     go_wp2_with fail
     go_ret
     exact ⟨rfl, hb7⟩
    ·have hlt : ¬ (j : Int) < (L : Int) := by omega
     clear hjL
     go_wp2_with fail
     refine (HWrite.out wr hbr).mono ?_
     rintro r w1 ⟨rfl, hq⟩
     have hb1 := chain hbr hq
     clear hq
     rw [if_neg HNE.out, ← HEQ.out]
     go_wp2_with fail
     refine (HRead.out w1 hb1).mono ?_
     rintro r w2 ⟨hq, v1, rfl, hv1⟩
     have hb2 := chain hb1 hq
     have HV1 := Lib.hid hv1
     obtain ⟨Ab, cb, rfl, -, -, -⟩ := hv1
     clear hq
     rename_i Kx hkx Ky hky
     have HKX := Lib.hid hkx
     clear hkx
     go_wp2_with fail
     have hB : Below w2.heap.size w2 (w2.alloc (.cells #[.int .i64 kc, .int .i64 ka] 37)) := by go_grown
     have f0 : (w2.alloc (.cells #[.int .i64 kc, .int .i64 ka] 37)).cell? ⟨w2.heap.size, 0, none⟩ = some (.int .i64 kc) := by simp [go_sem]
     have f1 : (w2.alloc (.cells #[.int .i64 kc, .int .i64 ka] 37)).cell? ⟨w2.heap.size, 1, none⟩ = some (.int .i64 ka) := by simp [go_sem]
     have hb3 := chain hb2 hB
     have hz2 : w.heap.size ≤ w2.heap.size := hb2.size
     replace HV1 := Lib.hid (EvsD.keep (D' := All) HV1.out (Same.below hB) (fun _ _ _ => trivial))
     generalize w2.alloc (.cells #[.int .i64 kc, .int .i64 ka] 37) = w3 at hb3 f0 f1 HV1 ⊢
     clear hB hb2
     generalize w2.heap.size = F1 at *
     clear w2
     refine HKX.out _ _ ?_
     clear HKX
     go_wp2_with fail
     refine (HUn.out w3 hb3).mono ?_
     rintro r w4 ⟨hq, v2, rfl, hv2⟩
     have hb4 := chain hb3 hq
     replace f0 := cell_keep f0 hq
     replace f1 := cell_keep f1 hq
     replace HV1 := Lib.hid (HV1.out.below hq)
     have HV2 := Lib.hid hv2
     obtain ⟨Ac, cc, rfl, -, -, -⟩ := hv2
     clear hq
     rename_i Kx hkx Ky hky
     have HKX := Lib.hid hkx
     clear hkx
     go_wp2_with fail
     have hB : Below w4.heap.size w4 (w4.alloc (.cells #[.int .i64 kc, .int .i64 ka] 37)) := by go_grown
     have g0 : (w4.alloc (.cells #[.int .i64 kc, .int .i64 ka] 37)).cell? ⟨w4.heap.size, 0, none⟩ = some (.int .i64 kc) := by simp [go_sem]
     have g1 : (w4.alloc (.cells #[.int .i64 kc, .int .i64 ka] 37)).cell? ⟨w4.heap.size, 1, none⟩ = some (.int .i64 ka) := by simp [go_sem]
     have hb5 := chain hb4 hB
     replace f0 := cell_keep f0 hB
     replace f1 := cell_keep f1 hB
     replace HV1 := Lib.hid (HV1.out.below hB)
     replace HV2 := Lib.hid (EvsD.keep (D' := All) HV2.out (Same.below hB) (fun _ _ _ => trivial))
     generalize w4.alloc (.cells #[.int .i64 kc, .int .i64 ka] 37) = w5 at hb5 f0 f1 g0 g1 HV1 HV2 ⊢
     clear hB hb4
     generalize w4.heap.size = F2 at *
     clear w4
     refine HKX.out _ _ ?_
     clear HKX
     go_wp2_with fail
     refine (text_any [] [] E E w5 ⟨fun _ => ⟨rfl, rfl⟩, fun h => absurd h HNE0.out⟩).mono ?_
     rintro r w6 ⟨rfl, rfl⟩
     go_wp2_with fail
     refine (sameEvs_any ks _ _ w6 (by omega) HRF.out HV1.out HV2.out).mono ?_
     rintro r w7 ⟨rfl, hq⟩
     have hb7 := chain hb5 hq
     go_wp2_with fail
     go_ret
     exact ⟨rfl, hb7⟩
   ·subst h0
    have HFJ := Lib.hid hfe
    clear hE
    by_cases hjL : j < L
    ·have hlt : (j : Int) < (L : Int) := by omega
     obtain ⟨e, he⟩ : ∃ x, es[j]? = some x := ⟨_, List.getElem?_eq_getElem (by rw [HL.out]; exact hjL)⟩
     obtain ⟨b, off, lv, kv, rfl, -, hc, hi⟩ := (HV.out.below hbr).at he
     have hfe' := HF.out e (mem_of_at he)
     have hcall := wireEvent_any e (evAgg e lv kv) wr ⟨lv, kv, rfl, hi⟩ hfe' (HTT.out.below hbr)
     have HCALL := Lib.hid hcall
     have hnext : (errOf e ≠ 0 ∧ errOf e = RE) ∨ (errOf e = 0 ∧ firstErr (es.drop (j + 1)) = RE) := by
      have h1 := HFJ.out
      rw [firstErr_at he] at h1
      by_cases hz : errOf e = 0
      ·rw [if_neg (fun h => h hz)] at h1; exact .inr ⟨hz, h1⟩
      ·rw [if_pos hz] at h1; exact .inl ⟨hz, h1⟩
     have HNX := Lib.hid hnext
     obtain ⟨A1, n1, A2, n2, rfl, rfl⟩ := hi.forms
     obtain ⟨c0, c1, c2, c3, c4, c5, c6, c7, c8, c9⟩ := hc
     clear hcall hnext he hi hfe hfe'
     go_wp2_with fail
     refine HCALL.out.mono ?_
     rintro r w1 ⟨rfl, hb1⟩
     have hb2 := chain hbr hb1
     clear c0 c1 c2 c3 c4 c5 c6 c7 c8 c9
     obtain ⟨EE, hEE⟩ : ∃ x, errOf e = x := ⟨_, rfl⟩
     have hEE' : wchk (tyErr e.ty) (isName e.label) e = EE := hEE
     rw [hEE']
     rw [hEE] at HNX
     clear hEE hEE' HCALL
     go_wp2_with fail
     go_roundw
     case rel => exact ⟨j + 1, EE, by omega, rfl, by go_num, hb2, HNX⟩
     case measure => simp [intOf]; omega
    ·have hlt : ¬ (j : Int) < (L : Int) := by omega
     have hre : (0 : Int) = RE := by have := HFJ.out; rw [List.drop_eq_nil_of_le (by rw [HL.out]; omega)] at this; exact this
     have hr0 := HL.out
     have h20 : L ≤ 200 := by omega
     clear hjL
     subst hre
     have hWr := wireRef_any es _ wr (HV0.out.below hbr) HF.out (firstErr_all HFE.out) (by rw [hr0]; exact h20)
     rw [hr0] at hWr
     have HWR := Lib.hid hWr
     clear hWr hr0 hfe
     go_wp2_with fail
     refine HWR.out.mono ?_
     rintro r w0 ⟨rfl, hq0⟩
     have hbr0 := chain hbr hq0
     clear hq0 HWR
     go_wp2_with fail
     refine (HWrite.out w0 hbr0).mono ?_
     rintro r w1 ⟨rfl, hq⟩
     have hb1 := chain hbr0 hq
     clear hq
     (first | rw [if_pos rfl] | rw [if_pos trivial])
     go_wp2_with fail
     refine (HRead.out w1 hb1).mono ?_
     rintro r w2 ⟨hq, v1, rfl, hv1⟩
     have hb2 := chain hb1 hq
     have HV1 := Lib.hid hv1
     obtain ⟨Ab, cb, rfl, -, -, -⟩ := hv1
     clear hq
     rename_i Kx hkx Ky hky
     have HKX := Lib.hid hkx
     clear hkx
     go_wp2_with fail
     have hB : Below w2.heap.size w2 (w2.alloc (.cells #[.int .i64 kc, .int .i64 ka] 37)) := by go_grown
     have f0 : (w2.alloc (.cells #[.int .i64 kc, .int .i64 ka] 37)).cell? ⟨w2.heap.size, 0, none⟩ = some (.int .i64 kc) := by simp [go_sem]
     have f1 : (w2.alloc (.cells #[.int .i64 kc, .int .i64 ka] 37)).cell? ⟨w2.heap.size, 1, none⟩ = some (.int .i64 ka) := by simp [go_sem]
     have hb3 := chain hb2 hB
     have hz2 : w.heap.size ≤ w2.heap.size := hb2.size
     replace HV1 := Lib.hid (EvsD.keep (D' := All) HV1.out (Same.below hB) (fun _ _ _ => trivial))
     generalize w2.alloc (.cells #[.int .i64 kc, .int .i64 ka] 37) = w3 at hb3 f0 f1 HV1 ⊢
     clear hB hb2
     generalize w2.heap.size = F1 at *
     clear w2
     refine HKX.out _ _ ?_
     clear HKX
     go_wp2_with fail
     refine (HUn.out w3 hb3).mono ?_
     rintro r w4 ⟨hq, v2, rfl, hv2⟩
     have hb4 := chain hb3 hq
     replace f0 := cell_keep f0 hq
     replace f1 := cell_keep f1 hq
     replace HV1 := Lib.hid (HV1.out.below hq)
     have HV2 := Lib.hid hv2
     obtain ⟨Ac, cc, rfl, -, -, -⟩ := hv2
     clear hq
     rename_i Kx hkx Ky hky
     have HKX := Lib.hid hkx
     clear hkx
     go_wp2_with fail
     have hB : Below w4.heap.size w4 (w4.alloc (.cells #[.int .i64 kc, .int .i64 ka] 37)) := by go_grown
     have g0 : (w4.alloc (.cells #[.int .i64 kc, .int .i64 ka] 37)).cell? ⟨w4.heap.size, 0, none⟩ = some (.int .i64 kc) := by simp [go_sem]
     have g1 : (w4.alloc (.cells #[.int .i64 kc, .int .i64 ka] 37)).cell? ⟨w4.heap.size, 1, none⟩ = some (.int .i64 ka) := by simp [go_sem]
     have hb5 := chain hb4 hB
     replace f0 := cell_keep f0 hB
     replace f1 := cell_keep f1 hB
     replace HV1 := Lib.hid (HV1.out.below hB)
     replace HV2 := Lib.hid (EvsD.keep (D' := All) HV2.out (Same.below hB) (fun _ _ _ => trivial))
     generalize w4.alloc (.cells #[.int .i64 kc, .int .i64 ka] 37) = w5 at hb5 f0 f1 g0 g1 HV1 HV2 ⊢
     clear hB hb4
     generalize w4.heap.size = F2 at *
     clear w4
     refine HKX.out _ _ ?_
     clear HKX
     go_wp2_with fail
     refine (text_any (wireAll es) (wireAll es) 0 0 w5 ⟨fun h => absurd rfl h, fun _ => ⟨rfl, rfl⟩⟩).mono ?_
     rintro r w6 ⟨rfl, rfl⟩
     go_wp2_with fail
     refine (sameEvs_any ks _ _ w6 (by omega) HRF.out HV1.out HV2.out).mono ?_
     rintro r w7 ⟨rfl, hq⟩
     have hb7 := chain hb5 hq
     go_wp2_with fail
     go_ret
     exact ⟨rfl, hb7⟩
end Go.Proofs.YtpidjanngbaiiaaGreatDoor
namespace Go.Proofs.YtpidjanngbaiiaaGreatDoor
set_option maxRecDepth 100000
open Go.ChangeShapes Go.WideShapes Go.ChangeAt Go.RowKit Go.Joins Go.Lib Go.Deep

section
variable {H : Type}
theorem bulkAll_le {ds : List (DataW H)} {d : DataW H} (h : d ∈ ds) : Rows.uptoBulk d ≤ Rows.uptoBulkAll ds := by
 induction ds with
 | nil => simp at h
 | cons a r ih =>
  simp only [Rows.uptoBulkAll]
  rcases List.mem_cons.1 h with rfl | h
  ·omega
  ·have := ih h; omega
theorem bulk_pos (d : DataW H) : 1 ≤ Rows.uptoBulk d := by
 cases d with
 | lit l => cases l <;> simp [Rows.uptoBulk]
 | _ => simp [Rows.uptoBulk]
theorem bulkAll_length (ds : List (DataW H)) : ds.length ≤ Rows.uptoBulkAll ds := by
 induction ds with
 | nil => simp
 | cons a r ih => simp only [Rows.uptoBulkAll, List.length_cons]; have := bulk_pos a; omega
end
section
variable {H : Type} {enc : TypeId × Value → H} {P : Program} {w : World} {base : Nat} {spare : Nat → Bool} {held : Bool}
theorem trod_fields_b {t : TypeId} {fs : Array Field} {fuel : Nat} {cs : List Value} {x : DataW H × List MemPlace} (ht : P.underlying t = some (.struct fs)) (hone : oneCellFields P fs = true) (hC : P.cellsOf t = fs.size) (h : DataW.trod enc P w base spare held fuel t cs = some x) :
  ∃ n, fuel = n + 1 ∧ cs.length = fs.size ∧ ∀ (i : Nat) (f : Field), fs[i]? = some f → ∃ c y, cs[i]? = some c ∧ DataW.trod enc P w base spare held n f.type [c] = some y ∧ Rows.uptoBulk y.1 ≤ Rows.uptoBulk x.1 := by
 obtain ⟨xs, n, rfl, rfl, hl, hlen, hf⟩ := DataW.trod_struct ht h
 refine ⟨n, rfl, by rw [hl, hC], fun i f hi => ?_⟩
 obtain ⟨k1, k2⟩ := hone_of hone i f hi
 have hi' : i < fs.size := (Array.getElem?_eq_some_iff.1 hi).1
 have := hf i f hi
 rw [k1, k2, take1_drop cs i (.bool false) (by omega), List.getElem?_eq_getElem (by omega)] at this
 refine ⟨_, _, by rw [List.getElem?_eq_getElem (by omega)], by rw [← this, List.getD, List.getElem?_eq_getElem (by omega)]; rfl, ?_⟩
 simp only [Rows.uptoBulk]
 exact Nat.le_succ_of_le (bulkAll_le (List.mem_map_of_mem (List.getElem_mem _)))
end
section
variable {H : Type} {enc : TypeId × Value → H} {W : World}
end
end Go.Proofs.YtpidjanngbaiiaaGreatDoor
namespace Go.Proofs.YtpidjanngbaiiaaGreatDoor
open Go.ChangeShapes Go.WideShapes Go.ChangeAt Go.RowKit Go.Joins Go.Lib Go.Deep

section
variable {H : Type} {enc : TypeId × Value → H} {W : World}
end
end Go.Proofs.YtpidjanngbaiiaaGreatDoor
namespace Go.Proofs.YtpidjanngbaiiaaGreatDoor
open Go.ChangeShapes Go.WideShapes Go.ChangeAt Go.RowKit Go.Joins Go.Lib Go.Deep
set_option maxRecDepth 100000
theorem cellsEv : Tryz.prog.cellsOf 32 = 10 := by kernel_rfl
theorem cellsVl : Tryz.prog.cellsOf 26 = 3 := by kernel_rfl
section
variable {H : Type} {enc : TypeId × Value → H} {W : World}
theorem open_val_cells {fuel : Nat} {cs : List Value} {x : DataW H × List MemPlace} (h : DataW.trod enc Tryz.prog W 0 (fun _ => true) true fuel 26 cs = some x) :
  ∃ (s n : Int) (t : Str), cs = [.int .i64 s, .int .i64 n, .string ⟨t.toArray⟩] ∧ (Lit.int .i64 s).wf = true ∧ (Lit.int .i64 n).wf = true ∧ t.length ≤ Rows.uptoBulk x.1 := by
 obtain ⟨n, rfl, hl, hf⟩ := trod_fields_b Tryz.underlying26 (by kernel_rfl) cellsVl h
 obtain ⟨c0, c1, c2, rfl⟩ : ∃ c0 c1 c2, cs = [c0, c1, c2] := by
  match cs, hl with
  | [c0, c1, c2], _ => exact ⟨c0, c1, c2, rfl⟩
 obtain ⟨_, x0, e, h0, b0⟩ := hf 0 _ rfl
 obtain rfl := Option.some.inj e
 obtain ⟨_, x1, e, h1, b1⟩ := hf 1 _ rfl
 obtain rfl := Option.some.inj e
 obtain ⟨_, x2, e, h2, b2⟩ := hf 2 _ rfl
 obtain rfl := Option.some.inj e
 obtain ⟨k, e0, -, hk⟩ := DataW.trod_int Tryz.underlying3 h0
 obtain ⟨m, e1, -, hm⟩ := DataW.trod_int Tryz.underlying2 h1
 obtain ⟨s, e2, hx2, hs⟩ := DataW.trod_string Tryz.underlying9 h2
 simp only [List.cons.injEq, and_true] at e0 e1 e2
 subst e0 e1 e2
 refine ⟨k, m, s.data.toList, by rw [mk_data], hk, hm, Nat.le_trans ?_ b2⟩
 rw [hx2]
 simp only [Rows.uptoBulk]
 omega
theorem wf_in {k : Int} (h : (Lit.int .i64 k).wf = true) : -9223372036854775808 ≤ k ∧ k ≤ 9223372036854775807 := by
 have h' : IntKind.i64.min ≤ k ∧ k ≤ IntKind.i64.max := by simpa [Lit.wf] using h
 exact h'
theorem tysD_any {w : World} {lv kv : Value} {t : Ty} (h1 : IsStrs w lv t.labels) (h2 : IsTys w kv t.kids) : TysD All w kv t.kids := by
 have h : IsTy w (.agg #[.int .i64 t.kind, .int .i64 t.sort, .string ⟨t.name.toArray⟩, lv, kv]) t := ⟨lv, kv, rfl, h1, h2⟩
 obtain ⟨lv', kv', e, d1, d2⟩ := h.toD
 have e' : (#[.int .i64 t.kind, .int .i64 t.sort, .string ⟨t.name.toArray⟩, lv, kv] : Array Value) = #[.int .i64 t.kind, .int .i64 t.sort, .string ⟨t.name.toArray⟩, lv', kv'] := Value.agg.inj e
 have e2 : kv = kv' := by simpa using congrArg (fun a : Array Value => a.toList.getLast?) e'
 rw [e2]
 exact d2.keep (Same.refl _ _) fun _ _ _ => trivial
theorem open_ev_cells {fuel : Nat} {cs : List Value} {x : DataW H × List MemPlace} (h : DataW.trod enc Tryz.prog W 0 (fun _ => true) true fuel 32 cs = some x) (hB : Rows.uptoBulk x.1 ≤ 1048576) :
  ∃ (e : Ev) (lv kv : Value), cs = [.int .i64 e.kind, .int .i64 e.vs, .int .i64 e.vn, .string ⟨e.vt.toArray⟩, .int .i64 e.ty.kind, .int .i64 e.ty.sort, .string ⟨e.ty.name.toArray⟩, lv, kv, .string ⟨e.label.toArray⟩] ∧ EvIn All W e lv kv ∧ EvFit e := by
 obtain ⟨xs, n, rfl, rfl, hl, hlen, hf⟩ := DataW.trod_struct Tryz.underlying32 h
 rw [cellsEv] at hl
 obtain ⟨c0, c1, c2, c3, c4, c5, c6, c7, c8, c9, rfl⟩ : ∃ c0 c1 c2 c3 c4 c5 c6 c7 c8 c9, cs = [c0, c1, c2, c3, c4, c5, c6, c7, c8, c9] := by
  match cs, hl with
  | [c0, c1, c2, c3, c4, c5, c6, c7, c8, c9], _ => exact ⟨c0, c1, c2, c3, c4, c5, c6, c7, c8, c9, rfl⟩
 obtain ⟨y0, y1, y2, y3, rfl⟩ : ∃ y0 y1 y2 y3, xs = [y0, y1, y2, y3] := by
  match xs, hlen with
  | [y0, y1, y2, y3], _ => exact ⟨y0, y1, y2, y3, rfl⟩
 have h0 : DataW.trod enc Tryz.prog W 0 (fun _ => true) true n 3 (([c0, c1, c2, c3, c4, c5, c6, c7, c8, c9].drop 0).take (Tryz.prog.cellsOf 3)) = some y0 := hf 0 _ rfl
 have h1 : DataW.trod enc Tryz.prog W 0 (fun _ => true) true n 26 (([c0, c1, c2, c3, c4, c5, c6, c7, c8, c9].drop 1).take (Tryz.prog.cellsOf 26)) = some y1 := hf 1 _ rfl
 have h2 : DataW.trod enc Tryz.prog W 0 (fun _ => true) true n 30 (([c0, c1, c2, c3, c4, c5, c6, c7, c8, c9].drop 4).take (Tryz.prog.cellsOf 30)) = some y2 := hf 2 _ rfl
 have h3 : DataW.trod enc Tryz.prog W 0 (fun _ => true) true n 9 (([c0, c1, c2, c3, c4, c5, c6, c7, c8, c9].drop 9).take (Tryz.prog.cellsOf 9)) = some y3 := hf 3 _ rfl
 rw [cellsInt] at h0
 rw [cellsVl] at h1
 rw [cellsTy] at h2
 rw [cellsStr] at h3
 simp only [List.drop, List.take] at h0 h1 h2 h3
 have hBT : Rows.uptoBulk (DataW.agg ([y0, y1, y2, y3].map (·.1))) = Rows.uptoBulk y0.1 + (Rows.uptoBulk y1.1 + (Rows.uptoBulk y2.1 + (Rows.uptoBulk y3.1 + 0))) + 1 := by simp only [List.map, Rows.uptoBulk, Rows.uptoBulkAll]
 have hB' : Rows.uptoBulk (DataW.agg ([y0, y1, y2, y3].map (·.1))) ≤ 1048576 := hB
 rw [hBT] at hB'
 obtain ⟨k, e0, -, hk⟩ := DataW.trod_int Tryz.underlying3 h0
 obtain ⟨vs, vn, vt, e1, hvs, hvn, hvt⟩ := open_val_cells h1
 obtain ⟨t, lv, kv, e2, t1, t2, t3⟩ := open_type_cells _ _ _ h2
 obtain ⟨s, e3, hx3, hs⟩ := DataW.trod_string Tryz.underlying9 h3
 simp only [List.cons.injEq, and_true] at e0 e1 e2 e3
 obtain ⟨e10, e11, e12⟩ := e1
 obtain ⟨e20, e21, e22, e23, e24⟩ := e2
 subst e0 e10 e11 e12 e20 e21 e22 e23 e24 e3
 have hsl : s.data.toList.length ≤ Rows.uptoBulk y3.1 := by
  rw [hx3]
  simp only [Rows.uptoBulk]
  omega
 refine ⟨⟨k, vs, vn, vt, t, s.data.toList⟩, c7, c8, by simp only [mk_data], ⟨StrsD.any t1, tysD_any t1 t2⟩, ⟨(wf_in hk).1, (wf_in hk).2, (wf_in hvn).1, (wf_in hvn).2, ?_, t3, ?_⟩⟩
 ·simp only; omega
 ·simp only; omega
theorem open_evs {r : Reach} {b0 : Nat} {v : Value} {d : DataW H} {p : List MemPlace} (hv : Value.okWide Tryz.prog W r b0 22 v) (h : DataW.Trod enc Tryz.prog W 0 (fun _ => true) true 22 v d p) (hB : Rows.uptoBulk d ≤ 1048576) :
  ∃ l : List Ev, EvsD All W v l ∧ l.length ≤ 1048576 ∧ ∀ e ∈ l, EvFit e := by
 obtain ⟨a, n, c, rfl⟩ := okWide_slice Tryz.underlying22 hv
 obtain ⟨fuel, h⟩ := h
 rcases DataW.trod_slice Tryz.underlying22 h with ⟨e, -⟩ | ⟨a', len, cap, elems, rest, m, rfl, e, hx6, -, hl, hm, hlen, hel, -, -⟩
 ·have e' : [Value.slice a n c] = [Value.slice none 0 0] := e
  simp only [List.cons.injEq, and_true] at e'
  rw [e']
  exact ⟨[], evs_nil _ _, by simp, by simp⟩
 ·have e' : [Value.slice a n c] = [Value.slice (some a') len cap] := e
  simp only [List.cons.injEq, and_true] at e'
  rw [e']
  rw [cellsEv] at hel
  have hbk : Rows.uptoBulkAll (elems.map (·.1)) ≤ 1048576 := by
   have : Rows.uptoBulkAll (elems.map (·.1)) ≤ Rows.uptoBulk d := by
    have hx7 := congrArg Prod.fst hx6
    simp only at hx7
    rw [hx7]; simp only [Rows.uptoBulk]; omega
   omega
  have hbl := bulkAll_length (elems.map (·.1))
  simp only [List.length_map] at hbl
  have each : ∀ i, i < len → ∃ (e : Ev), (∃ lv kv, (∀ j, j < 10 → W.cell? ((a'.add (i * 10)).add j) = ([.int .i64 e.kind, .int .i64 e.vs, .int .i64 e.vn, .string ⟨e.vt.toArray⟩, .int .i64 e.ty.kind, .int .i64 e.ty.sort, .string ⟨e.ty.name.toArray⟩, lv, kv, .string ⟨e.label.toArray⟩] : List Value)[j]?) ∧ EvIn All W e lv kv) ∧ EvFit e := by
   intro i hi
   have he := hel i hi
   rw [List.getElem?_eq_getElem (by omega)] at he
   obtain ⟨cs', hc1, hc2⟩ := Option.bind_eq_some_iff.1 he
   obtain ⟨e, lv, kv, rfl, h6, h7⟩ := open_ev_cells hc2 (Nat.le_trans (bulkAll_le (List.mem_map_of_mem (List.getElem_mem _))) hbk)
   exact ⟨e, ⟨lv, kv, (World.cells?_some hc1).2.2, h6⟩, h7⟩
  haveI : Inhabited Ev := ⟨⟨0, 0, 0, [], .mk 0 0 [] [] [], []⟩⟩
  obtain ⟨T, hT⟩ := choose_lt each
  refine ⟨(List.range len).map T, ⟨some a', cap, by simp, by rw [List.length_map, List.length_range]; omega, (fun e => by cases e), fun h0 => ?_⟩, by simp; omega, ?_⟩
  ·simp only [List.length_map, List.length_range] at h0
   obtain ⟨b, off, spot⟩ := a'
   have hspot : spot = none := by
    obtain ⟨⟨_, _, hc, _⟩, _⟩ := hT 0 h0
    have := hc 0 (by omega)
    simp only [Nat.zero_mul] at this
    simpa [Addr.add] using World.cell?_spot this
   subst hspot
   refine ⟨b, off, rfl, trivial, fun i e hi => ?_⟩
   simp only [List.getElem?_map, Option.map_eq_some_iff] at hi
   obtain ⟨j, hj, rfl⟩ := hi
   obtain ⟨hj1, hj2⟩ := List.getElem?_eq_some_iff.1 hj
   simp only [List.length_range, List.getElem_range] at hj1 hj2
   subst hj2
   obtain ⟨⟨lv, kv, hc, h6⟩, _⟩ := hT i hj1
   refine ⟨lv, kv, ?_, h6⟩
   constructor
   all_goals first
    | (have := hc 0 (by omega); rw [Go.WideShapes.add_plain, Go.WideShapes.add_plain] at this; exact this)
    | (have := hc 1 (by omega); rw [Go.WideShapes.add_plain, Go.WideShapes.add_plain] at this; exact this)
    | (have := hc 2 (by omega); rw [Go.WideShapes.add_plain, Go.WideShapes.add_plain] at this; exact this)
    | (have := hc 3 (by omega); rw [Go.WideShapes.add_plain, Go.WideShapes.add_plain] at this; exact this)
    | (have := hc 4 (by omega); rw [Go.WideShapes.add_plain, Go.WideShapes.add_plain] at this; exact this)
    | (have := hc 5 (by omega); rw [Go.WideShapes.add_plain, Go.WideShapes.add_plain] at this; exact this)
    | (have := hc 6 (by omega); rw [Go.WideShapes.add_plain, Go.WideShapes.add_plain] at this; exact this)
    | (have := hc 7 (by omega); rw [Go.WideShapes.add_plain, Go.WideShapes.add_plain] at this; exact this)
    | (have := hc 8 (by omega); rw [Go.WideShapes.add_plain, Go.WideShapes.add_plain] at this; exact this)
    | (have := hc 9 (by omega); rw [Go.WideShapes.add_plain, Go.WideShapes.add_plain] at this; exact this)
  ·intro t ht
   obtain ⟨i, hi, rfl⟩ := List.mem_map.1 ht
   exact (hT i (List.mem_range.1 hi)).2
end
end Go.Proofs.YtpidjanngbaiiaaGreatDoor
