/-
  The reference's Unwire: what its rounds share.
  The reference's Unwire: a round at an event of kind 2.
  The reference's Unwire: a round at an event of kind 3.
-/
import Derived.Test.YtpidjanngbaiiaaGreatDoorM21
import Derived.Test.YtpidjanngbaiiaaGreatDoorM22
import Derived.Test.YtpidjanngbaiiaaGreatDoorTyX2
import Derived.Test.YtpidjanngbaiiaaGreatDoorWrV
namespace Go.Proofs.YtpidjanngbaiiaaGreatDoor
open Go.RowKit Go.Proofs

set_option maxRecDepth 100000
structure FX (w : World) (L : Nat) : Prop where
 f0 : w.cell? ⟨L, 0, none⟩ = some (.int .i64 0)
 f1 : w.cell? ⟨L, 1, none⟩ = some (.int .i64 0)
 z : ∀ j, w.frozen? ⟨L, j, none⟩ = false
theorem FX.keep {w w' : World} {L : Nat} (h : FX w L) (hb : Below w.heap.size w w') : FX w' L :=
 ⟨cell_keep h.f0 hb, cell_keep h.f1 hb, fun j => (hb.frozen (p := ⟨L, j, none⟩) (cell_lt h.f0)).trans (h.z j)⟩
theorem FX.set {w : World} {L : Nat} (h : FX w L) (c a : Int) : ((w.setCell ⟨L, 0, none⟩ (.int .i64 c)).setCell ⟨L, 1, none⟩ (.int .i64 a)).cell? ⟨L, 0, none⟩ = some (.int .i64 c) ∧ ((w.setCell ⟨L, 0, none⟩ (.int .i64 c)).setCell ⟨L, 1, none⟩ (.int .i64 a)).cell? ⟨L, 1, none⟩ = some (.int .i64 a) := by
 constructor
 ·rw [cell_ne (by decide)]; exact cell_eq h.f0
 ·exact cell_eq ((cell_ne (by decide)).trans h.f1)
theorem below2 {w0 w : World} {B L : Nat} (hb : Below B w0 w) (h : B ≤ L) (c a : Int) : Below B w0 ((w.setCell ⟨L, 0, none⟩ (.int .i64 c)).setCell ⟨L, 1, none⟩ (.int .i64 a)) :=
 (hb.setCell (p := ⟨L, 0, none⟩) h _).setCell (p := ⟨L, 1, none⟩) h _
theorem FX.keepB {w w' : World} {L B : Nat} (h : FX w L) (hb : Below B w w') (hB : L < B) : FX w' L :=
 ⟨(hb.cell (p := ⟨L, 0, none⟩) hB).trans h.f0, (hb.cell (p := ⟨L, 1, none⟩) hB).trans h.f1, fun j => (hb.frozen (p := ⟨L, j, none⟩) hB).trans (h.z j)⟩
theorem EvRow.keepB {w w' : World} {base : Nat} {v : Value} {es : List Ev} {xs : List Value} (h : EvRow w base v es xs) (hb : Below w.heap.size w w') : EvRow w' base v es xs := h.below hb
theorem app_ready {wr : World} {base : Nat} {v : Value} {es : List Ev} {xs : List Value} (hrow : EvRow wr base v es xs) (W : World) (hb : Below wr.heap.size wr W) (hbase : base ≤ wr.heap.size) (q : Nat) (hq : W.heap.size = q) (e : Ev) (lv kv : Value) (hin : EvIn (fun k => base ≤ k ∧ v.ownBlock ≠ some k) W e lv kv) :
  Hid ((W.alloc (.cells (evCells e lv kv) 32)).ownsRow base 32 10 v es.length xs) ∧ Hid (∀ j u, (evList e lv kv)[j]? = some u → (W.alloc (.cells (evCells e lv kv) 32)).cell? ((⟨q, 0, none⟩ : Addr).add j) = some u) ∧ Hid (base ≤ (W.alloc (.cells (evCells e lv kv) 32)).heap.size) ∧
  Hid (∀ v' w4, w4.ownsRow base 32 10 v' (es.length + 1) (xs ++ evList e lv kv) → (W.alloc (.cells (evCells e lv kv) 32)).grownBy w4 v.ownBlock → (v'.ownBlock = v.ownBlock ∨ v'.ownBlock = some (W.alloc (.cells (evCells e lv kv) 32)).heap.size) → Below base (W.alloc (.cells (evCells e lv kv) 32)) w4 → EvRow w4 base v' (es ++ [e]) (xs ++ evList e lv kv) ∧ Below base wr w4) := by
 have hb2 : Below W.heap.size W (W.alloc (.cells (evCells e lv kv) 32)) := (Below.refl _ _).alloc (Nat.le_refl _) _
 have hb3 := chain hb hb2
 have row2 := hrow.below hb3
 have hin2 := hin.below hb2
 have hz : W.heap.size ≤ (W.alloc (.cells (evCells e lv kv) 32)).heap.size := hb2.size
 have hz1 := hb.size
 refine ⟨Lib.hid row2.own, Lib.hid ?_, Lib.hid (by omega), Lib.hid fun v' w4 k1 k2 k3 k4 => ⟨row2.more hin2 k1 k2 k3, (hb3.mono hbase).trans k4⟩⟩
 rw [← hq]
 exact ten_new W e lv kv _
def firstLoop : Code → Option Code
 | .seq a b => match firstLoop a with
  | some c => some c
  | none => firstLoop b
 | .block _ c => firstLoop c
 | .loop c => some c
 | _ => none
noncomputable def unwBody : Code := ((Tryz.f10.body).bind firstLoop).getD .skip
def UwNext (l : Str) (w : World) (RES : List Ev × Int × Nat) (gk : Nat) (N : Act → World → Prop) : Prop :=
 ∀ (ov av : Value) (q : Nat) (fs : List Ev) (ys : List Value) (wz : World), q ≤ l.length → fs.length + (gk - 1) = 200 → av = .int .i64 q → Hid (rdEvs l (gk - 1 + 1) q fs = RES) → Hid (FX wz w.heap.size) → EvRow wz (w.heap.size + 1) ov fs ys → Below w.heap.size w wz → w.heap.size < wz.heap.size → ∀ (u2 u7 u8 u9 u10 u11 u12 u13 u14 u15 u16 u17 u18 u19 u20 u21 u22 u23 u24 u25 u26 u27 u28 u29 u30 u31 u32 u33 u34 u35 u36 u37 u38 u39 u40 u41 u42 u43 u44 u45 u46 u47 u48 u49 u50 u51 u52 u53 u54 u55 u56 u57 u58 u59 u60 u61 u62 u63 u64 u65 u66 u67 u68 u69 u70 u71 u72 u73 u74 u75 u76 u77 u78 u79 u80 u81 u82 u83 u84 u85 u86 u87 u88 u89 u90 u91 u92 u93 u94 u95 u96 u97 u98 u99 u100 u101 u102 u103 u104 u105 u106 u107 u108 u109 u110 u111 u112 u113 u114 u115 u116 u117 u118 u119 u120 u121 u122 u123 u124 u125 u126 u127 u128 u129 u130 u131 u132 u133 u134 u135 u136 u137 u138 u139 u140 u141 u142 u143 u144 u145 u146 u147 u148 u149 u150 u151 u152 u153 u154 u155 u156 u157 u158 u159 u160 u161 u162 u163 u164 u165 u166 u167 u168 u169 u170 u171 u172 u173 u174 u175 u176 u177 u178 u179 u180 u181 u182 u183 u184 u185 u186 u187 u188 u189 u190 u191 u192 u193 u194 u195 u196 u197 u198 u199 u200 u201 u202 u203 u204 u205 u206 u207 u208 u209 u210 u211 u212 u213 u214 u215 u216 u217 u218 u219 u220 u221 u222 u223 u224 u225 u226 u227 u228 u229 u230 u231 : Value), N { tmps := #[.string ⟨l.toArray⟩, undef, u2, .pointer (some ⟨w.heap.size, 0, none⟩), .func (.func 35) #[] #[], ov, av, u7, u8, u9, u10, u11, u12, u13, u14, u15, u16, u17, u18, u19, u20, u21, u22, u23, u24, u25, u26, u27, u28, u29, u30, u31, u32, u33, u34, u35, u36, u37, u38, u39, u40, u41, u42, u43, u44, u45, u46, u47, u48, u49, u50, u51, u52, u53, u54, u55, u56, u57, u58, u59, u60, u61, u62, u63, u64, u65, u66, u67, u68, u69, u70, u71, u72, u73, u74, u75, u76, u77, u78, u79, u80, u81, u82, u83, u84, u85, u86, u87, u88, u89, u90, u91, u92, u93, u94, u95, u96, u97, u98, u99, u100, u101, u102, u103, u104, u105, u106, u107, u108, u109, u110, u111, u112, u113, u114, u115, u116, u117, u118, u119, u120, u121, u122, u123, u124, u125, u126, u127, u128, u129, u130, u131, u132, u133, u134, u135, u136, u137, u138, u139, u140, u141, u142, u143, u144, u145, u146, u147, u148, u149, u150, u151, u152, u153, u154, u155, u156, u157, u158, u159, u160, u161, u162, u163, u164, u165, u166, u167, u168, u169, u170, u171, u172, u173, u174, u175, u176, u177, u178, u179, u180, u181, u182, u183, u184, u185, u186, u187, u188, u189, u190, u191, u192, u193, u194, u195, u196, u197, u198, u199, u200, u201, u202, u203, u204, u205, u206, u207, u208, u209, u210, u211, u212, u213, u214, u215, u216, u217, u218, u219, u220, u221, u222, u223, u224, u225, u226, u227, u228, u229, u230, u231, undef, undef], defers := [] } wz
set_option maxRecDepth 100000
set_option maxHeartbeats 32000000 in
theorem uw_k2 (l : Str) (w wr : World) (RES : List Ev × Int × Nat) (hl : l.length ≤ 1048576) (hTr : Tabs wr) (es : List Ev) (xs : List Value) (p gk : Nat) (Av : Option Addr) (cv : Nat) (c : UInt8) (hplt : p < l.length) (hc : l[p]? = some c) (HEV2 : Hid (rdEv l p = rdVal l 2 (p + 1)))
  (HBADR : Hid (∀ q, rdEv l p = .error q → (([] : List Ev), (3 : Int), q) = RES)) (HOKR : Hid (∀ e q, rdEv l p = .ok (e, q) → rdEvs l (gk - 1 + 1) q (es ++ [e]) = RES ∧ q ≤ l.length)) (hK : (c.toNat : Int) = 2) (h2 : ((es.length : Int) == 200) = false) (h200 : ¬ es.length = 200) (hes : es.length + gk = 200)
  (HFX : Hid (FX wr w.heap.size)) (HROW : Hid (EvRow wr (w.heap.size + 1) (.slice Av es.length cv) es xs)) (HBR : Hid (Below w.heap.size w wr)) (hzr : w.heap.size < wr.heap.size) (u2 u7 u8 u9 u10 u11 u12 u13 u14 u15 u16 u17 u18 u19 u20 u21 u22 u23 u24 u25 u26 u27 u28 u29 u30 u31 u32 u33 u34 u35 u36 u37 u38 u39 u40 u41 u42 u43 u44 u45 u46 u47 u48 u49 u50 u51 u52 u53 u54 u55 u56 u57 u58 u59 u60 u61 u62 u63 u64 u65 u66 u67 u68 u69 u70 u71 u72 u73 u74 u75 u76 u77 u78 u79 u80 u81 u82 u83 u84 u85 u86 u87 u88 u89 u90 u91 u92 u93 u94 u95 u96 u97 u98 u99 u100 u101 u102 u103 u104 u105 u106 u107 u108 u109 u110 u111 u112 u113 u114 u115 u116 u117 u118 u119 u120 u121 u122 u123 u124 u125 u126 u127 u128 u129 u130 u131 u132 u133 u134 u135 u136 u137 u138 u139 u140 u141 u142 u143 u144 u145 u146 u147 u148 u149 u150 u151 u152 u153 u154 u155 u156 u157 u158 u159 u160 u161 u162 u163 u164 u165 u166 u167 u168 u169 u170 u171 u172 u173 u174 u175 u176 u177 u178 u179 u180 u181 u182 u183 u184 u185 u186 u187 u188 u189 u190 u191 u192 u193 u194 u195 u196 u197 u198 u199 u200 u201 u202 u203 u204 u205 u206 u207 u208 u209 u210 u211 u212 u213 u214 u215 u216 u217 u218 u219 u220 u221 u222 u223 u224 u225 u226 u227 u228 u229 u230 u231 : Value) (N : Act → World → Prop) (Qx : Exit → Act → World → Prop) (hN : UwNext l w RES gk N)
  (hQ : ∀ a w', bodyPost Tryz.prog Tryz.f10 (fun e w' => Below w.heap.size w w' ∧ ∃ v, e = .returned (.tuple #[v, .agg #[.int .i64 RES.2.1, .int .i64 RES.2.2]]) ∧ EvsD (fun k => w.heap.size ≤ k) w' v RES.1) Exit.ret a w' → Qx Exit.ret a w') :
  Code.wp Tryz.prog unwBody (Exit.then N Qx) { tmps := #[.string ⟨l.toArray⟩, undef, u2, .pointer (some ⟨w.heap.size, 0, none⟩), .func (.func 35) #[] #[], .slice Av es.length cv, .int .i64 p, u7, u8, u9, u10, u11, u12, u13, u14, u15, u16, u17, u18, u19, u20, u21, u22, u23, u24, u25, u26, u27, u28, u29, u30, u31, u32, u33, u34, u35, u36, u37, u38, u39, u40, u41, u42, u43, u44, u45, u46, u47, u48, u49, u50, u51, u52, u53, u54, u55, u56, u57, u58, u59, u60, u61, u62, u63, u64, u65, u66, u67, u68, u69, u70, u71, u72, u73, u74, u75, u76, u77, u78, u79, u80, u81, u82, u83, u84, u85, u86, u87, u88, u89, u90, u91, u92, u93, u94, u95, u96, u97, u98, u99, u100, u101, u102, u103, u104, u105, u106, u107, u108, u109, u110, u111, u112, u113, u114, u115, u116, u117, u118, u119, u120, u121, u122, u123, u124, u125, u126, u127, u128, u129, u130, u131, u132, u133, u134, u135, u136, u137, u138, u139, u140, u141, u142, u143, u144, u145, u146, u147, u148, u149, u150, u151, u152, u153, u154, u155, u156, u157, u158, u159, u160, u161, u162, u163, u164, u165, u166, u167, u168, u169, u170, u171, u172, u173, u174, u175, u176, u177, u178, u179, u180, u181, u182, u183, u184, u185, u186, u187, u188, u189, u190, u191, u192, u193, u194, u195, u196, u197, u198, u199, u200, u201, u202, u203, u204, u205, u206, u207, u208, u209, u210, u211, u212, u213, u214, u215, u216, u217, u218, u219, u220, u221, u222, u223, u224, u225, u226, u227, u228, u229, u230, u231, undef, undef], defers := [] } wr := by
 have hlt : (p : Int) < (l.length : Int) := by omega
 have hby : (⟨l.toArray⟩ : ByteArray)[p]'(by simpa [ByteArray.size] using hplt) = c := byte_at' hc _
 have hp1 : p + 1 ≤ l.length := hplt
 have HN := Lib.hid hN
 have HQ := Lib.hid hQ
 have h : unwBody = Code.seq _ _ := rfl
 rw [h]
 clear h hN hQ hc
 go_step
 rename_i K0 h0
 have H0 := Lib.hid h0
 clear h0
 go_wp2_with fail
 refine H0.out _ _ ?_
 clear H0
 go_step
 go_step
 rename_i K1 h1
 have H1 := Lib.hid h1
 clear h1
 go_wp2_with fail
 refine H1.out _ _ ?_
 clear H1
 go_step
 rename_i K2 h2
 have H2 := Lib.hid h2
 clear h2
 go_wp2_with fail
 refine H2.out _ _ ?_
 clear H2
 go_step
 rename_i K3 h3
 have H3 := Lib.hid h3
 clear h3
 go_wp2_with fail
 refine H3.out _ _ ?_
 clear H3
 go_step
 rename_i K4 h4
 have H4 := Lib.hid h4
 clear h4
 go_wp2_with fail
 refine H4.out _ _ ?_
 clear H4
 go_step
 rename_i K5 h5
 have H5 := Lib.hid h5
 clear h5
 go_wp2_with fail
 refine H5.out _ _ ?_
 clear H5
 cases hv : l[p + 1]? with
 | none =>
  have hn : l.length = p + 1 := by have := List.getElem?_eq_none_iff.1 hv; omega
  have hq := HBADR.out (p + 1) (by rw [HEV2.out]; unfold rdVal; rw [hv])
  have HRES := Lib.hid hq
  have t0 : ((p : Int) + 1 == (l.length : Int)) = true := by rw [beq_iff_eq]; omega
  clear hq hv hn HBADR HOKR HEV2
  go_wp2_with fail
  refine (wbad_any (p + 1) _).mono ?_
  rintro r w5 ⟨rfl, hb5⟩
  have hb6 : Below wr.heap.size wr w5 := chain (by go_grown) hb5
  have FX5 := HFX.out.keep hb6
  have B5 := chain HBR.out (hb6)
  clear hb5 hb6
  obtain ⟨f0, f1, fz⟩ := id FX5
  go_wp2_with fail
  obtain ⟨y0, y1⟩ := FX5.set 3 (p + 1)
  have B6 := below2 B5 (Nat.le_refl _) 3 (p + 1)
  generalize (w5.setCell ⟨w.heap.size, 0, none⟩ (.int .i64 3)).setCell ⟨w.heap.size, 1, none⟩ (.int .i64 (p + 1)) = w6 at y0 y1 B6 ⊢
  refine HQ.out _ _ ?_
  rw [← HRES.out]
  exact bodyPost_ret (v := .tuple #[.slice none 0 0, .agg #[.int .i64 3, .int .i64 (p + 1)]]) (by simp [results, Tryz.results10, go_sem, y0, y1]) rfl ⟨B6, _, rfl, evs_nil _ _⟩
 | some v =>
  have hp2 : p + 1 < l.length := at_lt hv
  have t0 : ((p : Int) + 1 == (l.length : Int)) = false := by rw [beq_eq_false_iff_ne]; omega
  have hby2 : (⟨l.toArray⟩ : ByteArray)[p + 1]'(by simpa [ByteArray.size] using hp2) = v := byte_at' hv _
  have hv256 : v.toNat < 256 := v.toNat_lt
  by_cases hvx : v.toNat < 1 ∨ 3 < v.toNat
  ·have hq := HBADR.out (p + 1) (by rw [HEV2.out]; unfold rdVal; rw [hv]; simp only; rw [if_neg (by omega), if_neg (by omega), if_neg (by omega)])
   have HRES := Lib.hid hq
   clear hq hv HBADR HOKR HEV2
   rcases hvx with hvx | hvx
   ·have hV : (v.toNat : Int) = 0 := by omega
    clear hvx hv256
    go_wp2_with fail
    refine (wbad_any (p + 1) _).mono ?_
    rintro r w5 ⟨rfl, hb5⟩
    have hb6 : Below wr.heap.size wr w5 := chain (by go_grown) hb5
    have FX5 := HFX.out.keep hb6
    have B5 := chain HBR.out (hb6)
    clear hb5 hb6
    obtain ⟨f0, f1, fz⟩ := id FX5
    go_wp2_with fail
    obtain ⟨y0, y1⟩ := FX5.set 3 (p + 1)
    have B6 := below2 B5 (Nat.le_refl _) 3 (p + 1)
    generalize (w5.setCell ⟨w.heap.size, 0, none⟩ (.int .i64 3)).setCell ⟨w.heap.size, 1, none⟩ (.int .i64 (p + 1)) = w6 at y0 y1 B6 ⊢
    refine HQ.out _ _ ?_
    rw [← HRES.out]
    exact bodyPost_ret (v := .tuple #[.slice none 0 0, .agg #[.int .i64 3, .int .i64 (p + 1)]]) (by simp [results, Tryz.results10, go_sem, y0, y1]) rfl ⟨B6, _, rfl, evs_nil _ _⟩
   ·obtain ⟨V, hV⟩ : ∃ V : Int, (v.toNat : Int) = V := ⟨_, rfl⟩
    have v1 : ¬ V < 1 := by omega
    have v3 : 3 < V := by omega
    have hwv : wrap64 V = V := by unfold wrap64; omega
    clear hvx hv256
    go_wp2_with fail
    refine (wbad_any (p + 1) _).mono ?_
    rintro r w5 ⟨rfl, hb5⟩
    have hb6 : Below wr.heap.size wr w5 := chain (by go_grown) hb5
    have FX5 := HFX.out.keep hb6
    have B5 := chain HBR.out (hb6)
    clear hb5 hb6
    obtain ⟨f0, f1, fz⟩ := id FX5
    go_wp2_with fail
    obtain ⟨y0, y1⟩ := FX5.set 3 (p + 1)
    have B6 := below2 B5 (Nat.le_refl _) 3 (p + 1)
    generalize (w5.setCell ⟨w.heap.size, 0, none⟩ (.int .i64 3)).setCell ⟨w.heap.size, 1, none⟩ (.int .i64 (p + 1)) = w6 at y0 y1 B6 ⊢
    refine HQ.out _ _ ?_
    rw [← HRES.out]
    exact bodyPost_ret (v := .tuple #[.slice none 0 0, .agg #[.int .i64 3, .int .i64 (p + 1)]]) (by simp [results, Tryz.results10, go_sem, y0, y1]) rfl ⟨B6, _, rfl, evs_nil _ _⟩
  ·by_cases hv2 : v.toNat = 2
   ·have hV : (v.toNat : Int) = 2 := by omega
    have HEV3 : Hid (rdEv l p = (match l[p + 1 + 1]? with
      | none => .error (p + 1 + 1)
      | some c' => if 1 < c'.toNat then .error (p + 1 + 1) else .ok (⟨2, 2, c'.toNat, [], zeroTy, []⟩, p + 1 + 2))) := Lib.hid (by rw [HEV2.out]; unfold rdVal; rw [hv]; simp only; rw [if_neg (by omega), if_pos hv2]; rfl)
    clear hv2 hvx HEV2 hv hv256
    go_step
    rename_i K6 h6
    have H6 := Lib.hid h6
    clear h6
    go_wp2_with fail
    refine H6.out _ _ ?_
    clear H6
    cases hd : l[p + 1 + 1]? with
    | none =>
     have hq := HBADR.out (p + 1 + 1) (by rw [HEV3.out, hd])
     have HRES := Lib.hid hq
     have t1 : ((p : Int) + 1 + 1 == (l.length : Int)) = true := by have := List.getElem?_eq_none_iff.1 hd; rw [beq_iff_eq]; omega
     clear hq hd HBADR HOKR HEV3
     go_wp2_with fail
     refine (wbad_any (p + 1 + 1) _).mono ?_
     rintro r w5 ⟨rfl, hb5⟩
     have hb6 : Below wr.heap.size wr w5 := chain (by go_grown) hb5
     have FX5 := HFX.out.keep hb6
     have B5 := chain HBR.out (hb6)
     clear hb5 hb6
     obtain ⟨f0, f1, fz⟩ := id FX5
     go_wp2_with fail
     obtain ⟨y0, y1⟩ := FX5.set 3 (p + 1 + 1)
     have B6 := below2 B5 (Nat.le_refl _) 3 (p + 1 + 1)
     generalize (w5.setCell ⟨w.heap.size, 0, none⟩ (.int .i64 3)).setCell ⟨w.heap.size, 1, none⟩ (.int .i64 (p + 1 + 1)) = w6 at y0 y1 B6 ⊢
     refine HQ.out _ _ ?_
     rw [← HRES.out]
     exact bodyPost_ret (v := .tuple #[.slice none 0 0, .agg #[.int .i64 3, .int .i64 (p + 1 + 1)]]) (by simp [results, Tryz.results10, go_sem, y0, y1]) rfl ⟨B6, _, rfl, evs_nil _ _⟩
    | some d =>
     have hp3 : p + 1 + 1 < l.length := at_lt hd
     have t1 : ((p : Int) + 1 + 1 == (l.length : Int)) = false := by rw [beq_eq_false_iff_ne]; omega
     have hby3 : (⟨l.toArray⟩ : ByteArray)[p + 1 + 1]'(by simpa [ByteArray.size] using hp3) = d := byte_at' hd _
     have hd256 : d.toNat < 256 := d.toNat_lt
     by_cases hd1 : 1 < d.toNat
     ·have hq := HBADR.out (p + 1 + 1) (by rw [HEV3.out, hd]; simp only; rw [if_pos hd1])
      have HRES := Lib.hid hq
      obtain ⟨D, hD⟩ : ∃ D : Int, (d.toNat : Int) = D := ⟨_, rfl⟩
      have d1 : 1 < D := by omega
      clear hq hd HBADR HOKR HEV3 hd1 hd256
      go_wp2_with fail
      refine (wbad_any (p + 1 + 1) _).mono ?_
      rintro r w5 ⟨rfl, hb5⟩
      have hb6 : Below wr.heap.size wr w5 := chain (by go_grown) hb5
      have FX5 := HFX.out.keep hb6
      have B5 := chain HBR.out (hb6)
      clear hb5 hb6
      obtain ⟨f0, f1, fz⟩ := id FX5
      go_wp2_with fail
      obtain ⟨y0, y1⟩ := FX5.set 3 (p + 1 + 1)
      have B6 := below2 B5 (Nat.le_refl _) 3 (p + 1 + 1)
      generalize (w5.setCell ⟨w.heap.size, 0, none⟩ (.int .i64 3)).setCell ⟨w.heap.size, 1, none⟩ (.int .i64 (p + 1 + 1)) = w6 at y0 y1 B6 ⊢
      refine HQ.out _ _ ?_
      rw [← HRES.out]
      exact bodyPost_ret (v := .tuple #[.slice none 0 0, .agg #[.int .i64 3, .int .i64 (p + 1 + 1)]]) (by simp [results, Tryz.results10, go_sem, y0, y1]) rfl ⟨B6, _, rfl, evs_nil _ _⟩
     ·have hok := HOKR.out _ _ (show rdEv l p = .ok (⟨2, 2, d.toNat, [], zeroTy, []⟩, p + 1 + 2) by rw [HEV3.out, hd]; simp only; rw [if_neg hd1])
      obtain ⟨D, hD⟩ : ∃ D : Int, (d.toNat : Int) = D := ⟨_, rfl⟩
      rw [hD] at hok
      have HOK := Lib.hid hok
      have d1 : ¬ 1 < D := by omega
      have hwd : wrap64 D = D := by unfold wrap64; omega
      clear hok hd HBADR HOKR HEV3 hd1 hd256
      have hbW : Below wr.heap.size wr (wr.alloc (.cells (evCells ⟨2, 2, D, [], zeroTy, []⟩ (.slice none 0 0) (.slice none 0 0)) 32)) := (Below.refl _ _).alloc (Nat.le_refl _) _
      obtain ⟨A1, A2, A3, A4⟩ := app_ready HROW.out _ hbW (by omega) (wr.heap.size + 1) (by simp) ⟨2, 2, D, [], zeroTy, []⟩ (.slice none 0 0) (.slice none 0 0) ⟨no_strs' _ _, no_tys _ _⟩
      clear hbW
      go_wp2_with (at_builtin; go_loud (refine wpList_app rt_evs rfl (.tmp 115) (.tmp 117) rfl (w.heap.size + 1) (.slice Av es.length cv) es.length xs rfl A1.out ⟨wr.heap.size + 1, 0, none⟩ 1 1 (evList ⟨2, 2, D, [], zeroTy, []⟩ (.slice none 0 0) (.slice none 0 0)) rfl rfl A2.out (by simp [Value.oneCell']) (by unfold maxLen; omega) (by omega) A3.out ?_; intro v' w4 k1 k2 k3 k4; obtain ⟨row4, hb4⟩ := A4.out v' w4 k1 k2 k3 k4; obtain ⟨Ax, cx, rfl⟩ := own_form k1; clear k1 k2 k3 k4 A1 A2 A3 A4))
      refine HN.out _ _ (p + 1 + 2) (es ++ [⟨2, 2, D, [], zeroTy, []⟩]) _ _ HOK.out.2 (by rw [List.length_append]; simp only [List.length_cons, List.length_nil]; omega) rfl (Lib.hid HOK.out.1) (Lib.hid (HFX.out.keepB hb4 (by omega))) row4 (HBR.out.trans (hb4.mono (by omega))) (by have := hb4.size; omega) ..
   ·by_cases hv1 : v.toNat = 1
    ·have hV : (v.toNat : Int) = 1 := by omega
     have HEV3 : Hid (rdEv l p = (match wnum l (p + 1 + 1) with
      | .error q => .error q
      | .ok x => .ok (⟨2, 1, unzig x.1, [], zeroTy, []⟩, x.2))) := Lib.hid (by rw [HEV2.out]; unfold rdVal; rw [hv]; simp only; rw [if_pos hv1]; cases wnum l (p + 1 + 1) <;> rfl)
     clear hv1 hv2 hvx HEV2 hv hv256
     go_step
     rename_i K6 h6
     have H6 := Lib.hid h6
     clear h6
     go_wp2_with fail
     refine H6.out _ _ ?_
     clear H6
     go_step
     rename_i K7 h7
     have H7 := Lib.hid h7
     clear h7
     go_wp2_with fail
     refine H7.out _ _ ?_
     clear H7
     have hnum := refNum_any l (p + 1 + 1) (wr.alloc (.cells (evCells ⟨2, 1, 0, [], zeroTy, []⟩ (.slice none 0 0) (.slice none 0 0)) 32)) hl (by omega)
     rw [← wnum_agree l (p + 1 + 1) (by omega)] at hnum
     have HNUM := Lib.hid hnum
     have hbW : Below wr.heap.size wr (wr.alloc (.cells (evCells ⟨2, 1, 0, [], zeroTy, []⟩ (.slice none 0 0) (.slice none 0 0)) 32)) := (Below.refl _ _).alloc (Nat.le_refl _) _
     have HX := Lib.hid (XBox.new wr ⟨2, 1, 0, [], zeroTy, []⟩ (.slice none 0 0) (.slice none 0 0))
     have HBW := Lib.hid hbW
     clear hnum hbW
     cases hq : wnum l (p + 1 + 1) with
     | error q =>
      rw [hq] at HNUM HEV3
      have hq := HBADR.out q HEV3.out
      have HRES := Lib.hid hq
      clear hq HBADR HOKR HEV3
      go_step
      rename_i K8 h8
      have H8 := Lib.hid h8
      clear h8
      go_wp2_with fail
      refine HNUM.out.mono ?_
      rintro r w5 ⟨rfl, hb5⟩
      have X5 := HX.out.keep hb5
      have hbr5 := chain HBW.out hb5
      have HWZ : Hid (wr.heap.size < w5.heap.size) := Lib.hid (by have := hb5.size; simp only [World.size_alloc] at this; omega)
      have FX5 := HFX.out.keep hbr5
      have B5 := chain HBR.out hbr5
      clear HNUM HX HBW hb5
      simp only [numTup]
      go_wp2_with fail
      refine H8.out _ _ ?_
      clear H8
      go_wp2_with fail
      refine (wbad_any q _).mono ?_
      rintro r w6 ⟨rfl, hb6⟩
      have FX6 := FX5.keep hb6
      have B6 := chain B5 hb6
      clear hb6
      obtain ⟨f0, f1, fz⟩ := id FX6
      go_wp2_with fail
      obtain ⟨y0, y1⟩ := FX6.set 3 q
      have B7 := below2 B6 (Nat.le_refl _) 3 q
      generalize (w6.setCell ⟨w.heap.size, 0, none⟩ (.int .i64 3)).setCell ⟨w.heap.size, 1, none⟩ (.int .i64 q) = w7 at y0 y1 B7 ⊢
      refine HQ.out _ _ ?_
      rw [← HRES.out]
      exact bodyPost_ret (v := .tuple #[.slice none 0 0, .agg #[.int .i64 3, .int .i64 q]]) (by simp [results, Tryz.results10, go_sem, y0, y1]) rfl ⟨B7, _, rfl, evs_nil _ _⟩
     | ok x =>
      obtain ⟨n, e⟩ := x
      have hn64 := wnum_lt hq
      have hne := wnum_le hq
      rw [hq] at HNUM HEV3
      have hok := HOKR.out _ _ HEV3.out
      have HOK := Lib.hid hok
      clear hq hok HBADR HOKR HEV3
      go_step
      rename_i K8 h8
      have H8 := Lib.hid h8
      clear h8
      go_wp2_with fail
      refine HNUM.out.mono ?_
      rintro r w5 ⟨rfl, hb5⟩
      have X5 := HX.out.keep hb5
      have hbr5 := chain HBW.out hb5
      have HWZ : Hid (wr.heap.size < w5.heap.size) := Lib.hid (by have := hb5.size; simp only [World.size_alloc] at this; omega)
      have FX5 := HFX.out.keep hbr5
      have B5 := chain HBR.out hbr5
      clear HNUM HX HBW hb5
      simp only [numTup]
      go_wp2_with fail
      refine H8.out _ _ ?_
      clear H8
      have e0 : ¬ (e : Int) < 0 := by omega
      go_step
      rename_i K9 h9
      have H9 := Lib.hid h9
      clear h9
      go_wp2_with fail
      refine H9.out _ _ ?_
      clear H9
      obtain ⟨x0, x1, x2, x3, x4, x5, x6, x7, x8, x9⟩ := X5.c.box
      have xf := X5.fr
      by_cases hm : n % 2 = 1
      ·have hmi : ((n : Int) % 2 == 1) = true := by rw [beq_iff_eq]; omega
       have hU : unzig n = -((n : Int) / 2) - 1 := by unfold unzig; rw [if_pos hm]; omega
       rw [hU] at HOK
       have HB6 := (hbr5.setCell (p := ⟨wr.heap.size, 2, none⟩) (Nat.le_refl _) (.int .i64 ((n : Int) / 2))).setCell (p := ⟨wr.heap.size, 2, none⟩) (Nat.le_refl _) (.int .i64 (-((n : Int) / 2) - 1))
       obtain ⟨A1, A2, A3, A4⟩ := app_ready HROW.out _ HB6 (by omega) w5.heap.size (by simp only [World.size_setCell]) ⟨2, 1, -((n : Int) / 2) - 1, [], zeroTy, []⟩ (.slice none 0 0) (.slice none 0 0) ⟨no_strs' _ _, no_tys _ _⟩
       clear hm hU HB6
       go_wp2_with (at_builtin; go_loud (refine wpList_app rt_evs rfl (.tmp 156) (.tmp 158) rfl (w.heap.size + 1) (.slice Av es.length cv) es.length xs rfl A1.out ⟨w5.heap.size, 0, none⟩ 1 1 (evList ⟨2, 1, -((n : Int) / 2) - 1, [], zeroTy, []⟩ (.slice none 0 0) (.slice none 0 0)) rfl rfl A2.out (by simp [Value.oneCell']) (by unfold maxLen; omega) (by omega) A3.out ?_; intro v' w4 k1 k2 k3 k4; obtain ⟨row4, hb4⟩ := A4.out v' w4 k1 k2 k3 k4; obtain ⟨Ax, cx, rfl⟩ := own_form k1; clear k1 k2 k3 k4 A1 A2 A3 A4))
       refine HN.out _ _ (e) (es ++ [⟨2, 1, -((n : Int) / 2) - 1, [], zeroTy, []⟩]) _ _ HOK.out.2 (by rw [List.length_append]; simp only [List.length_cons, List.length_nil]; omega) rfl (Lib.hid HOK.out.1) (Lib.hid (HFX.out.keepB hb4 (by omega))) row4 (HBR.out.trans (hb4.mono (by omega))) (by have := hb4.size; omega) ..
      ·have hmi : ((n : Int) % 2 == 1) = false := by rw [beq_eq_false_iff_ne]; omega
       have hU : unzig n = (n : Int) / 2 := by unfold unzig; rw [if_neg hm]; omega
       rw [hU] at HOK
       have HB6 := hbr5.setCell (p := ⟨wr.heap.size, 2, none⟩) (Nat.le_refl _) (.int .i64 ((n : Int) / 2))
       obtain ⟨A1, A2, A3, A4⟩ := app_ready HROW.out _ HB6 (by omega) w5.heap.size (by simp only [World.size_setCell]) ⟨2, 1, (n : Int) / 2, [], zeroTy, []⟩ (.slice none 0 0) (.slice none 0 0) ⟨no_strs' _ _, no_tys _ _⟩
       clear hm hU HB6
       go_wp2_with (at_builtin; go_loud (refine wpList_app rt_evs rfl (.tmp 156) (.tmp 158) rfl (w.heap.size + 1) (.slice Av es.length cv) es.length xs rfl A1.out ⟨w5.heap.size, 0, none⟩ 1 1 (evList ⟨2, 1, (n : Int) / 2, [], zeroTy, []⟩ (.slice none 0 0) (.slice none 0 0)) rfl rfl A2.out (by simp [Value.oneCell']) (by unfold maxLen; omega) (by omega) A3.out ?_; intro v' w4 k1 k2 k3 k4; obtain ⟨row4, hb4⟩ := A4.out v' w4 k1 k2 k3 k4; obtain ⟨Ax, cx, rfl⟩ := own_form k1; clear k1 k2 k3 k4 A1 A2 A3 A4))
       refine HN.out _ _ (e) (es ++ [⟨2, 1, (n : Int) / 2, [], zeroTy, []⟩]) _ _ HOK.out.2 (by rw [List.length_append]; simp only [List.length_cons, List.length_nil]; omega) rfl (Lib.hid HOK.out.1) (Lib.hid (HFX.out.keepB hb4 (by omega))) row4 (HBR.out.trans (hb4.mono (by omega))) (by have := hb4.size; omega) ..
    ·have hV : (v.toNat : Int) = 3 := by omega
     have HEV3 : Hid (rdEv l p = (match rtext l (p + 1 + 1) with
      | .error q => .error q
      | .ok x => if vchk 3 0 x.1 = 0 then .ok (⟨2, 3, 0, x.1, zeroTy, []⟩, x.2) else .error (p + 1 + 1))) := Lib.hid (by rw [HEV2.out]; unfold rdVal; rw [hv]; simp only; rw [if_neg (by omega), if_neg (by omega), if_pos (by omega)]; cases rtext l (p + 1 + 1) <;> rfl)
     clear hv1 hv2 hvx HEV2 hv hv256
     go_step
     rename_i K6 h6
     have H6 := Lib.hid h6
     clear h6
     go_wp2_with fail
     refine H6.out _ _ ?_
     clear H6
     go_step
     rename_i K7 h7
     have H7 := Lib.hid h7
     clear h7
     go_wp2_with fail
     refine H7.out _ _ ?_
     clear H7
     have hnum := refNum_any l (p + 1 + 1) (wr.alloc (.cells (evCells ⟨2, 3, 0, [], zeroTy, []⟩ (.slice none 0 0) (.slice none 0 0)) 32)) hl (by omega)
     rw [← wnum_agree l (p + 1 + 1) (by omega)] at hnum
     have HNUM := Lib.hid hnum
     have hbW : Below wr.heap.size wr (wr.alloc (.cells (evCells ⟨2, 3, 0, [], zeroTy, []⟩ (.slice none 0 0) (.slice none 0 0)) 32)) := (Below.refl _ _).alloc (Nat.le_refl _) _
     have HX := Lib.hid (XBox.new wr ⟨2, 3, 0, [], zeroTy, []⟩ (.slice none 0 0) (.slice none 0 0))
     have HBW := Lib.hid hbW
     clear hnum hbW
     cases hq : wnum l (p + 1 + 1) with
     | error q =>
      rw [hq] at HNUM
      have hrt : rtext l (p + 1 + 1) = .error q := by unfold rtext; rw [hq]
      have hq := HBADR.out q (by rw [HEV3.out, hrt])
      have HRES := Lib.hid hq
      clear hq hrt HBADR HOKR HEV3
      go_step
      rename_i K8 h8
      have H8 := Lib.hid h8
      clear h8
      go_wp2_with fail
      refine HNUM.out.mono ?_
      rintro r w5 ⟨rfl, hb5⟩
      have X5 := HX.out.keep hb5
      have hbr5 := chain HBW.out hb5
      have HWZ : Hid (wr.heap.size < w5.heap.size) := Lib.hid (by have := hb5.size; simp only [World.size_alloc] at this; omega)
      have FX5 := HFX.out.keep hbr5
      have B5 := chain HBR.out hbr5
      clear HNUM HX HBW hb5
      simp only [numTup]
      go_wp2_with fail
      refine H8.out _ _ ?_
      clear H8
      go_wp2_with fail
      refine (wbad_any q _).mono ?_
      rintro r w6 ⟨rfl, hb6⟩
      have FX6 := FX5.keep hb6
      have B6 := chain B5 hb6
      clear hb6
      obtain ⟨f0, f1, fz⟩ := id FX6
      go_wp2_with fail
      obtain ⟨y0, y1⟩ := FX6.set 3 q
      have B7 := below2 B6 (Nat.le_refl _) 3 q
      generalize (w6.setCell ⟨w.heap.size, 0, none⟩ (.int .i64 3)).setCell ⟨w.heap.size, 1, none⟩ (.int .i64 q) = w7 at y0 y1 B7 ⊢
      refine HQ.out _ _ ?_
      rw [← HRES.out]
      exact bodyPost_ret (v := .tuple #[.slice none 0 0, .agg #[.int .i64 3, .int .i64 q]]) (by simp [results, Tryz.results10, go_sem, y0, y1]) rfl ⟨B7, _, rfl, evs_nil _ _⟩
     | ok x =>
      obtain ⟨n, e⟩ := x
      have hn64 := wnum_lt hq
      have hne := wnum_le hq
      have hu : IntKind.u64.wrap ((l.length : Int) - (e : Int)) = (l.length : Int) - (e : Int) := Go.IntWalk.u64_in _ (by omega)
      have hu2 : ((l.length : Int) - (e : Int)) % 18446744073709551616 = (l.length : Int) - (e : Int) := by omega
      rw [hq] at HNUM
      go_step
      rename_i K8 h8
      have H8 := Lib.hid h8
      clear h8
      go_wp2_with fail
      refine HNUM.out.mono ?_
      rintro r w5 ⟨rfl, hb5⟩
      have X5 := HX.out.keep hb5
      have hbr5 := chain HBW.out hb5
      have HWZ : Hid (wr.heap.size < w5.heap.size) := Lib.hid (by have := hb5.size; simp only [World.size_alloc] at this; omega)
      have FX5 := HFX.out.keep hbr5
      have B5 := chain HBR.out hbr5
      clear HNUM HX HBW hb5
      simp only [numTup]
      go_wp2_with fail
      refine H8.out _ _ ?_
      clear H8
      have e0 : ¬ (e : Int) < 0 := by omega
      go_step
      rename_i K9 h9
      have H9 := Lib.hid h9
      clear h9
      go_wp2_with fail
      refine H9.out _ _ ?_
      clear H9
      obtain ⟨x0, x1, x2, x3, x4, x5, x6, x7, x8, x9⟩ := X5.c.box
      have xf := X5.fr
      go_step
      rename_i K10 h10
      have H10 := Lib.hid h10
      clear h10
      go_wp2_with fail
      refine H10.out _ _ ?_
      clear H10
      by_cases hbig : l.length - e < n
      ·have hb1 : (l.length : Int) - (e : Int) < (n : Int) := by omega
       have hrt : rtext l (p + 1 + 1) = .error (p + 1 + 1) := by unfold rtext; rw [hq]; simp only; rw [if_pos hbig]
       have hq := HBADR.out (p + 1 + 1) (by rw [HEV3.out, hrt])
       have HRES := Lib.hid hq
       clear hq hrt HBADR HOKR HEV3 hbig
       go_wp2_with fail
       refine (wbad_any (p + 1 + 1) _).mono ?_
       rintro r w6 ⟨rfl, hb6⟩
       have FX6 := FX5.keep hb6
       have B6 := chain B5 hb6
       clear hb6
       obtain ⟨f0, f1, fz⟩ := id FX6
       go_wp2_with fail
       obtain ⟨y0, y1⟩ := FX6.set 3 (p + 1 + 1)
       have B7 := below2 B6 (Nat.le_refl _) 3 (p + 1 + 1)
       generalize (w6.setCell ⟨w.heap.size, 0, none⟩ (.int .i64 3)).setCell ⟨w.heap.size, 1, none⟩ (.int .i64 (p + 1 + 1)) = w7 at y0 y1 B7 ⊢
       refine HQ.out _ _ ?_
       rw [← HRES.out]
       exact bodyPost_ret (v := .tuple #[.slice none 0 0, .agg #[.int .i64 3, .int .i64 (p + 1 + 1)]]) (by simp [results, Tryz.results10, go_sem, y0, y1]) rfl ⟨B7, _, rfl, evs_nil _ _⟩
      ·have hb1 : ¬ (l.length : Int) - (e : Int) < (n : Int) := by omega
       have hrt : rtext l (p + 1 + 1) = .ok ((l.drop e).take n, e + n) := by unfold rtext; rw [hq]; simp only; rw [if_neg hbig]
       rw [hrt] at HEV3
       have hTl : ((l.drop e).take n).length ≤ 1048576 := by simp only [List.length_take, List.length_drop]; omega
       have hex : (⟨l.toArray⟩ : ByteArray).extract e (e + n) = ⟨((l.drop e).take n).toArray⟩ := by
        have := ext_mid l e (e + n)
        rw [Nat.add_sub_cancel_left] at this
        exact this
       have hwn : IntKind.i64.wrap (n : Int) = (n : Int) := Go.IntWalk.i64_in _ (by omega)
       have g1 : ¬ (e : Int) < 0 := by omega
       have g3 : ¬ ((e : Int) + (n : Int)) < (e : Int) := by omega
       have g5 : (e : Int) + (n : Int) ≤ (l.length : Int) := by omega
       have g6 : e + n ≤ l.length := by omega
       clear hrt hbig hq
       generalize (l.drop e).take n = T at HEV3 hTl hex
       go_step
       rename_i K11 h11
       have H11 := Lib.hid h11
       clear h11
       go_wp2_with fail
       refine H11.out _ _ ?_
       clear H11
       go_step
       rename_i K12 h12
       have H12 := Lib.hid h12
       clear h12
       go_wp2_with fail
       refine H12.out _ _ ?_
       clear H12
       go_step
       rename_i K13 h13
       have H13 := Lib.hid h13
       clear h13
       go_wp2_with fail
       refine H13.out _ _ ?_
       clear H13
       have X6 : XBox (w5.setCell ⟨wr.heap.size, 3, none⟩ (.string ⟨T.toArray⟩)) wr.heap.size ⟨2, 3, 0, T, zeroTy, []⟩ (.slice none 0 0) (.slice none 0 0) := X5.set_vt T
       have hbr6 : Below wr.heap.size wr (w5.setCell ⟨wr.heap.size, 3, none⟩ (.string ⟨T.toArray⟩)) := hbr5.setCell (p := ⟨wr.heap.size, 3, none⟩) (Nat.le_refl _) _
       clear X5 hbr5 FX5 B5 x0 x1 x2 x3 x4 x5 x6 x7 x8 x9 xf
       generalize w5.setCell ⟨wr.heap.size, 3, none⟩ (.string ⟨T.toArray⟩) = w6 at X6 hbr6 ⊢
       have hfit : EvFit ⟨2, 3, 0, T, zeroTy, []⟩ := ⟨by simp only; omega, by simp only; omega, by simp only; omega, by simp only; omega, by simp only [List.length_nil]; omega, fit_no, by simp only [List.length_nil]; omega⟩
       have hchk : wchk (tyErr (⟨2, 3, 0, T, zeroTy, []⟩ : Ev).ty) (isName (⟨2, 3, 0, T, zeroTy, []⟩ : Ev).label) ⟨2, 3, 0, T, zeroTy, []⟩ = vchk 3 0 T := by
        show (if (2 : Int) = 2 ∨ (2 : Int) = 3 then vchk 3 0 T else _) = _; rw [if_pos (by decide)]
       have hcall := wireEvent_any ⟨2, 3, 0, T, zeroTy, []⟩ (evAgg ⟨2, 3, 0, T, zeroTy, []⟩ (.slice none 0 0) (.slice none 0 0)) w6 ⟨_, _, rfl, no_strs' _ _, no_tys _ _⟩ hfit (hTr.below hbr6)
       rw [hchk] at hcall
       have HCALL := Lib.hid hcall
       clear hcall hchk hfit
       obtain ⟨x0, x1, x2, x3, x4, x5, x6, x7, x8, x9⟩ := X6.c.box
       have xf := X6.fr
       by_cases hcd : vchk 3 0 T = 0
       ·rw [hcd] at HCALL
        have hok := HOKR.out _ _ (show rdEv l p = .ok (⟨2, 3, 0, T, zeroTy, []⟩, e + n) by rw [HEV3.out]; (try simp only); rw [if_pos hcd])
        have HOK := Lib.hid hok
        clear hok hcd HBADR HOKR HEV3
        go_wp2_with fail
        refine HCALL.out.mono ?_
        rintro r w7 ⟨rfl, hb7⟩
        have X7 := X6.keep hb7
        have hbr7 := chain hbr6 hb7
        clear HCALL X6 hbr6 hb7 x0 x1 x2 x3 x4 x5 x6 x7 x8 x9 xf
        clear w6
        obtain ⟨x0, x1, x2, x3, x4, x5, x6, x7, x8, x9⟩ := X7.c.box
        obtain ⟨A1, A2, A3, A4⟩ := app_ready HROW.out _ hbr7 (by omega) w7.heap.size rfl ⟨2, 3, 0, T, zeroTy, []⟩ (.slice none 0 0) (.slice none 0 0) ⟨no_strs' _ _, no_tys _ _⟩
        go_wp2_with (at_builtin; go_loud (refine wpList_app rt_evs rfl (.tmp 228) (.tmp 230) rfl (w.heap.size + 1) (.slice Av es.length cv) es.length xs rfl A1.out ⟨w7.heap.size, 0, none⟩ 1 1 (evList ⟨2, 3, 0, T, zeroTy, []⟩ (.slice none 0 0) (.slice none 0 0)) rfl rfl A2.out (by simp [Value.oneCell']) (by unfold maxLen; omega) (by omega) A3.out ?_; intro v' w4 k1 k2 k3 k4; obtain ⟨row4, hb4⟩ := A4.out v' w4 k1 k2 k3 k4; obtain ⟨Ax, cx, rfl⟩ := own_form k1; clear k1 k2 k3 k4 A1 A2 A3 A4))
        refine HN.out _ _ (e + n) (es ++ [⟨2, 3, 0, T, zeroTy, []⟩]) _ _ HOK.out.2 (by rw [List.length_append]; simp only [List.length_cons, List.length_nil]; omega) rfl (Lib.hid HOK.out.1) (Lib.hid (HFX.out.keepB hb4 (by omega))) row4 (HBR.out.trans (hb4.mono (by omega))) (by have := hb4.size; omega) ..
       ·have hq := HBADR.out (p + 1 + 1) (by rw [HEV3.out]; (try simp only); rw [if_neg hcd])
        have HRES := Lib.hid hq
        obtain ⟨E, hE⟩ : ∃ E, vchk 3 0 T = E := ⟨_, rfl⟩
        have hE0 : (E != 0) = true := by rw [bne_iff_ne, ← hE]; exact hcd
        rw [hE] at HCALL
        clear hq hcd HBADR HOKR HEV3 hE
        go_wp2_with fail
        refine HCALL.out.mono ?_
        rintro r w7 ⟨rfl, hb7⟩
        have FX5 := HFX.out.keep (chain hbr6 hb7)
        have B5 := chain HBR.out (chain hbr6 hb7)
        clear HCALL X6 hbr6 hb7 x0 x1 x2 x3 x4 x5 x6 x7 x8 x9 xf
        go_wp2_with fail
        refine (wbad_any (p + 1 + 1) _).mono ?_
        rintro r w6 ⟨rfl, hb6⟩
        have FX6 := FX5.keep hb6
        have B6 := chain B5 hb6
        clear hb6
        obtain ⟨f0, f1, fz⟩ := id FX6
        go_wp2_with fail
        obtain ⟨y0, y1⟩ := FX6.set 3 (p + 1 + 1)
        have B7 := below2 B6 (Nat.le_refl _) 3 (p + 1 + 1)
        generalize (w6.setCell ⟨w.heap.size, 0, none⟩ (.int .i64 3)).setCell ⟨w.heap.size, 1, none⟩ (.int .i64 (p + 1 + 1)) = w7 at y0 y1 B7 ⊢
        refine HQ.out _ _ ?_
        rw [← HRES.out]
        exact bodyPost_ret (v := .tuple #[.slice none 0 0, .agg #[.int .i64 3, .int .i64 (p + 1 + 1)]]) (by simp [results, Tryz.results10, go_sem, y0, y1]) rfl ⟨B7, _, rfl, evs_nil _ _⟩
set_option maxRecDepth 100000
set_option maxHeartbeats 32000000 in
theorem uw_k3 (l : Str) (w wr : World) (RES : List Ev × Int × Nat) (hl : l.length ≤ 1048576) (hTr : Tabs wr) (es : List Ev) (xs : List Value) (p gk : Nat) (Av : Option Addr) (cv : Nat) (c : UInt8) (hplt : p < l.length) (hc : l[p]? = some c) (HEV2 : Hid (rdEv l p = rdVal l 3 (p + 1)))
  (HBADR : Hid (∀ q, rdEv l p = .error q → (([] : List Ev), (3 : Int), q) = RES)) (HOKR : Hid (∀ e q, rdEv l p = .ok (e, q) → rdEvs l (gk - 1 + 1) q (es ++ [e]) = RES ∧ q ≤ l.length)) (hK : (c.toNat : Int) = 3) (h2 : ((es.length : Int) == 200) = false) (h200 : ¬ es.length = 200) (hes : es.length + gk = 200)
  (HFX : Hid (FX wr w.heap.size)) (HROW : Hid (EvRow wr (w.heap.size + 1) (.slice Av es.length cv) es xs)) (HBR : Hid (Below w.heap.size w wr)) (hzr : w.heap.size < wr.heap.size) (u2 u7 u8 u9 u10 u11 u12 u13 u14 u15 u16 u17 u18 u19 u20 u21 u22 u23 u24 u25 u26 u27 u28 u29 u30 u31 u32 u33 u34 u35 u36 u37 u38 u39 u40 u41 u42 u43 u44 u45 u46 u47 u48 u49 u50 u51 u52 u53 u54 u55 u56 u57 u58 u59 u60 u61 u62 u63 u64 u65 u66 u67 u68 u69 u70 u71 u72 u73 u74 u75 u76 u77 u78 u79 u80 u81 u82 u83 u84 u85 u86 u87 u88 u89 u90 u91 u92 u93 u94 u95 u96 u97 u98 u99 u100 u101 u102 u103 u104 u105 u106 u107 u108 u109 u110 u111 u112 u113 u114 u115 u116 u117 u118 u119 u120 u121 u122 u123 u124 u125 u126 u127 u128 u129 u130 u131 u132 u133 u134 u135 u136 u137 u138 u139 u140 u141 u142 u143 u144 u145 u146 u147 u148 u149 u150 u151 u152 u153 u154 u155 u156 u157 u158 u159 u160 u161 u162 u163 u164 u165 u166 u167 u168 u169 u170 u171 u172 u173 u174 u175 u176 u177 u178 u179 u180 u181 u182 u183 u184 u185 u186 u187 u188 u189 u190 u191 u192 u193 u194 u195 u196 u197 u198 u199 u200 u201 u202 u203 u204 u205 u206 u207 u208 u209 u210 u211 u212 u213 u214 u215 u216 u217 u218 u219 u220 u221 u222 u223 u224 u225 u226 u227 u228 u229 u230 u231 : Value) (N : Act → World → Prop) (Qx : Exit → Act → World → Prop) (hN : UwNext l w RES gk N)
  (hQ : ∀ a w', bodyPost Tryz.prog Tryz.f10 (fun e w' => Below w.heap.size w w' ∧ ∃ v, e = .returned (.tuple #[v, .agg #[.int .i64 RES.2.1, .int .i64 RES.2.2]]) ∧ EvsD (fun k => w.heap.size ≤ k) w' v RES.1) Exit.ret a w' → Qx Exit.ret a w') :
  Code.wp Tryz.prog unwBody (Exit.then N Qx) { tmps := #[.string ⟨l.toArray⟩, undef, u2, .pointer (some ⟨w.heap.size, 0, none⟩), .func (.func 35) #[] #[], .slice Av es.length cv, .int .i64 p, u7, u8, u9, u10, u11, u12, u13, u14, u15, u16, u17, u18, u19, u20, u21, u22, u23, u24, u25, u26, u27, u28, u29, u30, u31, u32, u33, u34, u35, u36, u37, u38, u39, u40, u41, u42, u43, u44, u45, u46, u47, u48, u49, u50, u51, u52, u53, u54, u55, u56, u57, u58, u59, u60, u61, u62, u63, u64, u65, u66, u67, u68, u69, u70, u71, u72, u73, u74, u75, u76, u77, u78, u79, u80, u81, u82, u83, u84, u85, u86, u87, u88, u89, u90, u91, u92, u93, u94, u95, u96, u97, u98, u99, u100, u101, u102, u103, u104, u105, u106, u107, u108, u109, u110, u111, u112, u113, u114, u115, u116, u117, u118, u119, u120, u121, u122, u123, u124, u125, u126, u127, u128, u129, u130, u131, u132, u133, u134, u135, u136, u137, u138, u139, u140, u141, u142, u143, u144, u145, u146, u147, u148, u149, u150, u151, u152, u153, u154, u155, u156, u157, u158, u159, u160, u161, u162, u163, u164, u165, u166, u167, u168, u169, u170, u171, u172, u173, u174, u175, u176, u177, u178, u179, u180, u181, u182, u183, u184, u185, u186, u187, u188, u189, u190, u191, u192, u193, u194, u195, u196, u197, u198, u199, u200, u201, u202, u203, u204, u205, u206, u207, u208, u209, u210, u211, u212, u213, u214, u215, u216, u217, u218, u219, u220, u221, u222, u223, u224, u225, u226, u227, u228, u229, u230, u231, undef, undef], defers := [] } wr := by
 have hlt : (p : Int) < (l.length : Int) := by omega
 have hby : (⟨l.toArray⟩ : ByteArray)[p]'(by simpa [ByteArray.size] using hplt) = c := byte_at' hc _
 have hp1 : p + 1 ≤ l.length := hplt
 have HN := Lib.hid hN
 have HQ := Lib.hid hQ
 have h : unwBody = Code.seq _ _ := rfl
 rw [h]
 clear h hN hQ hc
 go_step
 rename_i K0 h0
 have H0 := Lib.hid h0
 clear h0
 go_wp2_with fail
 refine H0.out _ _ ?_
 clear H0
 go_step
 go_step
 rename_i K1 h1
 have H1 := Lib.hid h1
 clear h1
 go_wp2_with fail
 refine H1.out _ _ ?_
 clear H1
 go_step
 rename_i K2 h2
 have H2 := Lib.hid h2
 clear h2
 go_wp2_with fail
 refine H2.out _ _ ?_
 clear H2
 go_step
 rename_i K3 h3
 have H3 := Lib.hid h3
 clear h3
 go_wp2_with fail
 refine H3.out _ _ ?_
 clear H3
 go_step
 rename_i K4 h4
 have H4 := Lib.hid h4
 clear h4
 go_wp2_with fail
 refine H4.out _ _ ?_
 clear H4
 go_step
 rename_i K5 h5
 have H5 := Lib.hid h5
 clear h5
 go_wp2_with fail
 refine H5.out _ _ ?_
 clear H5
 cases hv : l[p + 1]? with
 | none =>
  have hn : l.length = p + 1 := by have := List.getElem?_eq_none_iff.1 hv; omega
  have hq := HBADR.out (p + 1) (by rw [HEV2.out]; unfold rdVal; rw [hv])
  have HRES := Lib.hid hq
  have t0 : ((p : Int) + 1 == (l.length : Int)) = true := by rw [beq_iff_eq]; omega
  clear hq hv hn HBADR HOKR HEV2
  go_wp2_with fail
  refine (wbad_any (p + 1) _).mono ?_
  rintro r w5 ⟨rfl, hb5⟩
  have hb6 : Below wr.heap.size wr w5 := chain (by go_grown) hb5
  have FX5 := HFX.out.keep hb6
  have B5 := chain HBR.out (hb6)
  clear hb5 hb6
  obtain ⟨f0, f1, fz⟩ := id FX5
  go_wp2_with fail
  obtain ⟨y0, y1⟩ := FX5.set 3 (p + 1)
  have B6 := below2 B5 (Nat.le_refl _) 3 (p + 1)
  generalize (w5.setCell ⟨w.heap.size, 0, none⟩ (.int .i64 3)).setCell ⟨w.heap.size, 1, none⟩ (.int .i64 (p + 1)) = w6 at y0 y1 B6 ⊢
  refine HQ.out _ _ ?_
  rw [← HRES.out]
  exact bodyPost_ret (v := .tuple #[.slice none 0 0, .agg #[.int .i64 3, .int .i64 (p + 1)]]) (by simp [results, Tryz.results10, go_sem, y0, y1]) rfl ⟨B6, _, rfl, evs_nil _ _⟩
 | some v =>
  have hp2 : p + 1 < l.length := at_lt hv
  have t0 : ((p : Int) + 1 == (l.length : Int)) = false := by rw [beq_eq_false_iff_ne]; omega
  have hby2 : (⟨l.toArray⟩ : ByteArray)[p + 1]'(by simpa [ByteArray.size] using hp2) = v := byte_at' hv _
  have hv256 : v.toNat < 256 := v.toNat_lt
  by_cases hvx : v.toNat < 1 ∨ 3 < v.toNat
  ·have hq := HBADR.out (p + 1) (by rw [HEV2.out]; unfold rdVal; rw [hv]; simp only; rw [if_neg (by omega), if_neg (by omega), if_neg (by omega)])
   have HRES := Lib.hid hq
   clear hq hv HBADR HOKR HEV2
   rcases hvx with hvx | hvx
   ·have hV : (v.toNat : Int) = 0 := by omega
    clear hvx hv256
    go_wp2_with fail
    refine (wbad_any (p + 1) _).mono ?_
    rintro r w5 ⟨rfl, hb5⟩
    have hb6 : Below wr.heap.size wr w5 := chain (by go_grown) hb5
    have FX5 := HFX.out.keep hb6
    have B5 := chain HBR.out (hb6)
    clear hb5 hb6
    obtain ⟨f0, f1, fz⟩ := id FX5
    go_wp2_with fail
    obtain ⟨y0, y1⟩ := FX5.set 3 (p + 1)
    have B6 := below2 B5 (Nat.le_refl _) 3 (p + 1)
    generalize (w5.setCell ⟨w.heap.size, 0, none⟩ (.int .i64 3)).setCell ⟨w.heap.size, 1, none⟩ (.int .i64 (p + 1)) = w6 at y0 y1 B6 ⊢
    refine HQ.out _ _ ?_
    rw [← HRES.out]
    exact bodyPost_ret (v := .tuple #[.slice none 0 0, .agg #[.int .i64 3, .int .i64 (p + 1)]]) (by simp [results, Tryz.results10, go_sem, y0, y1]) rfl ⟨B6, _, rfl, evs_nil _ _⟩
   ·obtain ⟨V, hV⟩ : ∃ V : Int, (v.toNat : Int) = V := ⟨_, rfl⟩
    have v1 : ¬ V < 1 := by omega
    have v3 : 3 < V := by omega
    have hwv : wrap64 V = V := by unfold wrap64; omega
    clear hvx hv256
    go_wp2_with fail
    refine (wbad_any (p + 1) _).mono ?_
    rintro r w5 ⟨rfl, hb5⟩
    have hb6 : Below wr.heap.size wr w5 := chain (by go_grown) hb5
    have FX5 := HFX.out.keep hb6
    have B5 := chain HBR.out (hb6)
    clear hb5 hb6
    obtain ⟨f0, f1, fz⟩ := id FX5
    go_wp2_with fail
    obtain ⟨y0, y1⟩ := FX5.set 3 (p + 1)
    have B6 := below2 B5 (Nat.le_refl _) 3 (p + 1)
    generalize (w5.setCell ⟨w.heap.size, 0, none⟩ (.int .i64 3)).setCell ⟨w.heap.size, 1, none⟩ (.int .i64 (p + 1)) = w6 at y0 y1 B6 ⊢
    refine HQ.out _ _ ?_
    rw [← HRES.out]
    exact bodyPost_ret (v := .tuple #[.slice none 0 0, .agg #[.int .i64 3, .int .i64 (p + 1)]]) (by simp [results, Tryz.results10, go_sem, y0, y1]) rfl ⟨B6, _, rfl, evs_nil _ _⟩
  ·by_cases hv2 : v.toNat = 2
   ·have hV : (v.toNat : Int) = 2 := by omega
    have HEV3 : Hid (rdEv l p = (match l[p + 1 + 1]? with
      | none => .error (p + 1 + 1)
      | some c' => if 1 < c'.toNat then .error (p + 1 + 1) else .ok (⟨3, 2, c'.toNat, [], zeroTy, []⟩, p + 1 + 2))) := Lib.hid (by rw [HEV2.out]; unfold rdVal; rw [hv]; simp only; rw [if_neg (by omega), if_pos hv2]; rfl)
    clear hv2 hvx HEV2 hv hv256
    go_step
    rename_i K6 h6
    have H6 := Lib.hid h6
    clear h6
    go_wp2_with fail
    refine H6.out _ _ ?_
    clear H6
    cases hd : l[p + 1 + 1]? with
    | none =>
     have hq := HBADR.out (p + 1 + 1) (by rw [HEV3.out, hd])
     have HRES := Lib.hid hq
     have t1 : ((p : Int) + 1 + 1 == (l.length : Int)) = true := by have := List.getElem?_eq_none_iff.1 hd; rw [beq_iff_eq]; omega
     clear hq hd HBADR HOKR HEV3
     go_wp2_with fail
     refine (wbad_any (p + 1 + 1) _).mono ?_
     rintro r w5 ⟨rfl, hb5⟩
     have hb6 : Below wr.heap.size wr w5 := chain (by go_grown) hb5
     have FX5 := HFX.out.keep hb6
     have B5 := chain HBR.out (hb6)
     clear hb5 hb6
     obtain ⟨f0, f1, fz⟩ := id FX5
     go_wp2_with fail
     obtain ⟨y0, y1⟩ := FX5.set 3 (p + 1 + 1)
     have B6 := below2 B5 (Nat.le_refl _) 3 (p + 1 + 1)
     generalize (w5.setCell ⟨w.heap.size, 0, none⟩ (.int .i64 3)).setCell ⟨w.heap.size, 1, none⟩ (.int .i64 (p + 1 + 1)) = w6 at y0 y1 B6 ⊢
     refine HQ.out _ _ ?_
     rw [← HRES.out]
     exact bodyPost_ret (v := .tuple #[.slice none 0 0, .agg #[.int .i64 3, .int .i64 (p + 1 + 1)]]) (by simp [results, Tryz.results10, go_sem, y0, y1]) rfl ⟨B6, _, rfl, evs_nil _ _⟩
    | some d =>
     have hp3 : p + 1 + 1 < l.length := at_lt hd
     have t1 : ((p : Int) + 1 + 1 == (l.length : Int)) = false := by rw [beq_eq_false_iff_ne]; omega
     have hby3 : (⟨l.toArray⟩ : ByteArray)[p + 1 + 1]'(by simpa [ByteArray.size] using hp3) = d := byte_at' hd _
     have hd256 : d.toNat < 256 := d.toNat_lt
     by_cases hd1 : 1 < d.toNat
     ·have hq := HBADR.out (p + 1 + 1) (by rw [HEV3.out, hd]; simp only; rw [if_pos hd1])
      have HRES := Lib.hid hq
      obtain ⟨D, hD⟩ : ∃ D : Int, (d.toNat : Int) = D := ⟨_, rfl⟩
      have d1 : 1 < D := by omega
      clear hq hd HBADR HOKR HEV3 hd1 hd256
      go_wp2_with fail
      refine (wbad_any (p + 1 + 1) _).mono ?_
      rintro r w5 ⟨rfl, hb5⟩
      have hb6 : Below wr.heap.size wr w5 := chain (by go_grown) hb5
      have FX5 := HFX.out.keep hb6
      have B5 := chain HBR.out (hb6)
      clear hb5 hb6
      obtain ⟨f0, f1, fz⟩ := id FX5
      go_wp2_with fail
      obtain ⟨y0, y1⟩ := FX5.set 3 (p + 1 + 1)
      have B6 := below2 B5 (Nat.le_refl _) 3 (p + 1 + 1)
      generalize (w5.setCell ⟨w.heap.size, 0, none⟩ (.int .i64 3)).setCell ⟨w.heap.size, 1, none⟩ (.int .i64 (p + 1 + 1)) = w6 at y0 y1 B6 ⊢
      refine HQ.out _ _ ?_
      rw [← HRES.out]
      exact bodyPost_ret (v := .tuple #[.slice none 0 0, .agg #[.int .i64 3, .int .i64 (p + 1 + 1)]]) (by simp [results, Tryz.results10, go_sem, y0, y1]) rfl ⟨B6, _, rfl, evs_nil _ _⟩
     ·have hok := HOKR.out _ _ (show rdEv l p = .ok (⟨3, 2, d.toNat, [], zeroTy, []⟩, p + 1 + 2) by rw [HEV3.out, hd]; simp only; rw [if_neg hd1])
      obtain ⟨D, hD⟩ : ∃ D : Int, (d.toNat : Int) = D := ⟨_, rfl⟩
      rw [hD] at hok
      have HOK := Lib.hid hok
      have d1 : ¬ 1 < D := by omega
      have hwd : wrap64 D = D := by unfold wrap64; omega
      clear hok hd HBADR HOKR HEV3 hd1 hd256
      have hbW : Below wr.heap.size wr (wr.alloc (.cells (evCells ⟨3, 2, D, [], zeroTy, []⟩ (.slice none 0 0) (.slice none 0 0)) 32)) := (Below.refl _ _).alloc (Nat.le_refl _) _
      obtain ⟨A1, A2, A3, A4⟩ := app_ready HROW.out _ hbW (by omega) (wr.heap.size + 1) (by simp) ⟨3, 2, D, [], zeroTy, []⟩ (.slice none 0 0) (.slice none 0 0) ⟨no_strs' _ _, no_tys _ _⟩
      clear hbW
      go_wp2_with (at_builtin; go_loud (refine wpList_app rt_evs rfl (.tmp 115) (.tmp 117) rfl (w.heap.size + 1) (.slice Av es.length cv) es.length xs rfl A1.out ⟨wr.heap.size + 1, 0, none⟩ 1 1 (evList ⟨3, 2, D, [], zeroTy, []⟩ (.slice none 0 0) (.slice none 0 0)) rfl rfl A2.out (by simp [Value.oneCell']) (by unfold maxLen; omega) (by omega) A3.out ?_; intro v' w4 k1 k2 k3 k4; obtain ⟨row4, hb4⟩ := A4.out v' w4 k1 k2 k3 k4; obtain ⟨Ax, cx, rfl⟩ := own_form k1; clear k1 k2 k3 k4 A1 A2 A3 A4))
      refine HN.out _ _ (p + 1 + 2) (es ++ [⟨3, 2, D, [], zeroTy, []⟩]) _ _ HOK.out.2 (by rw [List.length_append]; simp only [List.length_cons, List.length_nil]; omega) rfl (Lib.hid HOK.out.1) (Lib.hid (HFX.out.keepB hb4 (by omega))) row4 (HBR.out.trans (hb4.mono (by omega))) (by have := hb4.size; omega) ..
   ·by_cases hv1 : v.toNat = 1
    ·have hV : (v.toNat : Int) = 1 := by omega
     have HEV3 : Hid (rdEv l p = (match wnum l (p + 1 + 1) with
      | .error q => .error q
      | .ok x => .ok (⟨3, 1, unzig x.1, [], zeroTy, []⟩, x.2))) := Lib.hid (by rw [HEV2.out]; unfold rdVal; rw [hv]; simp only; rw [if_pos hv1]; cases wnum l (p + 1 + 1) <;> rfl)
     clear hv1 hv2 hvx HEV2 hv hv256
     go_step
     rename_i K6 h6
     have H6 := Lib.hid h6
     clear h6
     go_wp2_with fail
     refine H6.out _ _ ?_
     clear H6
     go_step
     rename_i K7 h7
     have H7 := Lib.hid h7
     clear h7
     go_wp2_with fail
     refine H7.out _ _ ?_
     clear H7
     have hnum := refNum_any l (p + 1 + 1) (wr.alloc (.cells (evCells ⟨3, 1, 0, [], zeroTy, []⟩ (.slice none 0 0) (.slice none 0 0)) 32)) hl (by omega)
     rw [← wnum_agree l (p + 1 + 1) (by omega)] at hnum
     have HNUM := Lib.hid hnum
     have hbW : Below wr.heap.size wr (wr.alloc (.cells (evCells ⟨3, 1, 0, [], zeroTy, []⟩ (.slice none 0 0) (.slice none 0 0)) 32)) := (Below.refl _ _).alloc (Nat.le_refl _) _
     have HX := Lib.hid (XBox.new wr ⟨3, 1, 0, [], zeroTy, []⟩ (.slice none 0 0) (.slice none 0 0))
     have HBW := Lib.hid hbW
     clear hnum hbW
     cases hq : wnum l (p + 1 + 1) with
     | error q =>
      rw [hq] at HNUM HEV3
      have hq := HBADR.out q HEV3.out
      have HRES := Lib.hid hq
      clear hq HBADR HOKR HEV3
      go_step
      rename_i K8 h8
      have H8 := Lib.hid h8
      clear h8
      go_wp2_with fail
      refine HNUM.out.mono ?_
      rintro r w5 ⟨rfl, hb5⟩
      have X5 := HX.out.keep hb5
      have hbr5 := chain HBW.out hb5
      have HWZ : Hid (wr.heap.size < w5.heap.size) := Lib.hid (by have := hb5.size; simp only [World.size_alloc] at this; omega)
      have FX5 := HFX.out.keep hbr5
      have B5 := chain HBR.out hbr5
      clear HNUM HX HBW hb5
      simp only [numTup]
      go_wp2_with fail
      refine H8.out _ _ ?_
      clear H8
      go_wp2_with fail
      refine (wbad_any q _).mono ?_
      rintro r w6 ⟨rfl, hb6⟩
      have FX6 := FX5.keep hb6
      have B6 := chain B5 hb6
      clear hb6
      obtain ⟨f0, f1, fz⟩ := id FX6
      go_wp2_with fail
      obtain ⟨y0, y1⟩ := FX6.set 3 q
      have B7 := below2 B6 (Nat.le_refl _) 3 q
      generalize (w6.setCell ⟨w.heap.size, 0, none⟩ (.int .i64 3)).setCell ⟨w.heap.size, 1, none⟩ (.int .i64 q) = w7 at y0 y1 B7 ⊢
      refine HQ.out _ _ ?_
      rw [← HRES.out]
      exact bodyPost_ret (v := .tuple #[.slice none 0 0, .agg #[.int .i64 3, .int .i64 q]]) (by simp [results, Tryz.results10, go_sem, y0, y1]) rfl ⟨B7, _, rfl, evs_nil _ _⟩
     | ok x =>
      obtain ⟨n, e⟩ := x
      have hn64 := wnum_lt hq
      have hne := wnum_le hq
      rw [hq] at HNUM HEV3
      have hok := HOKR.out _ _ HEV3.out
      have HOK := Lib.hid hok
      clear hq hok HBADR HOKR HEV3
      go_step
      rename_i K8 h8
      have H8 := Lib.hid h8
      clear h8
      go_wp2_with fail
      refine HNUM.out.mono ?_
      rintro r w5 ⟨rfl, hb5⟩
      have X5 := HX.out.keep hb5
      have hbr5 := chain HBW.out hb5
      have HWZ : Hid (wr.heap.size < w5.heap.size) := Lib.hid (by have := hb5.size; simp only [World.size_alloc] at this; omega)
      have FX5 := HFX.out.keep hbr5
      have B5 := chain HBR.out hbr5
      clear HNUM HX HBW hb5
      simp only [numTup]
      go_wp2_with fail
      refine H8.out _ _ ?_
      clear H8
      have e0 : ¬ (e : Int) < 0 := by omega
      go_step
      rename_i K9 h9
      have H9 := Lib.hid h9
      clear h9
      go_wp2_with fail
      refine H9.out _ _ ?_
      clear H9
      obtain ⟨x0, x1, x2, x3, x4, x5, x6, x7, x8, x9⟩ := X5.c.box
      have xf := X5.fr
      by_cases hm : n % 2 = 1
      ·have hmi : ((n : Int) % 2 == 1) = true := by rw [beq_iff_eq]; omega
       have hU : unzig n = -((n : Int) / 2) - 1 := by unfold unzig; rw [if_pos hm]; omega
       rw [hU] at HOK
       have HB6 := (hbr5.setCell (p := ⟨wr.heap.size, 2, none⟩) (Nat.le_refl _) (.int .i64 ((n : Int) / 2))).setCell (p := ⟨wr.heap.size, 2, none⟩) (Nat.le_refl _) (.int .i64 (-((n : Int) / 2) - 1))
       obtain ⟨A1, A2, A3, A4⟩ := app_ready HROW.out _ HB6 (by omega) w5.heap.size (by simp only [World.size_setCell]) ⟨3, 1, -((n : Int) / 2) - 1, [], zeroTy, []⟩ (.slice none 0 0) (.slice none 0 0) ⟨no_strs' _ _, no_tys _ _⟩
       clear hm hU HB6
       go_wp2_with (at_builtin; go_loud (refine wpList_app rt_evs rfl (.tmp 156) (.tmp 158) rfl (w.heap.size + 1) (.slice Av es.length cv) es.length xs rfl A1.out ⟨w5.heap.size, 0, none⟩ 1 1 (evList ⟨3, 1, -((n : Int) / 2) - 1, [], zeroTy, []⟩ (.slice none 0 0) (.slice none 0 0)) rfl rfl A2.out (by simp [Value.oneCell']) (by unfold maxLen; omega) (by omega) A3.out ?_; intro v' w4 k1 k2 k3 k4; obtain ⟨row4, hb4⟩ := A4.out v' w4 k1 k2 k3 k4; obtain ⟨Ax, cx, rfl⟩ := own_form k1; clear k1 k2 k3 k4 A1 A2 A3 A4))
       refine HN.out _ _ (e) (es ++ [⟨3, 1, -((n : Int) / 2) - 1, [], zeroTy, []⟩]) _ _ HOK.out.2 (by rw [List.length_append]; simp only [List.length_cons, List.length_nil]; omega) rfl (Lib.hid HOK.out.1) (Lib.hid (HFX.out.keepB hb4 (by omega))) row4 (HBR.out.trans (hb4.mono (by omega))) (by have := hb4.size; omega) ..
      ·have hmi : ((n : Int) % 2 == 1) = false := by rw [beq_eq_false_iff_ne]; omega
       have hU : unzig n = (n : Int) / 2 := by unfold unzig; rw [if_neg hm]; omega
       rw [hU] at HOK
       have HB6 := hbr5.setCell (p := ⟨wr.heap.size, 2, none⟩) (Nat.le_refl _) (.int .i64 ((n : Int) / 2))
       obtain ⟨A1, A2, A3, A4⟩ := app_ready HROW.out _ HB6 (by omega) w5.heap.size (by simp only [World.size_setCell]) ⟨3, 1, (n : Int) / 2, [], zeroTy, []⟩ (.slice none 0 0) (.slice none 0 0) ⟨no_strs' _ _, no_tys _ _⟩
       clear hm hU HB6
       go_wp2_with (at_builtin; go_loud (refine wpList_app rt_evs rfl (.tmp 156) (.tmp 158) rfl (w.heap.size + 1) (.slice Av es.length cv) es.length xs rfl A1.out ⟨w5.heap.size, 0, none⟩ 1 1 (evList ⟨3, 1, (n : Int) / 2, [], zeroTy, []⟩ (.slice none 0 0) (.slice none 0 0)) rfl rfl A2.out (by simp [Value.oneCell']) (by unfold maxLen; omega) (by omega) A3.out ?_; intro v' w4 k1 k2 k3 k4; obtain ⟨row4, hb4⟩ := A4.out v' w4 k1 k2 k3 k4; obtain ⟨Ax, cx, rfl⟩ := own_form k1; clear k1 k2 k3 k4 A1 A2 A3 A4))
       refine HN.out _ _ (e) (es ++ [⟨3, 1, (n : Int) / 2, [], zeroTy, []⟩]) _ _ HOK.out.2 (by rw [List.length_append]; simp only [List.length_cons, List.length_nil]; omega) rfl (Lib.hid HOK.out.1) (Lib.hid (HFX.out.keepB hb4 (by omega))) row4 (HBR.out.trans (hb4.mono (by omega))) (by have := hb4.size; omega) ..
    ·have hV : (v.toNat : Int) = 3 := by omega
     have HEV3 : Hid (rdEv l p = (match rtext l (p + 1 + 1) with
      | .error q => .error q
      | .ok x => if vchk 3 0 x.1 = 0 then .ok (⟨3, 3, 0, x.1, zeroTy, []⟩, x.2) else .error (p + 1 + 1))) := Lib.hid (by rw [HEV2.out]; unfold rdVal; rw [hv]; simp only; rw [if_neg (by omega), if_neg (by omega), if_pos (by omega)]; cases rtext l (p + 1 + 1) <;> rfl)
     clear hv1 hv2 hvx HEV2 hv hv256
     go_step
     rename_i K6 h6
     have H6 := Lib.hid h6
     clear h6
     go_wp2_with fail
     refine H6.out _ _ ?_
     clear H6
     go_step
     rename_i K7 h7
     have H7 := Lib.hid h7
     clear h7
     go_wp2_with fail
     refine H7.out _ _ ?_
     clear H7
     have hnum := refNum_any l (p + 1 + 1) (wr.alloc (.cells (evCells ⟨3, 3, 0, [], zeroTy, []⟩ (.slice none 0 0) (.slice none 0 0)) 32)) hl (by omega)
     rw [← wnum_agree l (p + 1 + 1) (by omega)] at hnum
     have HNUM := Lib.hid hnum
     have hbW : Below wr.heap.size wr (wr.alloc (.cells (evCells ⟨3, 3, 0, [], zeroTy, []⟩ (.slice none 0 0) (.slice none 0 0)) 32)) := (Below.refl _ _).alloc (Nat.le_refl _) _
     have HX := Lib.hid (XBox.new wr ⟨3, 3, 0, [], zeroTy, []⟩ (.slice none 0 0) (.slice none 0 0))
     have HBW := Lib.hid hbW
     clear hnum hbW
     cases hq : wnum l (p + 1 + 1) with
     | error q =>
      rw [hq] at HNUM
      have hrt : rtext l (p + 1 + 1) = .error q := by unfold rtext; rw [hq]
      have hq := HBADR.out q (by rw [HEV3.out, hrt])
      have HRES := Lib.hid hq
      clear hq hrt HBADR HOKR HEV3
      go_step
      rename_i K8 h8
      have H8 := Lib.hid h8
      clear h8
      go_wp2_with fail
      refine HNUM.out.mono ?_
      rintro r w5 ⟨rfl, hb5⟩
      have X5 := HX.out.keep hb5
      have hbr5 := chain HBW.out hb5
      have HWZ : Hid (wr.heap.size < w5.heap.size) := Lib.hid (by have := hb5.size; simp only [World.size_alloc] at this; omega)
      have FX5 := HFX.out.keep hbr5
      have B5 := chain HBR.out hbr5
      clear HNUM HX HBW hb5
      simp only [numTup]
      go_wp2_with fail
      refine H8.out _ _ ?_
      clear H8
      go_wp2_with fail
      refine (wbad_any q _).mono ?_
      rintro r w6 ⟨rfl, hb6⟩
      have FX6 := FX5.keep hb6
      have B6 := chain B5 hb6
      clear hb6
      obtain ⟨f0, f1, fz⟩ := id FX6
      go_wp2_with fail
      obtain ⟨y0, y1⟩ := FX6.set 3 q
      have B7 := below2 B6 (Nat.le_refl _) 3 q
      generalize (w6.setCell ⟨w.heap.size, 0, none⟩ (.int .i64 3)).setCell ⟨w.heap.size, 1, none⟩ (.int .i64 q) = w7 at y0 y1 B7 ⊢
      refine HQ.out _ _ ?_
      rw [← HRES.out]
      exact bodyPost_ret (v := .tuple #[.slice none 0 0, .agg #[.int .i64 3, .int .i64 q]]) (by simp [results, Tryz.results10, go_sem, y0, y1]) rfl ⟨B7, _, rfl, evs_nil _ _⟩
     | ok x =>
      obtain ⟨n, e⟩ := x
      have hn64 := wnum_lt hq
      have hne := wnum_le hq
      have hu : IntKind.u64.wrap ((l.length : Int) - (e : Int)) = (l.length : Int) - (e : Int) := Go.IntWalk.u64_in _ (by omega)
      have hu2 : ((l.length : Int) - (e : Int)) % 18446744073709551616 = (l.length : Int) - (e : Int) := by omega
      rw [hq] at HNUM
      go_step
      rename_i K8 h8
      have H8 := Lib.hid h8
      clear h8
      go_wp2_with fail
      refine HNUM.out.mono ?_
      rintro r w5 ⟨rfl, hb5⟩
      have X5 := HX.out.keep hb5
      have hbr5 := chain HBW.out hb5
      have HWZ : Hid (wr.heap.size < w5.heap.size) := Lib.hid (by have := hb5.size; simp only [World.size_alloc] at this; omega)
      have FX5 := HFX.out.keep hbr5
      have B5 := chain HBR.out hbr5
      clear HNUM HX HBW hb5
      simp only [numTup]
      go_wp2_with fail
      refine H8.out _ _ ?_
      clear H8
      have e0 : ¬ (e : Int) < 0 := by omega
      go_step
      rename_i K9 h9
      have H9 := Lib.hid h9
      clear h9
      go_wp2_with fail
      refine H9.out _ _ ?_
      clear H9
      obtain ⟨x0, x1, x2, x3, x4, x5, x6, x7, x8, x9⟩ := X5.c.box
      have xf := X5.fr
      go_step
      rename_i K10 h10
      have H10 := Lib.hid h10
      clear h10
      go_wp2_with fail
      refine H10.out _ _ ?_
      clear H10
      by_cases hbig : l.length - e < n
      ·have hb1 : (l.length : Int) - (e : Int) < (n : Int) := by omega
       have hrt : rtext l (p + 1 + 1) = .error (p + 1 + 1) := by unfold rtext; rw [hq]; simp only; rw [if_pos hbig]
       have hq := HBADR.out (p + 1 + 1) (by rw [HEV3.out, hrt])
       have HRES := Lib.hid hq
       clear hq hrt HBADR HOKR HEV3 hbig
       go_wp2_with fail
       refine (wbad_any (p + 1 + 1) _).mono ?_
       rintro r w6 ⟨rfl, hb6⟩
       have FX6 := FX5.keep hb6
       have B6 := chain B5 hb6
       clear hb6
       obtain ⟨f0, f1, fz⟩ := id FX6
       go_wp2_with fail
       obtain ⟨y0, y1⟩ := FX6.set 3 (p + 1 + 1)
       have B7 := below2 B6 (Nat.le_refl _) 3 (p + 1 + 1)
       generalize (w6.setCell ⟨w.heap.size, 0, none⟩ (.int .i64 3)).setCell ⟨w.heap.size, 1, none⟩ (.int .i64 (p + 1 + 1)) = w7 at y0 y1 B7 ⊢
       refine HQ.out _ _ ?_
       rw [← HRES.out]
       exact bodyPost_ret (v := .tuple #[.slice none 0 0, .agg #[.int .i64 3, .int .i64 (p + 1 + 1)]]) (by simp [results, Tryz.results10, go_sem, y0, y1]) rfl ⟨B7, _, rfl, evs_nil _ _⟩
      ·have hb1 : ¬ (l.length : Int) - (e : Int) < (n : Int) := by omega
       have hrt : rtext l (p + 1 + 1) = .ok ((l.drop e).take n, e + n) := by unfold rtext; rw [hq]; simp only; rw [if_neg hbig]
       rw [hrt] at HEV3
       have hTl : ((l.drop e).take n).length ≤ 1048576 := by simp only [List.length_take, List.length_drop]; omega
       have hex : (⟨l.toArray⟩ : ByteArray).extract e (e + n) = ⟨((l.drop e).take n).toArray⟩ := by
        have := ext_mid l e (e + n)
        rw [Nat.add_sub_cancel_left] at this
        exact this
       have hwn : IntKind.i64.wrap (n : Int) = (n : Int) := Go.IntWalk.i64_in _ (by omega)
       have g1 : ¬ (e : Int) < 0 := by omega
       have g3 : ¬ ((e : Int) + (n : Int)) < (e : Int) := by omega
       have g5 : (e : Int) + (n : Int) ≤ (l.length : Int) := by omega
       have g6 : e + n ≤ l.length := by omega
       clear hrt hbig hq
       generalize (l.drop e).take n = T at HEV3 hTl hex
       go_step
       rename_i K11 h11
       have H11 := Lib.hid h11
       clear h11
       go_wp2_with fail
       refine H11.out _ _ ?_
       clear H11
       go_step
       rename_i K12 h12
       have H12 := Lib.hid h12
       clear h12
       go_wp2_with fail
       refine H12.out _ _ ?_
       clear H12
       go_step
       rename_i K13 h13
       have H13 := Lib.hid h13
       clear h13
       go_wp2_with fail
       refine H13.out _ _ ?_
       clear H13
       have X6 : XBox (w5.setCell ⟨wr.heap.size, 3, none⟩ (.string ⟨T.toArray⟩)) wr.heap.size ⟨3, 3, 0, T, zeroTy, []⟩ (.slice none 0 0) (.slice none 0 0) := X5.set_vt T
       have hbr6 : Below wr.heap.size wr (w5.setCell ⟨wr.heap.size, 3, none⟩ (.string ⟨T.toArray⟩)) := hbr5.setCell (p := ⟨wr.heap.size, 3, none⟩) (Nat.le_refl _) _
       clear X5 hbr5 FX5 B5 x0 x1 x2 x3 x4 x5 x6 x7 x8 x9 xf
       generalize w5.setCell ⟨wr.heap.size, 3, none⟩ (.string ⟨T.toArray⟩) = w6 at X6 hbr6 ⊢
       have hfit : EvFit ⟨3, 3, 0, T, zeroTy, []⟩ := ⟨by simp only; omega, by simp only; omega, by simp only; omega, by simp only; omega, by simp only [List.length_nil]; omega, fit_no, by simp only [List.length_nil]; omega⟩
       have hchk : wchk (tyErr (⟨3, 3, 0, T, zeroTy, []⟩ : Ev).ty) (isName (⟨3, 3, 0, T, zeroTy, []⟩ : Ev).label) ⟨3, 3, 0, T, zeroTy, []⟩ = vchk 3 0 T := by
        show (if (3 : Int) = 2 ∨ (3 : Int) = 3 then vchk 3 0 T else _) = _; rw [if_pos (by decide)]
       have hcall := wireEvent_any ⟨3, 3, 0, T, zeroTy, []⟩ (evAgg ⟨3, 3, 0, T, zeroTy, []⟩ (.slice none 0 0) (.slice none 0 0)) w6 ⟨_, _, rfl, no_strs' _ _, no_tys _ _⟩ hfit (hTr.below hbr6)
       rw [hchk] at hcall
       have HCALL := Lib.hid hcall
       clear hcall hchk hfit
       obtain ⟨x0, x1, x2, x3, x4, x5, x6, x7, x8, x9⟩ := X6.c.box
       have xf := X6.fr
       by_cases hcd : vchk 3 0 T = 0
       ·rw [hcd] at HCALL
        have hok := HOKR.out _ _ (show rdEv l p = .ok (⟨3, 3, 0, T, zeroTy, []⟩, e + n) by rw [HEV3.out]; (try simp only); rw [if_pos hcd])
        have HOK := Lib.hid hok
        clear hok hcd HBADR HOKR HEV3
        go_wp2_with fail
        refine HCALL.out.mono ?_
        rintro r w7 ⟨rfl, hb7⟩
        have X7 := X6.keep hb7
        have hbr7 := chain hbr6 hb7
        clear HCALL X6 hbr6 hb7 x0 x1 x2 x3 x4 x5 x6 x7 x8 x9 xf
        clear w6
        obtain ⟨x0, x1, x2, x3, x4, x5, x6, x7, x8, x9⟩ := X7.c.box
        obtain ⟨A1, A2, A3, A4⟩ := app_ready HROW.out _ hbr7 (by omega) w7.heap.size rfl ⟨3, 3, 0, T, zeroTy, []⟩ (.slice none 0 0) (.slice none 0 0) ⟨no_strs' _ _, no_tys _ _⟩
        go_wp2_with (at_builtin; go_loud (refine wpList_app rt_evs rfl (.tmp 228) (.tmp 230) rfl (w.heap.size + 1) (.slice Av es.length cv) es.length xs rfl A1.out ⟨w7.heap.size, 0, none⟩ 1 1 (evList ⟨3, 3, 0, T, zeroTy, []⟩ (.slice none 0 0) (.slice none 0 0)) rfl rfl A2.out (by simp [Value.oneCell']) (by unfold maxLen; omega) (by omega) A3.out ?_; intro v' w4 k1 k2 k3 k4; obtain ⟨row4, hb4⟩ := A4.out v' w4 k1 k2 k3 k4; obtain ⟨Ax, cx, rfl⟩ := own_form k1; clear k1 k2 k3 k4 A1 A2 A3 A4))
        refine HN.out _ _ (e + n) (es ++ [⟨3, 3, 0, T, zeroTy, []⟩]) _ _ HOK.out.2 (by rw [List.length_append]; simp only [List.length_cons, List.length_nil]; omega) rfl (Lib.hid HOK.out.1) (Lib.hid (HFX.out.keepB hb4 (by omega))) row4 (HBR.out.trans (hb4.mono (by omega))) (by have := hb4.size; omega) ..
       ·have hq := HBADR.out (p + 1 + 1) (by rw [HEV3.out]; (try simp only); rw [if_neg hcd])
        have HRES := Lib.hid hq
        obtain ⟨E, hE⟩ : ∃ E, vchk 3 0 T = E := ⟨_, rfl⟩
        have hE0 : (E != 0) = true := by rw [bne_iff_ne, ← hE]; exact hcd
        rw [hE] at HCALL
        clear hq hcd HBADR HOKR HEV3 hE
        go_wp2_with fail
        refine HCALL.out.mono ?_
        rintro r w7 ⟨rfl, hb7⟩
        have FX5 := HFX.out.keep (chain hbr6 hb7)
        have B5 := chain HBR.out (chain hbr6 hb7)
        clear HCALL X6 hbr6 hb7 x0 x1 x2 x3 x4 x5 x6 x7 x8 x9 xf
        go_wp2_with fail
        refine (wbad_any (p + 1 + 1) _).mono ?_
        rintro r w6 ⟨rfl, hb6⟩
        have FX6 := FX5.keep hb6
        have B6 := chain B5 hb6
        clear hb6
        obtain ⟨f0, f1, fz⟩ := id FX6
        go_wp2_with fail
        obtain ⟨y0, y1⟩ := FX6.set 3 (p + 1 + 1)
        have B7 := below2 B6 (Nat.le_refl _) 3 (p + 1 + 1)
        generalize (w6.setCell ⟨w.heap.size, 0, none⟩ (.int .i64 3)).setCell ⟨w.heap.size, 1, none⟩ (.int .i64 (p + 1 + 1)) = w7 at y0 y1 B7 ⊢
        refine HQ.out _ _ ?_
        rw [← HRES.out]
        exact bodyPost_ret (v := .tuple #[.slice none 0 0, .agg #[.int .i64 3, .int .i64 (p + 1 + 1)]]) (by simp [results, Tryz.results10, go_sem, y0, y1]) rfl ⟨B7, _, rfl, evs_nil _ _⟩
end Go.Proofs.YtpidjanngbaiiaaGreatDoor
