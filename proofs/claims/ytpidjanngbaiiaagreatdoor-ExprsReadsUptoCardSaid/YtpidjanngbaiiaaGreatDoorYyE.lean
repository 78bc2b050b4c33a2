/-
  BeginExpr: its rounds at an operator and at a closing bracket.
-/
import Derived.Test.YtpidjanngbaiiaaGreatDoorYyD
namespace Go.Proofs.YtpidjanngbaiiaaGreatDoor
open Go.RowKit Go.Proofs

set_option maxRecDepth 100000
noncomputable def beP : Code := ydSnd (beThen (ydSnd (beFst be29)))
noncomputable def beC : Code := ydSnd (beThen (ydSnd (beFst be35)))
theorem YS.yw {w wr : World} {n p P : Nat} {c : Pc} {l : Str} {RES : Yd.Res Ex} {ops : List Yd.Op} {vals : List Ex} {ov vv : Value} {xs : List Value} (h : YS w wr (w.heap.size + 1 + 1 + 1) (w.heap.size + 1 + 1) l RES p n false ops vals ov vv xs) (h2000 : l.length ≤ 2000) (PB : PcBox wr P c) (hP : w.heap.size + 1 + 1 + 1 ≤ P) (hPo : some P ≠ ov.ownBlock) (hPv : some P ≠ vv.ownBlock) : YW w wr n P c ops vals ov vv xs :=
 ⟨h.bi, h.br, h.ok, by have := h.sz; have := h.pl; omega, h.yd, h.xb, h.f0, h.f1, h.fz, h.bl, PB, hP, hPo, hPv⟩
theorem YW.ys {w wr : World} {n p P : Nat} {c : Pc} {l : Str} {RES : Yd.Res Ex} {ops : List Yd.Op} {vals : List Ex} {ov vv : Value} {xs : List Value} (h : YW w wr n P c ops vals ov vv xs) (run : xYR l ops vals n false p RES) (hsz : ops.length + Yd.nBi ops + 1 ≤ p) (pl : p ≤ l.length) : YS w wr (w.heap.size + 1 + 1 + 1) (w.heap.size + 1 + 1) l RES p n false ops vals ov vv xs :=
 ⟨run, h.bi, h.br, h.ok, by have := h.bi; omega, pl, h.yd, h.xb, h.f0, h.f1, h.fz, h.bl⟩
theorem YW.below {w wr w' : World} {n P : Nat} {c : Pc} {ops : List Yd.Op} {vals : List Ex} {ov vv : Value} {xs : List Value} (h : YW w wr n P c ops vals ov vv xs) (hb : Below wr.heap.size wr w') : YW w w' n P c ops vals ov vv xs :=
 ⟨h.bi, h.br, h.ok, h.sz, h.yd.below hb, h.xb.keep hb h.xb.lt, cell_keep h.f0 hb, cell_keep h.f1 hb, fun j => (hb.frozen (p := ⟨w.heap.size + 1, j, none⟩) (cell_lt h.f0)).trans (h.fz j), chain h.bl hb, h.pb.keep hb, h.hP, h.po, h.pv⟩
theorem nbi_step (o : Yd.Op) (r : List Yd.Op) : r.length + Yd.nBi r ≤ (o :: r).length + Yd.nBi (o :: r) := by
 cases o <;> simp only [Yd.nBi, List.length_cons] <;> omega
theorem YS.cut {w w6 : World} {l : Str} {RES : Yd.Res Ex} {p n p' n' N C : Nat} {A : Option Addr} {ops : List Yd.Op} {vals : List Ex} {vv : Value} {xs : List Value} (h : YS w w6 (w.heap.size + 1 + 1 + 1) (w.heap.size + 1 + 1) l RES p n false (.br :: ops) vals (.slice A N C) vv xs)
  (run : xYR l ops vals n' false p' RES) (hn : n = n' + 1) (hp : p < p') (pl : p' ≤ l.length) :
  YS w (w6.setCell ⟨w.heap.size + 1 + 1, 0, none⟩ (.slice A ops.length C)) (w.heap.size + 1 + 1 + 1) (w.heap.size + 1 + 1) l RES p' n' false ops vals (.slice A ops.length C) vv xs := by
 have hN : N = ops.length + 1 := by
  obtain ⟨A', c', e⟩ := own_form h.yd.own
  injection e with e1 e2 e3
  rw [e2, List.length_reverse, List.length_map]; rfl
 subst hN
 have ho := h.yd.own
 have e1 : (((.br :: ops : List Yd.Op).map opStr).reverse) = (ops.map opStr).reverse ++ [opStr .br] := by rw [List.map_cons, List.reverse_cons]
 have e2 : ((ops.map opStr).reverse ++ [opStr .br]).length = ops.length + 1 := by simp
 rw [e1, e2] at ho
 have hc := own_cut ho (m := ops.length) (by omega)
 have e3 : (strsOf ((ops.map opStr).reverse ++ [opStr .br])).take (ops.length * 1) = strsOf (ops.map opStr).reverse := by
  unfold strsOf
  rw [List.map_append, Nat.mul_one]
  exact List.take_left' (by rw [List.length_map, List.length_reverse, List.length_map])
 rw [e3] at hc
 have hs : ∀ (b j : Nat), b < w.heap.size + 1 + 1 → (w6.setCell ⟨w.heap.size + 1 + 1, 0, none⟩ (.slice A ops.length C)).cell? ⟨b, j, none⟩ = w6.cell? ⟨b, j, none⟩ := fun b j hb => World.cell?_setCell_far _ _ _ _ (by show ¬ w.heap.size + 1 + 1 = b; omega)
 refine ⟨run, h.bi, ?_, fun x hx => h.ok x (List.mem_cons_of_mem _ hx), by have := h.sz; simp only [List.length_cons] at this; omega, pl, ?_, h.xb.far (by show ¬ w.heap.size + 1 + 1 = w.heap.size; omega) _, (hs _ _ (by omega)).trans h.f0, (hs _ _ (by omega)).trans h.f1, fun j => by rw [World.frozen?_setCell]; exact h.fz j, h.bl.setCell (by show w.heap.size ≤ w.heap.size + 1 + 1; omega) _⟩
 ·have h1 := h.br
  rw [hn] at h1
  exact Nat.succ.inj h1
 ·refine h.yd.setOps (w' := w6) (.slice A ops.length C) ((ops.map opStr).reverse) ?_ (Nat.le_refl _) (fun k _ _ => rfl) (Or.inl ?_)
  ·rw [List.length_reverse, List.length_map]; exact hc
  ·cases A <;> rfl
set_option maxHeartbeats 8000000 in
theorem be_push (l : Str) (w wr : World) (RES : Yd.Res Ex) (p n : Nat) (ops : List Yd.Op) (vals : List Ex) (ov vv : Value) (xs : List Value) (P : Nat) (c : Pc) (h2000 : l.length ≤ 2000) (Qx : Exit → Act → World → Prop) (hPan : ∀ (e : List PanicEntry) (d : Option Nat) (v : Value) (a : Act) (w : World), Qx (.panic e) (a.put d v) w → Qx (.panic e) a w) (TT : Ex) (EE : Nat) (CC : Int) (AA : Nat) (u2 u3 u12 u13 u14 u15 u16 u17 u18 u19 u20 u21 u22 u23 : Value) (hS : YS w wr (w.heap.size + 1 + 1 + 1) (w.heap.size + 1 + 1) l RES p n false ops vals ov vv xs) (PB : PcBox wr P c) (hP : (w.heap.size + 1 + 1 + 1) ≤ P) (hPo : some P ≠ ov.ownBlock) (hPv : some P ≠ vv.ownBlock) (hN : Hid (∀ (v5 v10 v11 v24 v25 v26 v27 v28 v29 v30 v31 v32 v33 v34 v35 v36 v37 v38 v39 v40 v41 v42 v43 v44 v45 v46 v47 v48 v49 v50 v51 v52 v53 v54 v55 v56 v57 v58 v59 v60 v61 v62 v63 v64 v65 v66 v67 v68 v69 v70 v71 v72 v73 v74 v75 v76 v77 v78 v79 v80 v81 v82 v83 v84 v85 v86 v87 v88 v89 v90 v91 v92 v93 v94 v95 v96 v97 v98 v99 v100 v101 v102 v103 v104 v105 v106 v107 v108 v109 v110 v111 v112 v113 v114 v115 v116 v117 v118 v119 v120 v121 v122 v123 v124 v125 v126 v127 v128 v129 v130 v131 v132 v133 v134 v135 v136 v137 v138 v139 v140 v141 v142 v143 v144 v145 v146 v147 v148 v149 v150 v151 v152 v153 v154 v155 v156 v157 v158 v159 v160 v161 v162 v163 v164 v165 v166 v167 v168 v169 v170 v171 v172 v173 v174 v175 v176 v177 v178 v179 v180 v181 v182 v183 v184 v185 v186 v187 v188 v189 v190 v191 v192 v193 v194 v195 v196 v197 v198 v199 v200 v201 v202 v203 v204 v205 v206 v207 v208 v209 v210 v211 v212 v213 v214 v215 v216 v217 v218 v219 v220 v221 v222 v223 v224 v225 v226 v227 v228 v229 v230 v231 v232 v233 v234 v235 v236 v237 v238 v239 v240 v241 v242 v243 v244 v245 v246 v247 v248 v249 v250 v251 v252 v253 v254 v255 v256 v257 v258 : Value) (w' : World) (p' n' : Nat) (o' : Bool) (ops' : List Yd.Op) (vals' : List Ex) (ov' vv' : Value) (xs' : List Value), p < p' → YS w w' (w.heap.size + 1 + 1 + 1) (w.heap.size + 1 + 1) l RES p' n' o' ops' vals' ov' vv' xs' → Qx (.exit 1) { tmps := #[.string ⟨l.toArray⟩, .int .i64 (p' : Int), u2, u3, .pointer (some ⟨w.heap.size, 0, none⟩), v5, .pointer (some ⟨w.heap.size + 1, 0, none⟩), .pointer (some ⟨w.heap.size + 1 + 1, 0, none⟩), .int .i64 (n' : Int), .bool o', v10, v11, u12, u13, u14, u15, u16, u17, u18, u19, u20, u21, u22, u23, v24, v25, v26, v27, v28, v29, v30, v31, v32, v33, v34, v35, v36, v37, v38, v39, v40, v41, v42, v43, v44, v45, v46, v47, v48, v49, v50, v51, v52, v53, v54, v55, v56, v57, v58, v59, v60, v61, v62, v63, v64, v65, v66, v67, v68, v69, v70, v71, v72, v73, v74, v75, v76, v77, v78, v79, v80, v81, v82, v83, v84, v85, v86, v87, v88, v89, v90, v91, v92, v93, v94, v95, v96, v97, v98, v99, v100, v101, v102, v103, v104, v105, v106, v107, v108, v109, v110, v111, v112, v113, v114, v115, v116, v117, v118, v119, v120, v121, v122, v123, v124, v125, v126, v127, v128, v129, v130, v131, v132, v133, v134, v135, v136, v137, v138, v139, v140, v141, v142, v143, v144, v145, v146, v147, v148, v149, v150, v151, v152, v153, v154, v155, v156, v157, v158, v159, v160, v161, v162, v163, v164, v165, v166, v167, v168, v169, v170, v171, v172, v173, v174, v175, v176, v177, v178, v179, v180, v181, v182, v183, v184, v185, v186, v187, v188, v189, v190, v191, v192, v193, v194, v195, v196, v197, v198, v199, v200, v201, v202, v203, v204, v205, v206, v207, v208, v209, v210, v211, v212, v213, v214, v215, v216, v217, v218, v219, v220, v221, v222, v223, v224, v225, v226, v227, v228, v229, v230, v231, v232, v233, v234, v235, v236, v237, v238, v239, v240, v241, v242, v243, v244, v245, v246, v247, v248, v249, v250, v251, v252, v253, v254, v255, v256, v257, v258], defers := [] } w'))  (k : Nat) (hok : OpOk (.bi c.text k)) (run2 : xYR l (.bi c.text k :: ops) vals n true c.to_ RES) (hto : c.to_ ≤ l.length) (hpt : p < c.to_) (u5 u11 u24 u25 u26 u27 u28 u29 u30 u31 u32 u33 u34 u35 u36 u37 u38 u39 u40 u41 u42 u43 u44 u45 u46 u47 u48 u49 u50 u51 u52 u53 u54 u55 u56 u57 u58 u59 u60 u61 u62 u63 u64 u65 u66 u67 u68 u69 u70 u71 u72 u73 u74 u75 u76 u77 u78 u79 u80 u81 u82 u83 u84 u85 u86 u87 u88 u89 u90 u91 u92 u93 u94 u95 u96 u97 u98 u99 u100 u101 u102 u103 u104 u105 u106 u107 u108 u109 u110 u111 u112 u113 u114 u115 u116 u117 u118 u119 u120 u121 u122 u123 u124 u125 u126 u127 u128 u129 u130 u131 u132 u133 u134 u135 u136 u137 u138 u139 u140 u141 u142 u143 u144 u145 u146 u147 u148 u149 u150 u151 u152 u153 u154 u155 u156 u157 u158 u159 u160 u161 u162 u163 u164 u165 u166 u167 u168 u169 u170 u171 u172 u173 u174 u175 u176 u177 u178 u179 u180 u181 u182 u183 u184 u185 u186 u187 u188 u189 u190 u191 u192 u193 u194 u195 u196 u197 u198 u199 u200 u201 u202 u203 u204 u205 u206 u207 u208 u209 u210 u211 u212 u213 u214 u215 u216 u217 u218 u219 u220 u221 u222 u223 u224 u225 u226 u227 u228 u229 u230 u231 u232 u233 u234 u235 u236 u237 u238 u239 u240 u241 u242 u243 u244 u245 u246 u247 u248 u249 u250 u251 u252 u253 u254 u255 u256 u257 u258 : Value) :
  Code.wp Tryz.prog beP Qx { tmps := #[.string ⟨l.toArray⟩, .int .i64 (p : Int), u2, u3, .pointer (some ⟨w.heap.size, 0, none⟩), u5, .pointer (some ⟨w.heap.size + 1, 0, none⟩), .pointer (some ⟨w.heap.size + 1 + 1, 0, none⟩), .int .i64 (n : Int), .bool false, .pointer (some ⟨P, 0, none⟩), u11, u12, u13, u14, u15, u16, u17, u18, u19, u20, u21, u22, u23, u24, u25, u26, u27, u28, u29, u30, u31, u32, u33, u34, u35, u36, u37, u38, u39, u40, u41, u42, u43, u44, u45, u46, u47, u48, u49, u50, u51, u52, u53, u54, u55, u56, u57, u58, u59, u60, u61, u62, u63, u64, u65, u66, u67, u68, u69, u70, u71, u72, u73, u74, u75, u76, u77, u78, u79, u80, u81, u82, u83, u84, u85, u86, u87, u88, u89, u90, u91, u92, u93, u94, u95, u96, u97, u98, u99, u100, u101, u102, u103, u104, u105, u106, u107, u108, u109, u110, u111, u112, u113, u114, u115, u116, u117, u118, u119, u120, u121, u122, u123, u124, u125, u126, u127, u128, u129, u130, u131, u132, u133, u134, u135, u136, u137, u138, u139, u140, u141, u142, u143, u144, u145, u146, u147, u148, u149, u150, u151, u152, u153, u154, u155, u156, u157, u158, u159, u160, u161, u162, u163, u164, u165, u166, u167, u168, u169, u170, u171, u172, u173, u174, u175, u176, u177, u178, u179, u180, u181, u182, u183, u184, u185, u186, u187, u188, u189, u190, u191, u192, u193, u194, u195, u196, u197, u198, u199, u200, u201, u202, u203, u204, u205, u206, u207, u208, u209, u210, u211, u212, u213, u214, u215, u216, u217, u218, u219, u220, u221, u222, u223, u224, u225, u226, u227, u228, u229, u230, u231, u232, u233, u234, u235, u236, u237, u238, u239, u240, u241, u242, u243, u244, u245, u246, u247, u248, u249, u250, u251, u252, u253, u254, u255, u256, u257, u258], defers := [] } wr := by
 have h : beP = Code.seq _ _ := rfl
 rw [h]
 clear h
 dsimp only
 have HSS := Lib.hid hS
 obtain ⟨p0, p1, p2, p3, p4, p5, p6, p7, p8, p9, p10⟩ := id PB
 clear hS
 go_step
 rename_i K4 h4
 have H4 := Lib.hid h4
 clear h4
 have hov : ∃ A N C, ov = .slice A N C := ⟨_, _, _, (own_form HSS.out.yd.own).choose_spec.choose_spec⟩
 obtain ⟨A, N0, C0, rfl⟩ := hov
 have hYc := HSS.out.yd.c0
 have HSd : Hid (wr.drew.cell? ⟨w.heap.size + 1 + 1, 0, none⟩ = some (.slice A N0 C0) ∧ PcBox wr.drew P c) := Lib.hid ⟨hYc, PB.c0, PB.c1, PB.c2, PB.c3, PB.c4, PB.c5, PB.c6, PB.c7, PB.c8, PB.fr, PB.lt⟩
 refine wp_region_T 11 (fun w' => w'.cell? ⟨w.heap.size + 1 + 1, 0, none⟩ = some (.slice A N0 C0) ∧ PcBox w' P c) (by kernel_rfl) ?_
 refine wpT_takeT (i := 0) (v := ?_) rfl (by kernel_rfl) (by kernel_rfl) (by kernel_rfl) (by kernel_rfl) (by kernel_rfl) (fun _ _ _ h => hPan _ _ _ _ _ h) (Or.inl ⟨by rfl, ?_⟩) HSd.out ?_
 rotate_left
 ·(intro wq hSw; obtain ⟨_,_,_,_,_,_,_,_,_,_,_,_⟩ := hSw; go_simp; all_goals (first | (with_reducible rfl) | (intro hh; omega) | (rw [if_pos (by omega)]; done) | (rw [if_neg (by omega)]; done) | skip))
 try simp only [zA, zB, zC, Act.put, zD, zE, zF]
 refine wpT_takeT (i := 1) (v := ?_) rfl (by kernel_rfl) (by kernel_rfl) (by kernel_rfl) (by kernel_rfl) (by kernel_rfl) (fun _ _ _ h => hPan _ _ _ _ _ h) (Or.inl ⟨by rfl, ?_⟩) HSd.out ?_
 rotate_left
 ·(intro wq hSw; obtain ⟨_,_,_,_,_,_,_,_,_,_,_,_⟩ := hSw; go_simp; all_goals (first | (with_reducible rfl) | (intro hh; omega) | (rw [if_pos (by omega)]; done) | (rw [if_neg (by omega)]; done) | skip))
 try simp only [zA, zB, zC, Act.put, zD, zE, zF]
 refine wpT_takeT (i := 2) (v := ?_) rfl (by kernel_rfl) (by kernel_rfl) (by kernel_rfl) (by kernel_rfl) (by kernel_rfl) (fun _ _ _ h => hPan _ _ _ _ _ h) (Or.inl ⟨by rfl, ?_⟩) HSd.out ?_
 rotate_left
 ·(intro wq hSw; obtain ⟨_,_,_,_,_,_,_,_,_,_,_,_⟩ := hSw; go_simp; all_goals (first | (with_reducible rfl) | (intro hh; omega) | (rw [if_pos (by omega)]; done) | (rw [if_neg (by omega)]; done) | skip))
 try simp only [zA, zB, zC, Act.put, zD, zE, zF]
 refine wpT_takeT (i := 3) (v := ?_) rfl (by kernel_rfl) (by kernel_rfl) (by kernel_rfl) (by kernel_rfl) (by kernel_rfl) (fun _ _ _ h => hPan _ _ _ _ _ h) (Or.inl ⟨by rfl, ?_⟩) HSd.out ?_
 rotate_left
 ·(intro wq hSw; obtain ⟨_,_,_,_,_,_,_,_,_,_,_,_⟩ := hSw; go_simp; all_goals (first | (with_reducible rfl) | (intro hh; omega) | (rw [if_pos (by omega)]; done) | (rw [if_neg (by omega)]; done) | skip))
 try simp only [zA, zB, zC, Act.put, zD, zE, zF]
 refine wpT_takeT (i := 4) (v := ?_) rfl (by kernel_rfl) (by kernel_rfl) (by kernel_rfl) (by kernel_rfl) (by kernel_rfl) (fun _ _ _ h => hPan _ _ _ _ _ h) (Or.inl ⟨by rfl, ?_⟩) HSd.out ?_
 rotate_left
 ·(intro wq hSw; obtain ⟨_,_,_,_,_,_,_,_,_,_,_,_⟩ := hSw; go_simp; all_goals (first | (with_reducible rfl) | (intro hh; omega) | (rw [if_pos (by omega)]; done) | (rw [if_neg (by omega)]; done) | skip))
 try simp only [zA, zB, zC, Act.put, zD, zE, zF]
 refine wpT_takeT (i := 5) (v := ?_) rfl (by kernel_rfl) (by kernel_rfl) (by kernel_rfl) (by kernel_rfl) (by kernel_rfl) (fun _ _ _ h => hPan _ _ _ _ _ h) (Or.inl ⟨by rfl, ?_⟩) HSd.out ?_
 rotate_left
 ·(intro wq hSw; obtain ⟨_,_,_,_,_,_,_,_,_,_,_,_⟩ := hSw; go_simp; all_goals (first | (with_reducible rfl) | (intro hh; omega) | (rw [if_pos (by omega)]; done) | (rw [if_neg (by omega)]; done) | skip))
 try simp only [zA, zB, zC, Act.put, zD, zE, zF]
 refine wpT_takeT (i := 6) (v := ?_) rfl (by kernel_rfl) (by kernel_rfl) (by kernel_rfl) (by kernel_rfl) (by kernel_rfl) (fun _ _ _ h => hPan _ _ _ _ _ h) (Or.inl ⟨by rfl, ?_⟩) HSd.out ?_
 rotate_left
 ·(intro wq hSw; obtain ⟨_,_,_,_,_,_,_,_,_,_,_,_⟩ := hSw; go_simp; all_goals (first | (with_reducible rfl) | (intro hh; omega) | (rw [if_pos (by omega)]; done) | (rw [if_neg (by omega)]; done) | skip))
 try simp only [zA, zB, zC, Act.put, zD, zE, zF]
 refine zO 7 fun K hK => ?_
 go_simp
 have hb6 : Below wr.heap.size wr ((wr.alloc (.cells #[.string ⟨c.text.toArray⟩] 9)).drew) := ((Below.refl _ _).alloc (Nat.le_refl _) _).drew
 have hca : ((wr.alloc (.cells #[.string ⟨c.text.toArray⟩] 9)).drew).cell? ⟨wr.heap.size, 0, none⟩ = some (.string ⟨c.text.toArray⟩) := by simp [go_sem]
 have hza : wr.heap.size < ((wr.alloc (.cells #[.string ⟨c.text.toArray⟩] 9)).drew).heap.size := by simp
 have HS6 := Lib.hid (HSS.out.below hb6)
 have hPl : P < wr.heap.size := PB.lt
 have PB6 := PB.keep hb6
 have hYc6 := HS6.out.yd.c0
 generalize (wr.alloc (.cells #[.string ⟨c.text.toArray⟩] 9)).drew = w6 at hca hza HS6 PB6 hYc6 ⊢
 clear hb6 HSd HSS hYc PB p0 p1 p2 p3 p4 p5 p6 p7 p8 p9 p10
 refine hK.out _ _ (fun _ => ⟨hYc6, PB6⟩) ?_
 clear hK K
 try simp only [zA, zB, zC, Act.put, zD, zE, zF]
 have hlen : N0 = ((ops.map opStr).reverse).length := by
  obtain ⟨A', c', e⟩ := own_form HS6.out.yd.own
  injection e
 have hszl : N0 ≤ 2000 := by rw [hlen, List.length_reverse, List.length_map]; have := HS6.out.sz; have := HS6.out.pl; omega
 refine zO 8 fun K hK => ?_
 refine step_app rt_strs rfl (.tmp 172) (.tmp 175) rfl (w.heap.size + 1 + 1 + 1) (.slice A N0 C0) ((ops.map opStr).reverse).length (strsOf ((ops.map opStr).reverse)) rfl HS6.out.yd.own ⟨wr.heap.size, 0, none⟩ 1 1 [.string ⟨c.text.toArray⟩] rfl rfl (fun j u hj => ?_) (by simp [Value.oneCell']) (by unfold maxLen; omega) (by omega) HS6.out.yd.lb (fun v7 w7 k1 k2 k3 k4 => ?_)
 ·match j, hj with
  | 0, hj => simp at hj; subst hj; exact hca
  | j + 1, hj => simp at hj
 have hS7 : w7.cell? ⟨w.heap.size + 1 + 1, 0, none⟩ = some (.slice A N0 C0) := (k4.cell (p := ⟨w.heap.size + 1 + 1, 0, none⟩) (by show w.heap.size + 1 + 1 < (w.heap.size + 1 + 1 + 1); omega)).trans hYc6
 have hz7 : w7.frozen? ⟨w.heap.size + 1 + 1, 0, none⟩ = false := (k4.frozen (p := ⟨w.heap.size + 1 + 1, 0, none⟩) (by show w.heap.size + 1 + 1 < (w.heap.size + 1 + 1 + 1); omega)).trans (HS6.out.yd.fr 0)
 have PB7 : PcBox w7 P c := PB6.grown k2 hPo
 have HF := Lib.hid (HS6.out.pushOp (.bi c.text k) k1 k2 k3 k4 run2 (by have h := HS6.out.bi; simpa [Yd.nBi] using h) (by have h := HS6.out.br; simpa [Yd.nBr] using h) hok hpt hto)
 have HK2 := Lib.hid (And.intro hPv k4)
 obtain ⟨A7, C7, rfl⟩ := own_form k1
 refine hK.out _ _ (fun _ => ⟨hS7, PB7⟩) ?_
 clear hK K hPo hPv k1 k2 k3 k4 hca hza HS6 PB6 hYc6 hszl
 clear hlen
 try simp only [zA, zB, zC, Act.put, zD, zE, zF]
 refine zO 9 fun K hK => ?_
 go_simp
 refine hK.out _ _ (fun _ => ⟨hS7, PB7⟩) ?_
 clear hK K
 try simp only [zA, zB, zC, Act.put, zD, zE, zF]
 refine zO 10 fun K hK => ?_
 go_simp
 refine hK.out _ _ (fun _ => ⟨hS7, PB7⟩) ?_
 clear hK K
 try simp only [zA, zB, zC, Act.put, zD, zE, zF]
 refine zO 11 fun K hK => ?_
 go_simp
 refine hK.out _ _ (fun h => absurd h (by decide)) ?_
 clear hK K
 try simp only [zA, zB, zC, Act.put, zD, zE, zF]
 refine wpT_done (by kernel_rfl) ?_
 rw [show ((ops.map opStr).reverse).length = ops.length by rw [List.length_reverse, List.length_map]] at HF
 have PBF : PcBox (w7.setCell ⟨w.heap.size + 1 + 1, 0, none⟩ (.slice A7 (ops.length + 1) C7)) P c := PB7.far (by show ¬ w.heap.size + 1 + 1 = P; omega) _
 generalize w7.setCell ⟨w.heap.size + 1 + 1, 0, none⟩ (.slice A7 (ops.length + 1) C7) = wF at HF PBF ⊢
 clear hS7 hz7 PB7 HK2 hPl
 clear w6 w7
 (try simp only [Exit.inBlock, Exit.then])
 refine H4.out _ _ ?_
 clear H4
 go_step
 rename_i K5 h5
 have H5 := Lib.hid h5
 clear h5
 obtain ⟨p0, p1, p2, p3, p4, p5, p6, p7, p8, p9, p10⟩ := id PBF
 go_wp2_with fail
 refine H5.out _ _ ?_
 clear H5
 go_step
 rename_i K6 h6
 have H6 := Lib.hid h6
 clear h6
 go_wp2_with fail
 refine H6.out _ _ ?_
 clear H6
 go_step
 exact hN.out _ _ _ _ _ _ _ _ _ _ _ _ _ _ _ _ _ _ _ _ _ _ _ _ _ _ _ _ _ _ _ _ _ _ _ _ _ _ _ _ _ _ _ _ _ _ _ _ _ _ _ _ _ _ _ _ _ _ _ _ _ _ _ _ _ _ _ _ _ _ _ _ _ _ _ _ _ _ _ _ _ _ _ _ _ _ _ _ _ _ _ _ _ _ _ _ _ _ _ _ _ _ _ _ _ _ _ _ _ _ _ _ _ _ _ _ _ _ _ _ _ _ _ _ _ _ _ _ _ _ _ _ _ _ _ _ _ _ _ _ _ _ _ _ _ _ _ _ _ _ _ _ _ _ _ _ _ _ _ _ _ _ _ _ _ _ _ _ _ _ _ _ _ _ _ _ _ _ _ _ _ _ _ _ _ _ _ _ _ _ _ _ _ _ _ _ _ _ _ _ _ _ _ _ _ _ _ _ _ _ _ _ _ _ _ _ _ _ _ _ _ _ _ _ _ _ _ _ _ _ _ _ _ _ _ _ _ _ _ _ _ _ _ _ _ _ _ hpt HF.out
set_option maxHeartbeats 8000000 in
theorem be_cut (l : Str) (w wr : World) (RES : Yd.Res Ex) (p n : Nat) (ops : List Yd.Op) (vals : List Ex) (ov vv : Value) (xs : List Value) (P : Nat) (c : Pc) (h2000 : l.length ≤ 2000) (Qx : Exit → Act → World → Prop) (hPan : ∀ (e : List PanicEntry) (d : Option Nat) (v : Value) (a : Act) (w : World), Qx (.panic e) (a.put d v) w → Qx (.panic e) a w) (TT : Ex) (EE : Nat) (CC : Int) (AA : Nat) (u2 u3 u12 u13 u14 u15 u16 u17 u18 u19 u20 u21 u22 u23 : Value) (hS : YS w wr (w.heap.size + 1 + 1 + 1) (w.heap.size + 1 + 1) l RES p n false ops vals ov vv xs) (PB : PcBox wr P c) (hP : (w.heap.size + 1 + 1 + 1) ≤ P) (hPo : some P ≠ ov.ownBlock) (hPv : some P ≠ vv.ownBlock) (hN : Hid (∀ (v5 v10 v11 v24 v25 v26 v27 v28 v29 v30 v31 v32 v33 v34 v35 v36 v37 v38 v39 v40 v41 v42 v43 v44 v45 v46 v47 v48 v49 v50 v51 v52 v53 v54 v55 v56 v57 v58 v59 v60 v61 v62 v63 v64 v65 v66 v67 v68 v69 v70 v71 v72 v73 v74 v75 v76 v77 v78 v79 v80 v81 v82 v83 v84 v85 v86 v87 v88 v89 v90 v91 v92 v93 v94 v95 v96 v97 v98 v99 v100 v101 v102 v103 v104 v105 v106 v107 v108 v109 v110 v111 v112 v113 v114 v115 v116 v117 v118 v119 v120 v121 v122 v123 v124 v125 v126 v127 v128 v129 v130 v131 v132 v133 v134 v135 v136 v137 v138 v139 v140 v141 v142 v143 v144 v145 v146 v147 v148 v149 v150 v151 v152 v153 v154 v155 v156 v157 v158 v159 v160 v161 v162 v163 v164 v165 v166 v167 v168 v169 v170 v171 v172 v173 v174 v175 v176 v177 v178 v179 v180 v181 v182 v183 v184 v185 v186 v187 v188 v189 v190 v191 v192 v193 v194 v195 v196 v197 v198 v199 v200 v201 v202 v203 v204 v205 v206 v207 v208 v209 v210 v211 v212 v213 v214 v215 v216 v217 v218 v219 v220 v221 v222 v223 v224 v225 v226 v227 v228 v229 v230 v231 v232 v233 v234 v235 v236 v237 v238 v239 v240 v241 v242 v243 v244 v245 v246 v247 v248 v249 v250 v251 v252 v253 v254 v255 v256 v257 v258 : Value) (w' : World) (p' n' : Nat) (o' : Bool) (ops' : List Yd.Op) (vals' : List Ex) (ov' vv' : Value) (xs' : List Value), p < p' → YS w w' (w.heap.size + 1 + 1 + 1) (w.heap.size + 1 + 1) l RES p' n' o' ops' vals' ov' vv' xs' → Qx (.exit 1) { tmps := #[.string ⟨l.toArray⟩, .int .i64 (p' : Int), u2, u3, .pointer (some ⟨w.heap.size, 0, none⟩), v5, .pointer (some ⟨w.heap.size + 1, 0, none⟩), .pointer (some ⟨w.heap.size + 1 + 1, 0, none⟩), .int .i64 (n' : Int), .bool o', v10, v11, u12, u13, u14, u15, u16, u17, u18, u19, u20, u21, u22, u23, v24, v25, v26, v27, v28, v29, v30, v31, v32, v33, v34, v35, v36, v37, v38, v39, v40, v41, v42, v43, v44, v45, v46, v47, v48, v49, v50, v51, v52, v53, v54, v55, v56, v57, v58, v59, v60, v61, v62, v63, v64, v65, v66, v67, v68, v69, v70, v71, v72, v73, v74, v75, v76, v77, v78, v79, v80, v81, v82, v83, v84, v85, v86, v87, v88, v89, v90, v91, v92, v93, v94, v95, v96, v97, v98, v99, v100, v101, v102, v103, v104, v105, v106, v107, v108, v109, v110, v111, v112, v113, v114, v115, v116, v117, v118, v119, v120, v121, v122, v123, v124, v125, v126, v127, v128, v129, v130, v131, v132, v133, v134, v135, v136, v137, v138, v139, v140, v141, v142, v143, v144, v145, v146, v147, v148, v149, v150, v151, v152, v153, v154, v155, v156, v157, v158, v159, v160, v161, v162, v163, v164, v165, v166, v167, v168, v169, v170, v171, v172, v173, v174, v175, v176, v177, v178, v179, v180, v181, v182, v183, v184, v185, v186, v187, v188, v189, v190, v191, v192, v193, v194, v195, v196, v197, v198, v199, v200, v201, v202, v203, v204, v205, v206, v207, v208, v209, v210, v211, v212, v213, v214, v215, v216, v217, v218, v219, v220, v221, v222, v223, v224, v225, v226, v227, v228, v229, v230, v231, v232, v233, v234, v235, v236, v237, v238, v239, v240, v241, v242, v243, v244, v245, v246, v247, v248, v249, v250, v251, v252, v253, v254, v255, v256, v257, v258], defers := [] } w'))  (n1 : Nat) (hn1 : n = n1 + 1) (hbr : ∃ r, ops = .br :: r) (run2 : xYR l ops.tail vals n1 false c.to_ RES) (hto : c.to_ ≤ l.length) (hpt : p < c.to_) (u5 u11 u24 u25 u26 u27 u28 u29 u30 u31 u32 u33 u34 u35 u36 u37 u38 u39 u40 u41 u42 u43 u44 u45 u46 u47 u48 u49 u50 u51 u52 u53 u54 u55 u56 u57 u58 u59 u60 u61 u62 u63 u64 u65 u66 u67 u68 u69 u70 u71 u72 u73 u74 u75 u76 u77 u78 u79 u80 u81 u82 u83 u84 u85 u86 u87 u88 u89 u90 u91 u92 u93 u94 u95 u96 u97 u98 u99 u100 u101 u102 u103 u104 u105 u106 u107 u108 u109 u110 u111 u112 u113 u114 u115 u116 u117 u118 u119 u120 u121 u122 u123 u124 u125 u126 u127 u128 u129 u130 u131 u132 u133 u134 u135 u136 u137 u138 u139 u140 u141 u142 u143 u144 u145 u146 u147 u148 u149 u150 u151 u152 u153 u154 u155 u156 u157 u158 u159 u160 u161 u162 u163 u164 u165 u166 u167 u168 u169 u170 u171 u172 u173 u174 u175 u176 u177 u178 u179 u180 u181 u182 u183 u184 u185 u186 u187 u188 u189 u190 u191 u192 u193 u194 u195 u196 u197 u198 u199 u200 u201 u202 u203 u204 u205 u206 u207 u208 u209 u210 u211 u212 u213 u214 u215 u216 u217 u218 u219 u220 u221 u222 u223 u224 u225 u226 u227 u228 u229 u230 u231 u232 u233 u234 u235 u236 u237 u238 u239 u240 u241 u242 u243 u244 u245 u246 u247 u248 u249 u250 u251 u252 u253 u254 u255 u256 u257 u258 : Value) :
  Code.wp Tryz.prog beC Qx { tmps := #[.string ⟨l.toArray⟩, .int .i64 (p : Int), u2, u3, .pointer (some ⟨w.heap.size, 0, none⟩), u5, .pointer (some ⟨w.heap.size + 1, 0, none⟩), .pointer (some ⟨w.heap.size + 1 + 1, 0, none⟩), .int .i64 (n : Int), .bool false, .pointer (some ⟨P, 0, none⟩), u11, u12, u13, u14, u15, u16, u17, u18, u19, u20, u21, u22, u23, u24, u25, u26, u27, u28, u29, u30, u31, u32, u33, u34, u35, u36, u37, u38, u39, u40, u41, u42, u43, u44, u45, u46, u47, u48, u49, u50, u51, u52, u53, u54, u55, u56, u57, u58, u59, u60, u61, u62, u63, u64, u65, u66, u67, u68, u69, u70, u71, u72, u73, u74, u75, u76, u77, u78, u79, u80, u81, u82, u83, u84, u85, u86, u87, u88, u89, u90, u91, u92, u93, u94, u95, u96, u97, u98, u99, u100, u101, u102, u103, u104, u105, u106, u107, u108, u109, u110, u111, u112, u113, u114, u115, u116, u117, u118, u119, u120, u121, u122, u123, u124, u125, u126, u127, u128, u129, u130, u131, u132, u133, u134, u135, u136, u137, u138, u139, u140, u141, u142, u143, u144, u145, u146, u147, u148, u149, u150, u151, u152, u153, u154, u155, u156, u157, u158, u159, u160, u161, u162, u163, u164, u165, u166, u167, u168, u169, u170, u171, u172, u173, u174, u175, u176, u177, u178, u179, u180, u181, u182, u183, u184, u185, u186, u187, u188, u189, u190, u191, u192, u193, u194, u195, u196, u197, u198, u199, u200, u201, u202, u203, u204, u205, u206, u207, u208, u209, u210, u211, u212, u213, u214, u215, u216, u217, u218, u219, u220, u221, u222, u223, u224, u225, u226, u227, u228, u229, u230, u231, u232, u233, u234, u235, u236, u237, u238, u239, u240, u241, u242, u243, u244, u245, u246, u247, u248, u249, u250, u251, u252, u253, u254, u255, u256, u257, u258], defers := [] } wr := by
 have h : beC = Code.seq _ _ := rfl
 rw [h]
 clear h
 dsimp only
 have HSS := Lib.hid hS
 obtain ⟨p0, p1, p2, p3, p4, p5, p6, p7, p8, p9, p10⟩ := id PB
 clear hS
 obtain ⟨ops, rfl⟩ := hbr
 replace run2 : xYR l ops vals n1 false c.to_ RES := run2
 have hnn : n = n1 + 1 := hn1
 have hn2 : (n : Int) - 1 = (n1 : Int) := by omega
 have hov : ∃ A N C, ov = .slice A N C := ⟨_, _, _, (own_form HSS.out.yd.own).choose_spec.choose_spec⟩
 obtain ⟨A, N0, C0, rfl⟩ := hov
 have hlen : N0 = ops.length + 1 := by
  obtain ⟨A', c', e⟩ := own_form HSS.out.yd.own
  injection e with e1 e2 e3
  rw [e2, List.length_reverse, List.length_map]; rfl
 subst hlen
 obtain ⟨g, C', hAC, hcap⟩ := own_some HSS.out.yd.own (by rw [List.length_reverse, List.length_map, List.length_cons]; omega)
 have hlo : ((List.map opStr (Yd.Op.br :: ops)).reverse).length = ops.length + 1 := by rw [List.length_reverse, List.length_map]; rfl
 rw [hlo] at hAC hcap
 injection hAC with e1 e2 e3
 subst e1 e3
 have hsz : ops.length ≤ 2000 := by have h1 := HSS.out.sz; have h2 := HSS.out.pl; simp only [List.length_cons] at h1; omega
 have hbd : Below wr.heap.size wr wr.drew := (Below.refl _ _).drew
 have HSD := HSS.out.below hbd
 have PBD := PB.keep hbd
 have HF := Lib.hid (HSD.cut run2 hnn hpt hto)
 have hnb : n1 ≤ 2000 := by have h1 := nbr_le ops; have h2 := HSS.out.br; simp only [Yd.nBr] at h2; omega
 obtain ⟨m, hm⟩ : ∃ m, ops.length = m := ⟨_, rfl⟩
 have c0 := HSS.out.yd.c0
 have hYf := HSD.yd.fr 0
 rw [hm] at c0 hsz HF hcap
 have e1 : ((m + 1 : Nat) : Int) - 1 = (m : Int) := by omega
 have hwn : IntKind.i64.wrap (m : Int) = (m : Int) := Go.IntWalk.i64_in _ (by omega)
 have hnc : (m : Int) ≤ (C0 : Int) := by omega
 have hn0 : 0 ≤ (m : Int) := by omega
 obtain ⟨M, hM⟩ : ∃ x, m + 1 = x := ⟨_, rfl⟩
 rw [hM] at c0 e1 hcap
 have e2 : m < M := by omega
 clear hm hlo e2 hM
 have HSd : Hid (wr.drew.cell? ⟨w.heap.size + 1 + 1, 0, none⟩ = some (.slice (some ⟨g, 0, none⟩) M C0)) := Lib.hid c0
 have PBF : PcBox (wr.drew.setCell ⟨w.heap.size + 1 + 1, 0, none⟩ (.slice (some ⟨g, 0, none⟩) m C0)) P c := PBD.far (by show ¬ w.heap.size + 1 + 1 = P; omega) _
 clear PB HSS HSD PBD hbd p0 p1 p2 p3 p4 p5 p6 p7 p8 p9 p10
 go_step
 rename_i K4 h4
 have H4 := Lib.hid h4
 clear h4
 refine wp_region_T 14 (fun w' => w'.cell? ⟨w.heap.size + 1 + 1, 0, none⟩ = some (.slice (some ⟨g, 0, none⟩) M C0)) (by kernel_rfl) ?_
 refine wpT_takeT (i := 0) (v := ?_) rfl (by kernel_rfl) (by kernel_rfl) (by kernel_rfl) (by kernel_rfl) (by kernel_rfl) (fun _ _ _ h => hPan _ _ _ _ _ h) (Or.inl ⟨by rfl, ?_⟩) HSd.out ?_
 rotate_left
 ·(intro wq hSw; obtain q0 := id hSw; go_simp; all_goals (first | (with_reducible rfl) | (intro hh; omega) | (rw [if_pos (by omega)]; done) | (rw [if_neg (by omega)]; done) | skip))
 try simp only [zA, zB, zC, Act.put, zD, zE, zF]
 refine wpT_takeT (i := 1) (v := ?_) rfl (by kernel_rfl) (by kernel_rfl) (by kernel_rfl) (by kernel_rfl) (by kernel_rfl) (fun _ _ _ h => hPan _ _ _ _ _ h) (Or.inl ⟨by rfl, ?_⟩) HSd.out ?_
 rotate_left
 ·(intro wq hSw; obtain q0 := id hSw; go_simp; all_goals (first | (with_reducible rfl) | (intro hh; omega) | (rw [if_pos (by omega)]; done) | (rw [if_neg (by omega)]; done) | skip))
 try simp only [zA, zB, zC, Act.put, zD, zE, zF]
 refine wpT_takeT (i := 2) (v := ?_) rfl (by kernel_rfl) (by kernel_rfl) (by kernel_rfl) (by kernel_rfl) (by kernel_rfl) (fun _ _ _ h => hPan _ _ _ _ _ h) (Or.inl ⟨by rfl, ?_⟩) HSd.out ?_
 rotate_left
 ·(intro wq hSw; obtain q0 := id hSw; go_simp; all_goals (first | (with_reducible rfl) | (intro hh; omega) | (rw [if_pos (by omega)]; done) | (rw [if_neg (by omega)]; done) | skip))
 try simp only [zA, zB, zC, Act.put, zD, zE, zF]
 refine wpT_takeT (i := 3) (v := ?_) rfl (by kernel_rfl) (by kernel_rfl) (by kernel_rfl) (by kernel_rfl) (by kernel_rfl) (fun _ _ _ h => hPan _ _ _ _ _ h) (Or.inl ⟨by rfl, ?_⟩) HSd.out ?_
 rotate_left
 ·(intro wq hSw; obtain q0 := id hSw; go_simp; all_goals (first | (with_reducible rfl) | (intro hh; omega) | (rw [if_pos (by omega)]; done) | (rw [if_neg (by omega)]; done) | skip))
 try simp only [zA, zB, zC, Act.put, zD, zE, zF]
 refine wpT_takeT (i := 4) (v := ?_) rfl (by kernel_rfl) (by kernel_rfl) (by kernel_rfl) (by kernel_rfl) (by kernel_rfl) (fun _ _ _ h => hPan _ _ _ _ _ h) (Or.inl ⟨by rfl, ?_⟩) HSd.out ?_
 rotate_left
 ·(intro wq hSw; obtain q0 := id hSw; go_simp; all_goals (first | (with_reducible rfl) | (intro hh; omega) | (rw [if_pos (by omega)]; done) | (rw [if_neg (by omega)]; done) | skip))
 try simp only [zA, zB, zC, Act.put, zD, zE, zF]
 refine wpT_takeT (i := 5) (v := ?_) rfl (by kernel_rfl) (by kernel_rfl) (by kernel_rfl) (by kernel_rfl) (by kernel_rfl) (fun _ _ _ h => hPan _ _ _ _ _ h) (Or.inl ⟨by rfl, ?_⟩) HSd.out ?_
 rotate_left
 ·(intro wq hSw; obtain q0 := id hSw; go_simp; all_goals (first | (with_reducible rfl) | (intro hh; omega) | (rw [if_pos (by omega)]; done) | (rw [if_neg (by omega)]; done) | skip))
 try simp only [zA, zB, zC, Act.put, zD, zE, zF]
 refine wpT_takeT (i := 6) (v := ?_) rfl (by kernel_rfl) (by kernel_rfl) (by kernel_rfl) (by kernel_rfl) (by kernel_rfl) (fun _ _ _ h => hPan _ _ _ _ _ h) (Or.inl ⟨by rfl, ?_⟩) HSd.out ?_
 rotate_left
 ·(intro wq hSw; obtain q0 := id hSw; go_simp; all_goals (first | (with_reducible rfl) | (intro hh; omega) | (rw [if_pos (by omega)]; done) | (rw [if_neg (by omega)]; done) | skip))
 try simp only [zA, zB, zC, Act.put, zD, zE, zF]
 refine wpT_takeT (i := 7) (v := ?_) rfl (by kernel_rfl) (by kernel_rfl) (by kernel_rfl) (by kernel_rfl) (by kernel_rfl) (fun _ _ _ h => hPan _ _ _ _ _ h) (Or.inl ⟨by rfl, ?_⟩) HSd.out ?_
 rotate_left
 ·(intro wq hSw; obtain q0 := id hSw; go_simp; all_goals (first | (with_reducible rfl) | (intro hh; omega) | (rw [if_pos (by omega)]; done) | (rw [if_neg (by omega)]; done) | skip))
 try simp only [zA, zB, zC, Act.put, zD, zE, zF]
 refine wpT_takeT (i := 8) (v := ?_) rfl (by kernel_rfl) (by kernel_rfl) (by kernel_rfl) (by kernel_rfl) (by kernel_rfl) (fun _ _ _ h => hPan _ _ _ _ _ h) (Or.inl ⟨by rfl, ?_⟩) HSd.out ?_
 rotate_left
 ·(intro wq hSw; obtain q0 := id hSw; go_simp; all_goals (first | (with_reducible rfl) | (intro hh; omega) | (rw [if_pos (by omega)]; done) | (rw [if_neg (by omega)]; done) | skip))
 try simp only [zA, zB, zC, Act.put, zD, zE, zF]
 refine wpT_takeT (i := 9) (v := ?_) rfl (by kernel_rfl) (by kernel_rfl) (by kernel_rfl) (by kernel_rfl) (by kernel_rfl) (fun _ _ _ h => hPan _ _ _ _ _ h) (Or.inl ⟨by rfl, ?_⟩) HSd.out ?_
 rotate_left
 ·(intro wq hSw; obtain q0 := id hSw; go_simp; all_goals (first | (with_reducible rfl) | (intro hh; omega) | (rw [if_pos (by omega)]; done) | (rw [if_neg (by omega)]; done) | skip))
 try simp only [zA, zB, zC, Act.put, zD, zE, zF]
 refine wpT_takeT (i := 10) (v := ?_) rfl (by kernel_rfl) (by kernel_rfl) (by kernel_rfl) (by kernel_rfl) (by kernel_rfl) (fun _ _ _ h => hPan _ _ _ _ _ h) (Or.inl ⟨by rfl, ?_⟩) HSd.out ?_
 rotate_left
 ·(intro wq hSw; obtain q0 := id hSw; go_simp; all_goals (first | (with_reducible rfl) | (intro hh; omega) | (rw [if_pos (by omega)]; done) | (rw [if_neg (by omega)]; done) | skip))
 try simp only [zA, zB, zC, Act.put, zD, zE, zF]
 refine wpT_takeT (i := 11) (v := .slice (some ⟨g, 0, none⟩) m C0) rfl (by kernel_rfl) (by kernel_rfl) (by kernel_rfl) (by kernel_rfl) (by kernel_rfl) (fun _ _ _ h => hPan _ _ _ _ _ h) (Or.inl ⟨by rfl, ?_⟩) HSd.out ?_
 ·(intro wq hSw; obtain q0 := id hSw; go_simp; all_goals (first | (with_reducible rfl) | (intro hh; omega) | (rw [if_pos (by omega)]; done) | (rw [if_neg (by omega)]; done) | skip))
 try simp only [zA, zB, zC, Act.put, zD, zE, zF]
 refine wpT_takeT (i := 12) (v := ?_) rfl (by kernel_rfl) (by kernel_rfl) (by kernel_rfl) (by kernel_rfl) (by kernel_rfl) (fun _ _ _ h => hPan _ _ _ _ _ h) (Or.inl ⟨by rfl, ?_⟩) HSd.out ?_
 rotate_left
 ·(intro wq hSw; obtain q0 := id hSw; go_simp; all_goals (first | (with_reducible rfl) | (intro hh; omega) | (rw [if_pos (by omega)]; done) | (rw [if_neg (by omega)]; done) | skip))
 try simp only [zA, zB, zC, Act.put, zD, zE, zF]
 refine wpT_takeT (i := 13) (v := ?_) rfl (by kernel_rfl) (by kernel_rfl) (by kernel_rfl) (by kernel_rfl) (by kernel_rfl) (fun _ _ _ h => hPan _ _ _ _ _ h) (Or.inl ⟨by rfl, ?_⟩) HSd.out ?_
 rotate_left
 ·(intro wq hSw; obtain q0 := id hSw; go_simp; all_goals (first | (with_reducible rfl) | (intro hh; omega) | (rw [if_pos (by omega)]; done) | (rw [if_neg (by omega)]; done) | skip))
 try simp only [zA, zB, zC, Act.put, zD, zE, zF]
 have q0 := HSd.out
 refine zO 14 fun K hK => ?_
 go_simp
 refine hK.out _ _ (fun h => absurd h (by decide)) ?_
 clear hK K
 try simp only [zA, zB, zC, Act.put, zD, zE, zF]
 refine wpT_done (by kernel_rfl) ?_
 rw [show (wr.setCell ⟨w.heap.size + 1 + 1, 0, none⟩ (.slice (some ⟨g, 0, none⟩) m C0)).drew = wr.drew.setCell ⟨w.heap.size + 1 + 1, 0, none⟩ (.slice (some ⟨g, 0, none⟩) m C0) from rfl]
 generalize wr.drew.setCell ⟨w.heap.size + 1 + 1, 0, none⟩ (.slice (some ⟨g, 0, none⟩) m C0) = wF at HF PBF ⊢
 clear q0 HSd hYf c0
 (try simp only [Exit.inBlock, Exit.then])
 refine H4.out _ _ ?_
 clear H4
 go_step
 rename_i K5 h5
 have H5 := Lib.hid h5
 clear h5
 obtain ⟨p0, p1, p2, p3, p4, p5, p6, p7, p8, p9, p10⟩ := id PBF
 go_wp2_with (rw [hn2])
 refine H5.out _ _ ?_
 clear H5
 go_step
 rename_i K6 h6
 have H6 := Lib.hid h6
 clear h6
 go_wp2_with fail
 refine H6.out _ _ ?_
 clear H6
 go_step
 exact hN.out _ _ _ _ _ _ _ _ _ _ _ _ _ _ _ _ _ _ _ _ _ _ _ _ _ _ _ _ _ _ _ _ _ _ _ _ _ _ _ _ _ _ _ _ _ _ _ _ _ _ _ _ _ _ _ _ _ _ _ _ _ _ _ _ _ _ _ _ _ _ _ _ _ _ _ _ _ _ _ _ _ _ _ _ _ _ _ _ _ _ _ _ _ _ _ _ _ _ _ _ _ _ _ _ _ _ _ _ _ _ _ _ _ _ _ _ _ _ _ _ _ _ _ _ _ _ _ _ _ _ _ _ _ _ _ _ _ _ _ _ _ _ _ _ _ _ _ _ _ _ _ _ _ _ _ _ _ _ _ _ _ _ _ _ _ _ _ _ _ _ _ _ _ _ _ _ _ _ _ _ _ _ _ _ _ _ _ _ _ _ _ _ _ _ _ _ _ _ _ _ _ _ _ _ _ _ _ _ _ _ _ _ _ _ _ _ _ _ _ _ _ _ _ _ _ _ _ _ _ _ _ _ _ _ _ _ _ _ _ _ _ _ _ _ _ _ _ hpt HF.out
set_option maxHeartbeats 8000000 in
theorem be_skip29 (l : Str) (w wr : World) (RES : Yd.Res Ex) (p n : Nat) (ops : List Yd.Op) (vals : List Ex) (ov vv : Value) (xs : List Value) (P : Nat) (c : Pc) (h2000 : l.length ≤ 2000) (Qx : Exit → Act → World → Prop) (hPan : ∀ (e : List PanicEntry) (d : Option Nat) (v : Value) (a : Act) (w : World), Qx (.panic e) (a.put d v) w → Qx (.panic e) a w) (TT : Ex) (EE : Nat) (CC : Int) (AA : Nat) (u2 u3 u12 u13 u14 u15 u16 u17 u18 u19 u20 u21 u22 u23 : Value) (hS : YS w wr (w.heap.size + 1 + 1 + 1) (w.heap.size + 1 + 1) l RES p n false ops vals ov vv xs) (PB : PcBox wr P c) (hP : (w.heap.size + 1 + 1 + 1) ≤ P) (hPo : some P ≠ ov.ownBlock) (hPv : some P ≠ vv.ownBlock)   (hnext : Hid (∀ (v5 v11 v24 v25 v26 v27 v28 v29 v30 v31 v32 v33 v34 v35 v36 v37 v38 v39 v40 v41 v42 v43 v44 v45 v46 v47 v48 v49 v50 v51 v52 v53 v54 v55 v56 v57 v58 v59 v60 v61 v62 v63 v64 v65 v66 v67 v68 v69 v70 v71 v72 v73 v74 v75 v76 v77 v78 v79 v80 v81 v82 v83 v84 v85 v86 v87 v88 v89 v90 v91 v92 v93 v94 v95 v96 v97 v98 v99 v100 v101 v102 v103 v104 v105 v106 v107 v108 v109 v110 v111 v112 v113 v114 v115 v116 v117 v118 v119 v120 v121 v122 v123 v124 v125 v126 v127 v128 v129 v130 v131 v132 v133 v134 v135 v136 v137 v138 v139 v140 v141 v142 v143 v144 v145 v146 v147 v148 v149 v150 v151 v152 v153 v154 v155 v156 v157 v158 v159 v160 v161 v162 v163 v164 v165 v166 v167 v168 v169 v170 v171 v172 v173 v174 v175 v176 v177 v178 v179 v180 v181 v182 v183 v184 v185 v186 v187 v188 v189 v190 v191 v192 v193 v194 v195 v196 v197 v198 v199 v200 v201 v202 v203 v204 v205 v206 v207 v208 v209 v210 v211 v212 v213 v214 v215 v216 v217 v218 v219 v220 v221 v222 v223 v224 v225 v226 v227 v228 v229 v230 v231 v232 v233 v234 v235 v236 v237 v238 v239 v240 v241 v242 v243 v244 v245 v246 v247 v248 v249 v250 v251 v252 v253 v254 v255 v256 v257 v258 : Value) (w' : World), YS w w' (w.heap.size + 1 + 1 + 1) (w.heap.size + 1 + 1) l RES p n false ops vals ov vv xs → PcBox w' P c → Code.wp Tryz.prog be35 Qx { tmps := #[.string ⟨l.toArray⟩, .int .i64 (p : Int), u2, u3, .pointer (some ⟨w.heap.size, 0, none⟩), v5, .pointer (some ⟨w.heap.size + 1, 0, none⟩), .pointer (some ⟨w.heap.size + 1 + 1, 0, none⟩), .int .i64 (n : Int), .bool false, .pointer (some ⟨P, 0, none⟩), v11, u12, u13, u14, u15, u16, u17, u18, u19, u20, u21, u22, u23, v24, v25, v26, v27, v28, v29, v30, v31, v32, v33, v34, v35, v36, v37, v38, v39, v40, v41, v42, v43, v44, v45, v46, v47, v48, v49, v50, v51, v52, v53, v54, v55, v56, v57, v58, v59, v60, v61, v62, v63, v64, v65, v66, v67, v68, v69, v70, v71, v72, v73, v74, v75, v76, v77, v78, v79, v80, v81, v82, v83, v84, v85, v86, v87, v88, v89, v90, v91, v92, v93, v94, v95, v96, v97, v98, v99, v100, v101, v102, v103, v104, v105, v106, v107, v108, v109, v110, v111, v112, v113, v114, v115, v116, v117, v118, v119, v120, v121, v122, v123, v124, v125, v126, v127, v128, v129, v130, v131, v132, v133, v134, v135, v136, v137, v138, v139, v140, v141, v142, v143, v144, v145, v146, v147, v148, v149, v150, v151, v152, v153, v154, v155, v156, v157, v158, v159, v160, v161, v162, v163, v164, v165, v166, v167, v168, v169, v170, v171, v172, v173, v174, v175, v176, v177, v178, v179, v180, v181, v182, v183, v184, v185, v186, v187, v188, v189, v190, v191, v192, v193, v194, v195, v196, v197, v198, v199, v200, v201, v202, v203, v204, v205, v206, v207, v208, v209, v210, v211, v212, v213, v214, v215, v216, v217, v218, v219, v220, v221, v222, v223, v224, v225, v226, v227, v228, v229, v230, v231, v232, v233, v234, v235, v236, v237, v238, v239, v240, v241, v242, v243, v244, v245, v246, v247, v248, v249, v250, v251, v252, v253, v254, v255, v256, v257, v258], defers := [] } w')) (u5 u24 u25 u26 u27 u28 u29 u30 u31 u32 u33 u34 u35 u36 u37 u38 u39 u40 u41 u42 u43 u44 u45 u46 u47 u48 u49 u50 u51 u52 u53 u54 u55 u56 u57 u58 u59 u60 u61 u62 u63 u64 u65 u66 u67 u68 u69 u70 u71 u72 u73 u74 u75 u76 u77 u78 u79 u80 u81 u82 u83 u84 u85 u86 u87 u88 u89 u90 u91 u92 u93 u94 u95 u96 u97 u98 u99 u100 u101 u102 u103 u104 u105 u106 u107 u108 u109 u110 u111 u112 u113 u114 u115 u116 u117 u118 u119 u120 u121 u122 u123 u124 u125 u126 u127 u128 u129 u130 u131 u132 u133 u134 u135 u136 u137 u138 u139 u140 u141 u142 u143 u144 u145 u146 u147 u148 u149 u150 u151 u152 u153 u154 u155 u156 u157 u158 u159 u160 u161 u162 u163 u164 u165 u166 u167 u168 u169 u170 u171 u172 u173 u174 u175 u176 u177 u178 u179 u180 u181 u182 u183 u184 u185 u186 u187 u188 u189 u190 u191 u192 u193 u194 u195 u196 u197 u198 u199 u200 u201 u202 u203 u204 u205 u206 u207 u208 u209 u210 u211 u212 u213 u214 u215 u216 u217 u218 u219 u220 u221 u222 u223 u224 u225 u226 u227 u228 u229 u230 u231 u232 u233 u234 u235 u236 u237 u238 u239 u240 u241 u242 u243 u244 u245 u246 u247 u248 u249 u250 u251 u252 u253 u254 u255 u256 u257 u258 : Value) :
  Code.wp Tryz.prog be29 Qx { tmps := #[.string ⟨l.toArray⟩, .int .i64 (p : Int), u2, u3, .pointer (some ⟨w.heap.size, 0, none⟩), u5, .pointer (some ⟨w.heap.size + 1, 0, none⟩), .pointer (some ⟨w.heap.size + 1 + 1, 0, none⟩), .int .i64 (n : Int), .bool false, .pointer (some ⟨P, 0, none⟩), .int .i64 0, u12, u13, u14, u15, u16, u17, u18, u19, u20, u21, u22, u23, u24, u25, u26, u27, u28, u29, u30, u31, u32, u33, u34, u35, u36, u37, u38, u39, u40, u41, u42, u43, u44, u45, u46, u47, u48, u49, u50, u51, u52, u53, u54, u55, u56, u57, u58, u59, u60, u61, u62, u63, u64, u65, u66, u67, u68, u69, u70, u71, u72, u73, u74, u75, u76, u77, u78, u79, u80, u81, u82, u83, u84, u85, u86, u87, u88, u89, u90, u91, u92, u93, u94, u95, u96, u97, u98, u99, u100, u101, u102, u103, u104, u105, u106, u107, u108, u109, u110, u111, u112, u113, u114, u115, u116, u117, u118, u119, u120, u121, u122, u123, u124, u125, u126, u127, u128, u129, u130, u131, u132, u133, u134, u135, u136, u137, u138, u139, u140, u141, u142, u143, u144, u145, u146, u147, u148, u149, u150, u151, u152, u153, u154, u155, u156, u157, u158, u159, u160, u161, u162, u163, u164, u165, u166, u167, u168, u169, u170, u171, u172, u173, u174, u175, u176, u177, u178, u179, u180, u181, u182, u183, u184, u185, u186, u187, u188, u189, u190, u191, u192, u193, u194, u195, u196, u197, u198, u199, u200, u201, u202, u203, u204, u205, u206, u207, u208, u209, u210, u211, u212, u213, u214, u215, u216, u217, u218, u219, u220, u221, u222, u223, u224, u225, u226, u227, u228, u229, u230, u231, u232, u233, u234, u235, u236, u237, u238, u239, u240, u241, u242, u243, u244, u245, u246, u247, u248, u249, u250, u251, u252, u253, u254, u255, u256, u257, u258], defers := [] } wr := by
 have h : be29 = Code.seq _ _ := rfl
 rw [h]
 clear h
 dsimp only
 have HSS := Lib.hid hS
 obtain ⟨p0, p1, p2, p3, p4, p5, p6, p7, p8, p9, p10⟩ := id PB
 clear hS
 go_step
 rename_i K1 h1
 have H1 := Lib.hid h1
 clear h1
 go_step
 rename_i K2 h2
 have H2 := Lib.hid h2
 clear h2
 go_wp2_with fail
 refine H2.out _ _ ?_
 clear H2
 go_step
 go_step
 refine H1.out _ _ ?_
 clear H1
 exact hnext.out _ _ _ _ _ _ _ _ _ _ _ _ _ _ _ _ _ _ _ _ _ _ _ _ _ _ _ _ _ _ _ _ _ _ _ _ _ _ _ _ _ _ _ _ _ _ _ _ _ _ _ _ _ _ _ _ _ _ _ _ _ _ _ _ _ _ _ _ _ _ _ _ _ _ _ _ _ _ _ _ _ _ _ _ _ _ _ _ _ _ _ _ _ _ _ _ _ _ _ _ _ _ _ _ _ _ _ _ _ _ _ _ _ _ _ _ _ _ _ _ _ _ _ _ _ _ _ _ _ _ _ _ _ _ _ _ _ _ _ _ _ _ _ _ _ _ _ _ _ _ _ _ _ _ _ _ _ _ _ _ _ _ _ _ _ _ _ _ _ _ _ _ _ _ _ _ _ _ _ _ _ _ _ _ _ _ _ _ _ _ _ _ _ _ _ _ _ _ _ _ _ _ _ _ _ _ _ _ _ _ _ _ _ _ _ _ _ _ _ _ _ _ _ _ _ _ _ _ _ _ _ _ _ _ _ _ _ wr HSS.out PB
set_option maxHeartbeats 8000000 in
theorem be_skip35a (l : Str) (w wr : World) (RES : Yd.Res Ex) (p n : Nat) (ops : List Yd.Op) (vals : List Ex) (ov vv : Value) (xs : List Value) (P : Nat) (c : Pc) (h2000 : l.length ≤ 2000) (Qx : Exit → Act → World → Prop) (hPan : ∀ (e : List PanicEntry) (d : Option Nat) (v : Value) (a : Act) (w : World), Qx (.panic e) (a.put d v) w → Qx (.panic e) a w) (TT : Ex) (EE : Nat) (CC : Int) (AA : Nat) (u2 u3 u12 u13 u14 u15 u16 u17 u18 u19 u20 u21 u22 u23 : Value) (hS : YS w wr (w.heap.size + 1 + 1 + 1) (w.heap.size + 1 + 1) l RES p n false ops vals ov vv xs) (PB : PcBox wr P c) (hP : (w.heap.size + 1 + 1 + 1) ≤ P) (hPo : some P ≠ ov.ownBlock) (hPv : some P ≠ vv.ownBlock)   (hnext : Hid (∀ (v5 v11 v24 v25 v26 v27 v28 v29 v30 v31 v32 v33 v34 v35 v36 v37 v38 v39 v40 v41 v42 v43 v44 v45 v46 v47 v48 v49 v50 v51 v52 v53 v54 v55 v56 v57 v58 v59 v60 v61 v62 v63 v64 v65 v66 v67 v68 v69 v70 v71 v72 v73 v74 v75 v76 v77 v78 v79 v80 v81 v82 v83 v84 v85 v86 v87 v88 v89 v90 v91 v92 v93 v94 v95 v96 v97 v98 v99 v100 v101 v102 v103 v104 v105 v106 v107 v108 v109 v110 v111 v112 v113 v114 v115 v116 v117 v118 v119 v120 v121 v122 v123 v124 v125 v126 v127 v128 v129 v130 v131 v132 v133 v134 v135 v136 v137 v138 v139 v140 v141 v142 v143 v144 v145 v146 v147 v148 v149 v150 v151 v152 v153 v154 v155 v156 v157 v158 v159 v160 v161 v162 v163 v164 v165 v166 v167 v168 v169 v170 v171 v172 v173 v174 v175 v176 v177 v178 v179 v180 v181 v182 v183 v184 v185 v186 v187 v188 v189 v190 v191 v192 v193 v194 v195 v196 v197 v198 v199 v200 v201 v202 v203 v204 v205 v206 v207 v208 v209 v210 v211 v212 v213 v214 v215 v216 v217 v218 v219 v220 v221 v222 v223 v224 v225 v226 v227 v228 v229 v230 v231 v232 v233 v234 v235 v236 v237 v238 v239 v240 v241 v242 v243 v244 v245 v246 v247 v248 v249 v250 v251 v252 v253 v254 v255 v256 v257 v258 : Value) (w' : World), YS w w' (w.heap.size + 1 + 1 + 1) (w.heap.size + 1 + 1) l RES p n false ops vals ov vv xs → PcBox w' P c → Code.wp Tryz.prog be41 Qx { tmps := #[.string ⟨l.toArray⟩, .int .i64 (p : Int), u2, u3, .pointer (some ⟨w.heap.size, 0, none⟩), v5, .pointer (some ⟨w.heap.size + 1, 0, none⟩), .pointer (some ⟨w.heap.size + 1 + 1, 0, none⟩), .int .i64 (n : Int), .bool false, .pointer (some ⟨P, 0, none⟩), v11, u12, u13, u14, u15, u16, u17, u18, u19, u20, u21, u22, u23, v24, v25, v26, v27, v28, v29, v30, v31, v32, v33, v34, v35, v36, v37, v38, v39, v40, v41, v42, v43, v44, v45, v46, v47, v48, v49, v50, v51, v52, v53, v54, v55, v56, v57, v58, v59, v60, v61, v62, v63, v64, v65, v66, v67, v68, v69, v70, v71, v72, v73, v74, v75, v76, v77, v78, v79, v80, v81, v82, v83, v84, v85, v86, v87, v88, v89, v90, v91, v92, v93, v94, v95, v96, v97, v98, v99, v100, v101, v102, v103, v104, v105, v106, v107, v108, v109, v110, v111, v112, v113, v114, v115, v116, v117, v118, v119, v120, v121, v122, v123, v124, v125, v126, v127, v128, v129, v130, v131, v132, v133, v134, v135, v136, v137, v138, v139, v140, v141, v142, v143, v144, v145, v146, v147, v148, v149, v150, v151, v152, v153, v154, v155, v156, v157, v158, v159, v160, v161, v162, v163, v164, v165, v166, v167, v168, v169, v170, v171, v172, v173, v174, v175, v176, v177, v178, v179, v180, v181, v182, v183, v184, v185, v186, v187, v188, v189, v190, v191, v192, v193, v194, v195, v196, v197, v198, v199, v200, v201, v202, v203, v204, v205, v206, v207, v208, v209, v210, v211, v212, v213, v214, v215, v216, v217, v218, v219, v220, v221, v222, v223, v224, v225, v226, v227, v228, v229, v230, v231, v232, v233, v234, v235, v236, v237, v238, v239, v240, v241, v242, v243, v244, v245, v246, v247, v248, v249, v250, v251, v252, v253, v254, v255, v256, v257, v258], defers := [] } w')) (hn : n = 0) (u5 u11 u24 u25 u26 u27 u28 u29 u30 u31 u32 u33 u34 u35 u36 u37 u38 u39 u40 u41 u42 u43 u44 u45 u46 u47 u48 u49 u50 u51 u52 u53 u54 u55 u56 u57 u58 u59 u60 u61 u62 u63 u64 u65 u66 u67 u68 u69 u70 u71 u72 u73 u74 u75 u76 u77 u78 u79 u80 u81 u82 u83 u84 u85 u86 u87 u88 u89 u90 u91 u92 u93 u94 u95 u96 u97 u98 u99 u100 u101 u102 u103 u104 u105 u106 u107 u108 u109 u110 u111 u112 u113 u114 u115 u116 u117 u118 u119 u120 u121 u122 u123 u124 u125 u126 u127 u128 u129 u130 u131 u132 u133 u134 u135 u136 u137 u138 u139 u140 u141 u142 u143 u144 u145 u146 u147 u148 u149 u150 u151 u152 u153 u154 u155 u156 u157 u158 u159 u160 u161 u162 u163 u164 u165 u166 u167 u168 u169 u170 u171 u172 u173 u174 u175 u176 u177 u178 u179 u180 u181 u182 u183 u184 u185 u186 u187 u188 u189 u190 u191 u192 u193 u194 u195 u196 u197 u198 u199 u200 u201 u202 u203 u204 u205 u206 u207 u208 u209 u210 u211 u212 u213 u214 u215 u216 u217 u218 u219 u220 u221 u222 u223 u224 u225 u226 u227 u228 u229 u230 u231 u232 u233 u234 u235 u236 u237 u238 u239 u240 u241 u242 u243 u244 u245 u246 u247 u248 u249 u250 u251 u252 u253 u254 u255 u256 u257 u258 : Value) :
  Code.wp Tryz.prog be35 Qx { tmps := #[.string ⟨l.toArray⟩, .int .i64 (p : Int), u2, u3, .pointer (some ⟨w.heap.size, 0, none⟩), u5, .pointer (some ⟨w.heap.size + 1, 0, none⟩), .pointer (some ⟨w.heap.size + 1 + 1, 0, none⟩), .int .i64 (n : Int), .bool false, .pointer (some ⟨P, 0, none⟩), u11, u12, u13, u14, u15, u16, u17, u18, u19, u20, u21, u22, u23, u24, u25, u26, u27, u28, u29, u30, u31, u32, u33, u34, u35, u36, u37, u38, u39, u40, u41, u42, u43, u44, u45, u46, u47, u48, u49, u50, u51, u52, u53, u54, u55, u56, u57, u58, u59, u60, u61, u62, u63, u64, u65, u66, u67, u68, u69, u70, u71, u72, u73, u74, u75, u76, u77, u78, u79, u80, u81, u82, u83, u84, u85, u86, u87, u88, u89, u90, u91, u92, u93, u94, u95, u96, u97, u98, u99, u100, u101, u102, u103, u104, u105, u106, u107, u108, u109, u110, u111, u112, u113, u114, u115, u116, u117, u118, u119, u120, u121, u122, u123, u124, u125, u126, u127, u128, u129, u130, u131, u132, u133, u134, u135, u136, u137, u138, u139, u140, u141, u142, u143, u144, u145, u146, u147, u148, u149, u150, u151, u152, u153, u154, u155, u156, u157, u158, u159, u160, u161, u162, u163, u164, u165, u166, u167, u168, u169, u170, u171, u172, u173, u174, u175, u176, u177, u178, u179, u180, u181, u182, u183, u184, u185, u186, u187, u188, u189, u190, u191, u192, u193, u194, u195, u196, u197, u198, u199, u200, u201, u202, u203, u204, u205, u206, u207, u208, u209, u210, u211, u212, u213, u214, u215, u216, u217, u218, u219, u220, u221, u222, u223, u224, u225, u226, u227, u228, u229, u230, u231, u232, u233, u234, u235, u236, u237, u238, u239, u240, u241, u242, u243, u244, u245, u246, u247, u248, u249, u250, u251, u252, u253, u254, u255, u256, u257, u258], defers := [] } wr := by
 have h : be35 = Code.seq _ _ := rfl
 rw [h]
 clear h
 dsimp only
 have HSS := Lib.hid hS
 obtain ⟨p0, p1, p2, p3, p4, p5, p6, p7, p8, p9, p10⟩ := id PB
 clear hS
 subst hn
 go_step
 rename_i K1 h1
 have H1 := Lib.hid h1
 clear h1
 go_step
 rename_i K2 h2
 have H2 := Lib.hid h2
 clear h2
 go_wp2_with fail
 refine H2.out _ _ ?_
 clear H2
 go_step
 go_step
 refine H1.out _ _ ?_
 clear H1
 exact hnext.out _ _ _ _ _ _ _ _ _ _ _ _ _ _ _ _ _ _ _ _ _ _ _ _ _ _ _ _ _ _ _ _ _ _ _ _ _ _ _ _ _ _ _ _ _ _ _ _ _ _ _ _ _ _ _ _ _ _ _ _ _ _ _ _ _ _ _ _ _ _ _ _ _ _ _ _ _ _ _ _ _ _ _ _ _ _ _ _ _ _ _ _ _ _ _ _ _ _ _ _ _ _ _ _ _ _ _ _ _ _ _ _ _ _ _ _ _ _ _ _ _ _ _ _ _ _ _ _ _ _ _ _ _ _ _ _ _ _ _ _ _ _ _ _ _ _ _ _ _ _ _ _ _ _ _ _ _ _ _ _ _ _ _ _ _ _ _ _ _ _ _ _ _ _ _ _ _ _ _ _ _ _ _ _ _ _ _ _ _ _ _ _ _ _ _ _ _ _ _ _ _ _ _ _ _ _ _ _ _ _ _ _ _ _ _ _ _ _ _ _ _ _ _ _ _ _ _ _ _ _ _ _ _ _ _ _ _ wr HSS.out PB
set_option maxHeartbeats 8000000 in
theorem be_skip35b (l : Str) (w wr : World) (RES : Yd.Res Ex) (p n : Nat) (ops : List Yd.Op) (vals : List Ex) (ov vv : Value) (xs : List Value) (P : Nat) (c : Pc) (h2000 : l.length ≤ 2000) (Qx : Exit → Act → World → Prop) (hPan : ∀ (e : List PanicEntry) (d : Option Nat) (v : Value) (a : Act) (w : World), Qx (.panic e) (a.put d v) w → Qx (.panic e) a w) (TT : Ex) (EE : Nat) (CC : Int) (AA : Nat) (u2 u3 u12 u13 u14 u15 u16 u17 u18 u19 u20 u21 u22 u23 : Value) (hS : YS w wr (w.heap.size + 1 + 1 + 1) (w.heap.size + 1 + 1) l RES p n false ops vals ov vv xs) (PB : PcBox wr P c) (hP : (w.heap.size + 1 + 1 + 1) ≤ P) (hPo : some P ≠ ov.ownBlock) (hPv : some P ≠ vv.ownBlock)   (hnext : Hid (∀ (v5 v11 v24 v25 v26 v27 v28 v29 v30 v31 v32 v33 v34 v35 v36 v37 v38 v39 v40 v41 v42 v43 v44 v45 v46 v47 v48 v49 v50 v51 v52 v53 v54 v55 v56 v57 v58 v59 v60 v61 v62 v63 v64 v65 v66 v67 v68 v69 v70 v71 v72 v73 v74 v75 v76 v77 v78 v79 v80 v81 v82 v83 v84 v85 v86 v87 v88 v89 v90 v91 v92 v93 v94 v95 v96 v97 v98 v99 v100 v101 v102 v103 v104 v105 v106 v107 v108 v109 v110 v111 v112 v113 v114 v115 v116 v117 v118 v119 v120 v121 v122 v123 v124 v125 v126 v127 v128 v129 v130 v131 v132 v133 v134 v135 v136 v137 v138 v139 v140 v141 v142 v143 v144 v145 v146 v147 v148 v149 v150 v151 v152 v153 v154 v155 v156 v157 v158 v159 v160 v161 v162 v163 v164 v165 v166 v167 v168 v169 v170 v171 v172 v173 v174 v175 v176 v177 v178 v179 v180 v181 v182 v183 v184 v185 v186 v187 v188 v189 v190 v191 v192 v193 v194 v195 v196 v197 v198 v199 v200 v201 v202 v203 v204 v205 v206 v207 v208 v209 v210 v211 v212 v213 v214 v215 v216 v217 v218 v219 v220 v221 v222 v223 v224 v225 v226 v227 v228 v229 v230 v231 v232 v233 v234 v235 v236 v237 v238 v239 v240 v241 v242 v243 v244 v245 v246 v247 v248 v249 v250 v251 v252 v253 v254 v255 v256 v257 v258 : Value) (w' : World), YS w w' (w.heap.size + 1 + 1 + 1) (w.heap.size + 1 + 1) l RES p n false ops vals ov vv xs → PcBox w' P c → Code.wp Tryz.prog be41 Qx { tmps := #[.string ⟨l.toArray⟩, .int .i64 (p : Int), u2, u3, .pointer (some ⟨w.heap.size, 0, none⟩), v5, .pointer (some ⟨w.heap.size + 1, 0, none⟩), .pointer (some ⟨w.heap.size + 1 + 1, 0, none⟩), .int .i64 (n : Int), .bool false, .pointer (some ⟨P, 0, none⟩), v11, u12, u13, u14, u15, u16, u17, u18, u19, u20, u21, u22, u23, v24, v25, v26, v27, v28, v29, v30, v31, v32, v33, v34, v35, v36, v37, v38, v39, v40, v41, v42, v43, v44, v45, v46, v47, v48, v49, v50, v51, v52, v53, v54, v55, v56, v57, v58, v59, v60, v61, v62, v63, v64, v65, v66, v67, v68, v69, v70, v71, v72, v73, v74, v75, v76, v77, v78, v79, v80, v81, v82, v83, v84, v85, v86, v87, v88, v89, v90, v91, v92, v93, v94, v95, v96, v97, v98, v99, v100, v101, v102, v103, v104, v105, v106, v107, v108, v109, v110, v111, v112, v113, v114, v115, v116, v117, v118, v119, v120, v121, v122, v123, v124, v125, v126, v127, v128, v129, v130, v131, v132, v133, v134, v135, v136, v137, v138, v139, v140, v141, v142, v143, v144, v145, v146, v147, v148, v149, v150, v151, v152, v153, v154, v155, v156, v157, v158, v159, v160, v161, v162, v163, v164, v165, v166, v167, v168, v169, v170, v171, v172, v173, v174, v175, v176, v177, v178, v179, v180, v181, v182, v183, v184, v185, v186, v187, v188, v189, v190, v191, v192, v193, v194, v195, v196, v197, v198, v199, v200, v201, v202, v203, v204, v205, v206, v207, v208, v209, v210, v211, v212, v213, v214, v215, v216, v217, v218, v219, v220, v221, v222, v223, v224, v225, v226, v227, v228, v229, v230, v231, v232, v233, v234, v235, v236, v237, v238, v239, v240, v241, v242, v243, v244, v245, v246, v247, v248, v249, v250, v251, v252, v253, v254, v255, v256, v257, v258], defers := [] } w')) (hn : 0 < n) (ht : (c.text == [41]) = false) (u5 u11 u24 u25 u26 u27 u28 u29 u30 u31 u32 u33 u34 u35 u36 u37 u38 u39 u40 u41 u42 u43 u44 u45 u46 u47 u48 u49 u50 u51 u52 u53 u54 u55 u56 u57 u58 u59 u60 u61 u62 u63 u64 u65 u66 u67 u68 u69 u70 u71 u72 u73 u74 u75 u76 u77 u78 u79 u80 u81 u82 u83 u84 u85 u86 u87 u88 u89 u90 u91 u92 u93 u94 u95 u96 u97 u98 u99 u100 u101 u102 u103 u104 u105 u106 u107 u108 u109 u110 u111 u112 u113 u114 u115 u116 u117 u118 u119 u120 u121 u122 u123 u124 u125 u126 u127 u128 u129 u130 u131 u132 u133 u134 u135 u136 u137 u138 u139 u140 u141 u142 u143 u144 u145 u146 u147 u148 u149 u150 u151 u152 u153 u154 u155 u156 u157 u158 u159 u160 u161 u162 u163 u164 u165 u166 u167 u168 u169 u170 u171 u172 u173 u174 u175 u176 u177 u178 u179 u180 u181 u182 u183 u184 u185 u186 u187 u188 u189 u190 u191 u192 u193 u194 u195 u196 u197 u198 u199 u200 u201 u202 u203 u204 u205 u206 u207 u208 u209 u210 u211 u212 u213 u214 u215 u216 u217 u218 u219 u220 u221 u222 u223 u224 u225 u226 u227 u228 u229 u230 u231 u232 u233 u234 u235 u236 u237 u238 u239 u240 u241 u242 u243 u244 u245 u246 u247 u248 u249 u250 u251 u252 u253 u254 u255 u256 u257 u258 : Value) :
  Code.wp Tryz.prog be35 Qx { tmps := #[.string ⟨l.toArray⟩, .int .i64 (p : Int), u2, u3, .pointer (some ⟨w.heap.size, 0, none⟩), u5, .pointer (some ⟨w.heap.size + 1, 0, none⟩), .pointer (some ⟨w.heap.size + 1 + 1, 0, none⟩), .int .i64 (n : Int), .bool false, .pointer (some ⟨P, 0, none⟩), u11, u12, u13, u14, u15, u16, u17, u18, u19, u20, u21, u22, u23, u24, u25, u26, u27, u28, u29, u30, u31, u32, u33, u34, u35, u36, u37, u38, u39, u40, u41, u42, u43, u44, u45, u46, u47, u48, u49, u50, u51, u52, u53, u54, u55, u56, u57, u58, u59, u60, u61, u62, u63, u64, u65, u66, u67, u68, u69, u70, u71, u72, u73, u74, u75, u76, u77, u78, u79, u80, u81, u82, u83, u84, u85, u86, u87, u88, u89, u90, u91, u92, u93, u94, u95, u96, u97, u98, u99, u100, u101, u102, u103, u104, u105, u106, u107, u108, u109, u110, u111, u112, u113, u114, u115, u116, u117, u118, u119, u120, u121, u122, u123, u124, u125, u126, u127, u128, u129, u130, u131, u132, u133, u134, u135, u136, u137, u138, u139, u140, u141, u142, u143, u144, u145, u146, u147, u148, u149, u150, u151, u152, u153, u154, u155, u156, u157, u158, u159, u160, u161, u162, u163, u164, u165, u166, u167, u168, u169, u170, u171, u172, u173, u174, u175, u176, u177, u178, u179, u180, u181, u182, u183, u184, u185, u186, u187, u188, u189, u190, u191, u192, u193, u194, u195, u196, u197, u198, u199, u200, u201, u202, u203, u204, u205, u206, u207, u208, u209, u210, u211, u212, u213, u214, u215, u216, u217, u218, u219, u220, u221, u222, u223, u224, u225, u226, u227, u228, u229, u230, u231, u232, u233, u234, u235, u236, u237, u238, u239, u240, u241, u242, u243, u244, u245, u246, u247, u248, u249, u250, u251, u252, u253, u254, u255, u256, u257, u258], defers := [] } wr := by
 have h : be35 = Code.seq _ _ := rfl
 rw [h]
 clear h
 dsimp only
 have HSS := Lib.hid hS
 obtain ⟨p0, p1, p2, p3, p4, p5, p6, p7, p8, p9, p10⟩ := id PB
 clear hS
 have hn' : (0 : Int) < (n : Int) := by omega
 go_step
 rename_i K1 h1
 have H1 := Lib.hid h1
 clear h1
 go_step
 rename_i K2 h2
 have H2 := Lib.hid h2
 clear h2
 go_wp2_with fail
 refine H2.out _ _ ?_
 clear H2
 go_step
 go_step
 refine H1.out _ _ ?_
 clear H1
 exact hnext.out _ _ _ _ _ _ _ _ _ _ _ _ _ _ _ _ _ _ _ _ _ _ _ _ _ _ _ _ _ _ _ _ _ _ _ _ _ _ _ _ _ _ _ _ _ _ _ _ _ _ _ _ _ _ _ _ _ _ _ _ _ _ _ _ _ _ _ _ _ _ _ _ _ _ _ _ _ _ _ _ _ _ _ _ _ _ _ _ _ _ _ _ _ _ _ _ _ _ _ _ _ _ _ _ _ _ _ _ _ _ _ _ _ _ _ _ _ _ _ _ _ _ _ _ _ _ _ _ _ _ _ _ _ _ _ _ _ _ _ _ _ _ _ _ _ _ _ _ _ _ _ _ _ _ _ _ _ _ _ _ _ _ _ _ _ _ _ _ _ _ _ _ _ _ _ _ _ _ _ _ _ _ _ _ _ _ _ _ _ _ _ _ _ _ _ _ _ _ _ _ _ _ _ _ _ _ _ _ _ _ _ _ _ _ _ _ _ _ _ _ _ _ _ _ _ _ _ _ _ _ _ _ _ _ _ _ _ wr HSS.out PB
set_option maxHeartbeats 8000000 in
theorem be_skip41 (l : Str) (w wr : World) (RES : Yd.Res Ex) (p n : Nat) (ops : List Yd.Op) (vals : List Ex) (ov vv : Value) (xs : List Value) (P : Nat) (c : Pc) (h2000 : l.length ≤ 2000) (Qx : Exit → Act → World → Prop) (hPan : ∀ (e : List PanicEntry) (d : Option Nat) (v : Value) (a : Act) (w : World), Qx (.panic e) (a.put d v) w → Qx (.panic e) a w) (TT : Ex) (EE : Nat) (CC : Int) (AA : Nat) (u2 u3 u12 u13 u14 u15 u16 u17 u18 u19 u20 u21 u22 u23 : Value) (hS : YS w wr (w.heap.size + 1 + 1 + 1) (w.heap.size + 1 + 1) l RES p n false ops vals ov vv xs) (PB : PcBox wr P c) (hP : (w.heap.size + 1 + 1 + 1) ≤ P) (hPo : some P ≠ ov.ownBlock) (hPv : some P ≠ vv.ownBlock)   (hnext : Hid (∀ (v5 v11 v24 v25 v26 v27 v28 v29 v30 v31 v32 v33 v34 v35 v36 v37 v38 v39 v40 v41 v42 v43 v44 v45 v46 v47 v48 v49 v50 v51 v52 v53 v54 v55 v56 v57 v58 v59 v60 v61 v62 v63 v64 v65 v66 v67 v68 v69 v70 v71 v72 v73 v74 v75 v76 v77 v78 v79 v80 v81 v82 v83 v84 v85 v86 v87 v88 v89 v90 v91 v92 v93 v94 v95 v96 v97 v98 v99 v100 v101 v102 v103 v104 v105 v106 v107 v108 v109 v110 v111 v112 v113 v114 v115 v116 v117 v118 v119 v120 v121 v122 v123 v124 v125 v126 v127 v128 v129 v130 v131 v132 v133 v134 v135 v136 v137 v138 v139 v140 v141 v142 v143 v144 v145 v146 v147 v148 v149 v150 v151 v152 v153 v154 v155 v156 v157 v158 v159 v160 v161 v162 v163 v164 v165 v166 v167 v168 v169 v170 v171 v172 v173 v174 v175 v176 v177 v178 v179 v180 v181 v182 v183 v184 v185 v186 v187 v188 v189 v190 v191 v192 v193 v194 v195 v196 v197 v198 v199 v200 v201 v202 v203 v204 v205 v206 v207 v208 v209 v210 v211 v212 v213 v214 v215 v216 v217 v218 v219 v220 v221 v222 v223 v224 v225 v226 v227 v228 v229 v230 v231 v232 v233 v234 v235 v236 v237 v238 v239 v240 v241 v242 v243 v244 v245 v246 v247 v248 v249 v250 v251 v252 v253 v254 v255 v256 v257 v258 : Value) (w' : World), YS w w' (w.heap.size + 1 + 1 + 1) (w.heap.size + 1 + 1) l RES p n false ops vals ov vv xs → PcBox w' P c → Code.wp Tryz.prog beE Qx { tmps := #[.string ⟨l.toArray⟩, .int .i64 (p : Int), u2, u3, .pointer (some ⟨w.heap.size, 0, none⟩), v5, .pointer (some ⟨w.heap.size + 1, 0, none⟩), .pointer (some ⟨w.heap.size + 1 + 1, 0, none⟩), .int .i64 (n : Int), .bool false, .pointer (some ⟨P, 0, none⟩), v11, u12, u13, u14, u15, u16, u17, u18, u19, u20, u21, u22, u23, v24, v25, v26, v27, v28, v29, v30, v31, v32, v33, v34, v35, v36, v37, v38, v39, v40, v41, v42, v43, v44, v45, v46, v47, v48, v49, v50, v51, v52, v53, v54, v55, v56, v57, v58, v59, v60, v61, v62, v63, v64, v65, v66, v67, v68, v69, v70, v71, v72, v73, v74, v75, v76, v77, v78, v79, v80, v81, v82, v83, v84, v85, v86, v87, v88, v89, v90, v91, v92, v93, v94, v95, v96, v97, v98, v99, v100, v101, v102, v103, v104, v105, v106, v107, v108, v109, v110, v111, v112, v113, v114, v115, v116, v117, v118, v119, v120, v121, v122, v123, v124, v125, v126, v127, v128, v129, v130, v131, v132, v133, v134, v135, v136, v137, v138, v139, v140, v141, v142, v143, v144, v145, v146, v147, v148, v149, v150, v151, v152, v153, v154, v155, v156, v157, v158, v159, v160, v161, v162, v163, v164, v165, v166, v167, v168, v169, v170, v171, v172, v173, v174, v175, v176, v177, v178, v179, v180, v181, v182, v183, v184, v185, v186, v187, v188, v189, v190, v191, v192, v193, v194, v195, v196, v197, v198, v199, v200, v201, v202, v203, v204, v205, v206, v207, v208, v209, v210, v211, v212, v213, v214, v215, v216, v217, v218, v219, v220, v221, v222, v223, v224, v225, v226, v227, v228, v229, v230, v231, v232, v233, v234, v235, v236, v237, v238, v239, v240, v241, v242, v243, v244, v245, v246, v247, v248, v249, v250, v251, v252, v253, v254, v255, v256, v257, v258], defers := [] } w')) (hn : n = 0) (u5 u11 u24 u25 u26 u27 u28 u29 u30 u31 u32 u33 u34 u35 u36 u37 u38 u39 u40 u41 u42 u43 u44 u45 u46 u47 u48 u49 u50 u51 u52 u53 u54 u55 u56 u57 u58 u59 u60 u61 u62 u63 u64 u65 u66 u67 u68 u69 u70 u71 u72 u73 u74 u75 u76 u77 u78 u79 u80 u81 u82 u83 u84 u85 u86 u87 u88 u89 u90 u91 u92 u93 u94 u95 u96 u97 u98 u99 u100 u101 u102 u103 u104 u105 u106 u107 u108 u109 u110 u111 u112 u113 u114 u115 u116 u117 u118 u119 u120 u121 u122 u123 u124 u125 u126 u127 u128 u129 u130 u131 u132 u133 u134 u135 u136 u137 u138 u139 u140 u141 u142 u143 u144 u145 u146 u147 u148 u149 u150 u151 u152 u153 u154 u155 u156 u157 u158 u159 u160 u161 u162 u163 u164 u165 u166 u167 u168 u169 u170 u171 u172 u173 u174 u175 u176 u177 u178 u179 u180 u181 u182 u183 u184 u185 u186 u187 u188 u189 u190 u191 u192 u193 u194 u195 u196 u197 u198 u199 u200 u201 u202 u203 u204 u205 u206 u207 u208 u209 u210 u211 u212 u213 u214 u215 u216 u217 u218 u219 u220 u221 u222 u223 u224 u225 u226 u227 u228 u229 u230 u231 u232 u233 u234 u235 u236 u237 u238 u239 u240 u241 u242 u243 u244 u245 u246 u247 u248 u249 u250 u251 u252 u253 u254 u255 u256 u257 u258 : Value) :
  Code.wp Tryz.prog be41 Qx { tmps := #[.string ⟨l.toArray⟩, .int .i64 (p : Int), u2, u3, .pointer (some ⟨w.heap.size, 0, none⟩), u5, .pointer (some ⟨w.heap.size + 1, 0, none⟩), .pointer (some ⟨w.heap.size + 1 + 1, 0, none⟩), .int .i64 (n : Int), .bool false, .pointer (some ⟨P, 0, none⟩), u11, u12, u13, u14, u15, u16, u17, u18, u19, u20, u21, u22, u23, u24, u25, u26, u27, u28, u29, u30, u31, u32, u33, u34, u35, u36, u37, u38, u39, u40, u41, u42, u43, u44, u45, u46, u47, u48, u49, u50, u51, u52, u53, u54, u55, u56, u57, u58, u59, u60, u61, u62, u63, u64, u65, u66, u67, u68, u69, u70, u71, u72, u73, u74, u75, u76, u77, u78, u79, u80, u81, u82, u83, u84, u85, u86, u87, u88, u89, u90, u91, u92, u93, u94, u95, u96, u97, u98, u99, u100, u101, u102, u103, u104, u105, u106, u107, u108, u109, u110, u111, u112, u113, u114, u115, u116, u117, u118, u119, u120, u121, u122, u123, u124, u125, u126, u127, u128, u129, u130, u131, u132, u133, u134, u135, u136, u137, u138, u139, u140, u141, u142, u143, u144, u145, u146, u147, u148, u149, u150, u151, u152, u153, u154, u155, u156, u157, u158, u159, u160, u161, u162, u163, u164, u165, u166, u167, u168, u169, u170, u171, u172, u173, u174, u175, u176, u177, u178, u179, u180, u181, u182, u183, u184, u185, u186, u187, u188, u189, u190, u191, u192, u193, u194, u195, u196, u197, u198, u199, u200, u201, u202, u203, u204, u205, u206, u207, u208, u209, u210, u211, u212, u213, u214, u215, u216, u217, u218, u219, u220, u221, u222, u223, u224, u225, u226, u227, u228, u229, u230, u231, u232, u233, u234, u235, u236, u237, u238, u239, u240, u241, u242, u243, u244, u245, u246, u247, u248, u249, u250, u251, u252, u253, u254, u255, u256, u257, u258], defers := [] } wr := by
 have h : be41 = Code.seq _ _ := rfl
 rw [h]
 clear h
 dsimp only
 have HSS := Lib.hid hS
 obtain ⟨p0, p1, p2, p3, p4, p5, p6, p7, p8, p9, p10⟩ := id PB
 clear hS
 subst hn
 go_step
 rename_i K1 h1
 have H1 := Lib.hid h1
 clear h1
 go_step
 rename_i K2 h2
 have H2 := Lib.hid h2
 clear h2
 go_wp2_with fail
 refine H2.out _ _ ?_
 clear H2
 go_step
 go_step
 refine H1.out _ _ ?_
 clear H1
 exact hnext.out _ _ _ _ _ _ _ _ _ _ _ _ _ _ _ _ _ _ _ _ _ _ _ _ _ _ _ _ _ _ _ _ _ _ _ _ _ _ _ _ _ _ _ _ _ _ _ _ _ _ _ _ _ _ _ _ _ _ _ _ _ _ _ _ _ _ _ _ _ _ _ _ _ _ _ _ _ _ _ _ _ _ _ _ _ _ _ _ _ _ _ _ _ _ _ _ _ _ _ _ _ _ _ _ _ _ _ _ _ _ _ _ _ _ _ _ _ _ _ _ _ _ _ _ _ _ _ _ _ _ _ _ _ _ _ _ _ _ _ _ _ _ _ _ _ _ _ _ _ _ _ _ _ _ _ _ _ _ _ _ _ _ _ _ _ _ _ _ _ _ _ _ _ _ _ _ _ _ _ _ _ _ _ _ _ _ _ _ _ _ _ _ _ _ _ _ _ _ _ _ _ _ _ _ _ _ _ _ _ _ _ _ _ _ _ _ _ _ _ _ _ _ _ _ _ _ _ _ _ _ _ _ _ _ _ _ _ wr HSS.out PB
set_option maxHeartbeats 8000000 in
theorem be_bin (l : Str) (w wr : World) (RES : Yd.Res Ex) (p n : Nat) (ops : List Yd.Op) (vals : List Ex) (ov vv : Value) (xs : List Value) (P : Nat) (c : Pc) (h2000 : l.length ≤ 2000) (Qx : Exit → Act → World → Prop) (hPan : ∀ (e : List PanicEntry) (d : Option Nat) (v : Value) (a : Act) (w : World), Qx (.panic e) (a.put d v) w → Qx (.panic e) a w) (TT : Ex) (EE : Nat) (CC : Int) (AA : Nat) (u2 u3 u12 u13 u14 u15 u16 u17 u18 u19 u20 u21 u22 u23 : Value) (hS : YS w wr (w.heap.size + 1 + 1 + 1) (w.heap.size + 1 + 1) l RES p n false ops vals ov vv xs) (PB : PcBox wr P c) (hP : (w.heap.size + 1 + 1 + 1) ≤ P) (hPo : some P ≠ ov.ownBlock) (hPv : some P ≠ vv.ownBlock) (hN : Hid (∀ (v5 v10 v11 v24 v25 v26 v27 v28 v29 v30 v31 v32 v33 v34 v35 v36 v37 v38 v39 v40 v41 v42 v43 v44 v45 v46 v47 v48 v49 v50 v51 v52 v53 v54 v55 v56 v57 v58 v59 v60 v61 v62 v63 v64 v65 v66 v67 v68 v69 v70 v71 v72 v73 v74 v75 v76 v77 v78 v79 v80 v81 v82 v83 v84 v85 v86 v87 v88 v89 v90 v91 v92 v93 v94 v95 v96 v97 v98 v99 v100 v101 v102 v103 v104 v105 v106 v107 v108 v109 v110 v111 v112 v113 v114 v115 v116 v117 v118 v119 v120 v121 v122 v123 v124 v125 v126 v127 v128 v129 v130 v131 v132 v133 v134 v135 v136 v137 v138 v139 v140 v141 v142 v143 v144 v145 v146 v147 v148 v149 v150 v151 v152 v153 v154 v155 v156 v157 v158 v159 v160 v161 v162 v163 v164 v165 v166 v167 v168 v169 v170 v171 v172 v173 v174 v175 v176 v177 v178 v179 v180 v181 v182 v183 v184 v185 v186 v187 v188 v189 v190 v191 v192 v193 v194 v195 v196 v197 v198 v199 v200 v201 v202 v203 v204 v205 v206 v207 v208 v209 v210 v211 v212 v213 v214 v215 v216 v217 v218 v219 v220 v221 v222 v223 v224 v225 v226 v227 v228 v229 v230 v231 v232 v233 v234 v235 v236 v237 v238 v239 v240 v241 v242 v243 v244 v245 v246 v247 v248 v249 v250 v251 v252 v253 v254 v255 v256 v257 v258 : Value) (w' : World) (p' n' : Nat) (o' : Bool) (ops' : List Yd.Op) (vals' : List Ex) (ov' vv' : Value) (xs' : List Value), p < p' → YS w w' (w.heap.size + 1 + 1 + 1) (w.heap.size + 1 + 1) l RES p' n' o' ops' vals' ov' vv' xs' → Qx (.exit 1) { tmps := #[.string ⟨l.toArray⟩, .int .i64 (p' : Int), u2, u3, .pointer (some ⟨w.heap.size, 0, none⟩), v5, .pointer (some ⟨w.heap.size + 1, 0, none⟩), .pointer (some ⟨w.heap.size + 1 + 1, 0, none⟩), .int .i64 (n' : Int), .bool o', v10, v11, u12, u13, u14, u15, u16, u17, u18, u19, u20, u21, u22, u23, v24, v25, v26, v27, v28, v29, v30, v31, v32, v33, v34, v35, v36, v37, v38, v39, v40, v41, v42, v43, v44, v45, v46, v47, v48, v49, v50, v51, v52, v53, v54, v55, v56, v57, v58, v59, v60, v61, v62, v63, v64, v65, v66, v67, v68, v69, v70, v71, v72, v73, v74, v75, v76, v77, v78, v79, v80, v81, v82, v83, v84, v85, v86, v87, v88, v89, v90, v91, v92, v93, v94, v95, v96, v97, v98, v99, v100, v101, v102, v103, v104, v105, v106, v107, v108, v109, v110, v111, v112, v113, v114, v115, v116, v117, v118, v119, v120, v121, v122, v123, v124, v125, v126, v127, v128, v129, v130, v131, v132, v133, v134, v135, v136, v137, v138, v139, v140, v141, v142, v143, v144, v145, v146, v147, v148, v149, v150, v151, v152, v153, v154, v155, v156, v157, v158, v159, v160, v161, v162, v163, v164, v165, v166, v167, v168, v169, v170, v171, v172, v173, v174, v175, v176, v177, v178, v179, v180, v181, v182, v183, v184, v185, v186, v187, v188, v189, v190, v191, v192, v193, v194, v195, v196, v197, v198, v199, v200, v201, v202, v203, v204, v205, v206, v207, v208, v209, v210, v211, v212, v213, v214, v215, v216, v217, v218, v219, v220, v221, v222, v223, v224, v225, v226, v227, v228, v229, v230, v231, v232, v233, v234, v235, v236, v237, v238, v239, v240, v241, v242, v243, v244, v245, v246, v247, v248, v249, v250, v251, v252, v253, v254, v255, v256, v257, v258], defers := [] } w'))  (k : Nat) (hk : 0 < k) (hok0 : OpOk (.bi c.text k)) (hb : ebin l p = some (c.text, k, c.to_)) (hto : c.to_ ≤ l.length) (hpt : p < c.to_) (u5 u24 u25 u26 u27 u28 u29 u30 u31 u32 u33 u34 u35 u36 u37 u38 u39 u40 u41 u42 u43 u44 u45 u46 u47 u48 u49 u50 u51 u52 u53 u54 u55 u56 u57 u58 u59 u60 u61 u62 u63 u64 u65 u66 u67 u68 u69 u70 u71 u72 u73 u74 u75 u76 u77 u78 u79 u80 u81 u82 u83 u84 u85 u86 u87 u88 u89 u90 u91 u92 u93 u94 u95 u96 u97 u98 u99 u100 u101 u102 u103 u104 u105 u106 u107 u108 u109 u110 u111 u112 u113 u114 u115 u116 u117 u118 u119 u120 u121 u122 u123 u124 u125 u126 u127 u128 u129 u130 u131 u132 u133 u134 u135 u136 u137 u138 u139 u140 u141 u142 u143 u144 u145 u146 u147 u148 u149 u150 u151 u152 u153 u154 u155 u156 u157 u158 u159 u160 u161 u162 u163 u164 u165 u166 u167 u168 u169 u170 u171 u172 u173 u174 u175 u176 u177 u178 u179 u180 u181 u182 u183 u184 u185 u186 u187 u188 u189 u190 u191 u192 u193 u194 u195 u196 u197 u198 u199 u200 u201 u202 u203 u204 u205 u206 u207 u208 u209 u210 u211 u212 u213 u214 u215 u216 u217 u218 u219 u220 u221 u222 u223 u224 u225 u226 u227 u228 u229 u230 u231 u232 u233 u234 u235 u236 u237 u238 u239 u240 u241 u242 u243 u244 u245 u246 u247 u248 u249 u250 u251 u252 u253 u254 u255 u256 u257 u258 : Value) :
  Code.wp Tryz.prog be29 Qx { tmps := #[.string ⟨l.toArray⟩, .int .i64 (p : Int), u2, u3, .pointer (some ⟨w.heap.size, 0, none⟩), u5, .pointer (some ⟨w.heap.size + 1, 0, none⟩), .pointer (some ⟨w.heap.size + 1 + 1, 0, none⟩), .int .i64 (n : Int), .bool false, .pointer (some ⟨P, 0, none⟩), .int .i64 (k : Int), u12, u13, u14, u15, u16, u17, u18, u19, u20, u21, u22, u23, u24, u25, u26, u27, u28, u29, u30, u31, u32, u33, u34, u35, u36, u37, u38, u39, u40, u41, u42, u43, u44, u45, u46, u47, u48, u49, u50, u51, u52, u53, u54, u55, u56, u57, u58, u59, u60, u61, u62, u63, u64, u65, u66, u67, u68, u69, u70, u71, u72, u73, u74, u75, u76, u77, u78, u79, u80, u81, u82, u83, u84, u85, u86, u87, u88, u89, u90, u91, u92, u93, u94, u95, u96, u97, u98, u99, u100, u101, u102, u103, u104, u105, u106, u107, u108, u109, u110, u111, u112, u113, u114, u115, u116, u117, u118, u119, u120, u121, u122, u123, u124, u125, u126, u127, u128, u129, u130, u131, u132, u133, u134, u135, u136, u137, u138, u139, u140, u141, u142, u143, u144, u145, u146, u147, u148, u149, u150, u151, u152, u153, u154, u155, u156, u157, u158, u159, u160, u161, u162, u163, u164, u165, u166, u167, u168, u169, u170, u171, u172, u173, u174, u175, u176, u177, u178, u179, u180, u181, u182, u183, u184, u185, u186, u187, u188, u189, u190, u191, u192, u193, u194, u195, u196, u197, u198, u199, u200, u201, u202, u203, u204, u205, u206, u207, u208, u209, u210, u211, u212, u213, u214, u215, u216, u217, u218, u219, u220, u221, u222, u223, u224, u225, u226, u227, u228, u229, u230, u231, u232, u233, u234, u235, u236, u237, u238, u239, u240, u241, u242, u243, u244, u245, u246, u247, u248, u249, u250, u251, u252, u253, u254, u255, u256, u257, u258], defers := [] } wr := by
 have h : be29 = Code.seq _ _ := rfl
 rw [h]
 clear h
 dsimp only
 have HSS := Lib.hid hS
 obtain ⟨p0, p1, p2, p3, p4, p5, p6, p7, p8, p9, p10⟩ := id PB
 clear hS
 have hk' : (0 : Int) < (k : Int) := by omega
 have hrun := Lib.hid (HSS.out.run.of_bin hb)
 have hW0 := HSS.out.yw h2000 PB hP hPo hPv
 have hsz0 : ops.length + Yd.nBi ops + 1 ≤ p := by have h1 := HSS.out.sz; have h2 := HSS.out.bi; simp only [Bool.false_eq_true, if_false] at h2; omega
 have hpl := HSS.out.pl
 go_step
 rename_i K1 h1
 have H1 := Lib.hid h1
 clear h1
 go_step
 rename_i K2 h2
 have H2 := Lib.hid h2
 clear h2
 go_wp2_with fail
 refine H2.out _ _ ?_
 clear H2
 go_step
 clear p0 p1 p2 p3 p4 p5 p6 p7 p8 p9 p10 PB HSS hPo hPv
 go_step
 rename_i K3 h3
 have H3 := Lib.hid h3
 clear h3
 go_step
 go_loopg [] ops.length (fun gk wz => ∃ (ops' : List Yd.Op) (vals' : List Ex) (ov' vv' : Value) (xs' : List Value), ops'.length ≤ gk ∧ Hid (Yd.redW unX biX k ops' vals' = Yd.redW unX biX k ops vals) ∧ Hid (ops'.length + Yd.nBi ops' ≤ ops.length + Yd.nBi ops) ∧ YW w wz n P c ops' vals' ov' vv' xs')
 case atStart => exact ⟨ops, vals, ov, vv, xs, Nat.le_refl _, Lib.hid rfl, Lib.hid (Nat.le_refl _), hW0⟩
 case round =>
  clear hW0
  obtain ⟨ops', vals', ov', vv', xs', hgk, HR0, HL0, hW⟩ := hrel
  have HW := Lib.hid hW
  have c0 := hW.yd.c0
  have hov : ∃ A C, ov' = .slice A ops'.length C := by
   obtain ⟨A, C, e⟩ := own_form hW.yd.own
   rw [List.length_reverse, List.length_map] at e
   exact ⟨A, C, e⟩
  clear hW
  obtain ⟨A, C, rfl⟩ := hov
  cases ops' with
  | nil =>
   simp only [List.length_nil] at c0
   go_step
   rename_i K4 h4
   have H4 := Lib.hid h4
   clear h4
   go_step
   rename_i K5 h5
   have H5 := Lib.hid h5
   clear h5
   have HSd : Hid (wr.drew.cell? ⟨w.heap.size + 1 + 1, 0, none⟩ = some (.slice A 0 C)) := Lib.hid c0
   refine wp_region_T 23 (fun w' => w'.cell? ⟨w.heap.size + 1 + 1, 0, none⟩ = some (.slice A 0 C)) (by kernel_rfl) ?_
   refine wpT_takeT (i := 0) (v := ?_) rfl (by kernel_rfl) (by kernel_rfl) (by kernel_rfl) (by kernel_rfl) (by kernel_rfl) (fun _ _ _ h => hPan _ _ _ _ _ h) (Or.inl ⟨by rfl, ?_⟩) HSd.out ?_
   rotate_left
   ·(intro wq hSw; obtain q0 := id hSw; go_simp; all_goals (first | (with_reducible rfl) | (intro hh; omega) | (rw [if_pos (by omega)]; done) | (rw [if_neg (by omega)]; done) | skip))
   try simp only [zA, zB, zC, Act.put, zD, zE, zF]
   refine wpT_takeT (i := 1) (v := ?_) rfl (by kernel_rfl) (by kernel_rfl) (by kernel_rfl) (by kernel_rfl) (by kernel_rfl) (fun _ _ _ h => hPan _ _ _ _ _ h) (Or.inl ⟨by rfl, ?_⟩) HSd.out ?_
   rotate_left
   ·(intro wq hSw; obtain q0 := id hSw; go_simp; all_goals (first | (with_reducible rfl) | (intro hh; omega) | (rw [if_pos (by omega)]; done) | (rw [if_neg (by omega)]; done) | skip))
   try simp only [zA, zB, zC, Act.put, zD, zE, zF]
   refine wpT_takeT (i := 2) (v := ?_) rfl (by kernel_rfl) (by kernel_rfl) (by kernel_rfl) (by kernel_rfl) (by kernel_rfl) (fun _ _ _ h => hPan _ _ _ _ _ h) (Or.inl ⟨by rfl, ?_⟩) HSd.out ?_
   rotate_left
   ·(intro wq hSw; obtain q0 := id hSw; go_simp; all_goals (first | (with_reducible rfl) | (intro hh; omega) | (rw [if_pos (by omega)]; done) | (rw [if_neg (by omega)]; done) | skip))
   try simp only [zA, zB, zC, Act.put, zD, zE, zF]
   refine wpT_takeT (i := 3) (v := ?_) rfl (by kernel_rfl) (by kernel_rfl) (by kernel_rfl) (by kernel_rfl) (by kernel_rfl) (fun _ _ _ h => hPan _ _ _ _ _ h) (Or.inl ⟨by rfl, ?_⟩) HSd.out ?_
   rotate_left
   ·(intro wq hSw; obtain q0 := id hSw; go_simp; all_goals (first | (with_reducible rfl) | (intro hh; omega) | (rw [if_pos (by omega)]; done) | (rw [if_neg (by omega)]; done) | skip))
   try simp only [zA, zB, zC, Act.put, zD, zE, zF]
   refine wpT_takeT (i := 4) (v := ?_) rfl (by kernel_rfl) (by kernel_rfl) (by kernel_rfl) (by kernel_rfl) (by kernel_rfl) (fun _ _ _ h => hPan _ _ _ _ _ h) (Or.inl ⟨by rfl, ?_⟩) HSd.out ?_
   rotate_left
   ·(intro wq hSw; obtain q0 := id hSw; go_simp; all_goals (first | (with_reducible rfl) | (intro hh; omega) | (rw [if_pos (by omega)]; done) | (rw [if_neg (by omega)]; done) | skip))
   try simp only [zA, zB, zC, Act.put, zD, zE, zF]
   refine wpT_takeT (i := 5) (v := .bool false) rfl (by kernel_rfl) (by kernel_rfl) (by kernel_rfl) (by kernel_rfl) (by kernel_rfl) (fun _ _ _ h => hPan _ _ _ _ _ h) (Or.inl ⟨by rfl, ?_⟩) HSd.out ?_
   ·(intro wq hSw; obtain q0 := id hSw; go_simp; all_goals (first | (with_reducible rfl) | (intro hh; omega) | (rw [if_pos (by omega)]; done) | (rw [if_neg (by omega)]; done) | skip))
   try simp only [zA, zB, zC, Act.put, zD, zE, zF]
   refine wpT_takeT (i := 6) (v := ?_) rfl (by kernel_rfl) (by kernel_rfl) (by kernel_rfl) (by kernel_rfl) (by kernel_rfl) (fun _ _ _ h => hPan _ _ _ _ _ h) (Or.inl ⟨by rfl, ?_⟩) HSd.out ?_
   rotate_left
   ·(intro wq hSw; obtain q0 := id hSw; go_simp; all_goals (first | (with_reducible rfl) | (intro hh; omega) | (rw [if_pos (by omega)]; done) | (rw [if_neg (by omega)]; done) | skip))
   try simp only [zA, zB, zC, Act.put, zD, zE, zF]
   refine wpT_takeT (i := 7) (v := undef) rfl (by kernel_rfl) (by kernel_rfl) (by kernel_rfl) (by kernel_rfl) (by kernel_rfl) (fun _ _ _ h => hPan _ _ _ _ _ h) (Or.inr ⟨by rfl, rfl⟩) HSd.out ?_
   try simp only [zA, zB, zC, Act.put, zD, zE, zF]
   refine wpT_takeT (i := 8) (v := undef) rfl (by kernel_rfl) (by kernel_rfl) (by kernel_rfl) (by kernel_rfl) (by kernel_rfl) (fun _ _ _ h => hPan _ _ _ _ _ h) (Or.inr ⟨by rfl, rfl⟩) HSd.out ?_
   try simp only [zA, zB, zC, Act.put, zD, zE, zF]
   refine wpT_takeT (i := 9) (v := undef) rfl (by kernel_rfl) (by kernel_rfl) (by kernel_rfl) (by kernel_rfl) (by kernel_rfl) (fun _ _ _ h => hPan _ _ _ _ _ h) (Or.inr ⟨by rfl, rfl⟩) HSd.out ?_
   try simp only [zA, zB, zC, Act.put, zD, zE, zF]
   refine wpT_takeT (i := 10) (v := undef) rfl (by kernel_rfl) (by kernel_rfl) (by kernel_rfl) (by kernel_rfl) (by kernel_rfl) (fun _ _ _ h => hPan _ _ _ _ _ h) (Or.inr ⟨by rfl, rfl⟩) HSd.out ?_
   try simp only [zA, zB, zC, Act.put, zD, zE, zF]
   refine wpT_takeT (i := 11) (v := undef) rfl (by kernel_rfl) (by kernel_rfl) (by kernel_rfl) (by kernel_rfl) (by kernel_rfl) (fun _ _ _ h => hPan _ _ _ _ _ h) (Or.inr ⟨by rfl, rfl⟩) HSd.out ?_
   try simp only [zA, zB, zC, Act.put, zD, zE, zF]
   refine wpT_takeT (i := 12) (v := undef) rfl (by kernel_rfl) (by kernel_rfl) (by kernel_rfl) (by kernel_rfl) (by kernel_rfl) (fun _ _ _ h => hPan _ _ _ _ _ h) (Or.inr ⟨by rfl, rfl⟩) HSd.out ?_
   try simp only [zA, zB, zC, Act.put, zD, zE, zF]
   refine wpT_takeT (i := 13) (v := undef) rfl (by kernel_rfl) (by kernel_rfl) (by kernel_rfl) (by kernel_rfl) (by kernel_rfl) (fun _ _ _ h => hPan _ _ _ _ _ h) (Or.inr ⟨by rfl, rfl⟩) HSd.out ?_
   try simp only [zA, zB, zC, Act.put, zD, zE, zF]
   refine wpT_takeT (i := 14) (v := undef) rfl (by kernel_rfl) (by kernel_rfl) (by kernel_rfl) (by kernel_rfl) (by kernel_rfl) (fun _ _ _ h => hPan _ _ _ _ _ h) (Or.inr ⟨by rfl, rfl⟩) HSd.out ?_
   try simp only [zA, zB, zC, Act.put, zD, zE, zF]
   refine wpT_takeT (i := 15) (v := undef) rfl (by kernel_rfl) (by kernel_rfl) (by kernel_rfl) (by kernel_rfl) (by kernel_rfl) (fun _ _ _ h => hPan _ _ _ _ _ h) (Or.inr ⟨by rfl, rfl⟩) HSd.out ?_
   try simp only [zA, zB, zC, Act.put, zD, zE, zF]
   refine wpT_takeT (i := 16) (v := undef) rfl (by kernel_rfl) (by kernel_rfl) (by kernel_rfl) (by kernel_rfl) (by kernel_rfl) (fun _ _ _ h => hPan _ _ _ _ _ h) (Or.inr ⟨by rfl, rfl⟩) HSd.out ?_
   try simp only [zA, zB, zC, Act.put, zD, zE, zF]
   refine wpT_takeT (i := 17) (v := undef) rfl (by kernel_rfl) (by kernel_rfl) (by kernel_rfl) (by kernel_rfl) (by kernel_rfl) (fun _ _ _ h => hPan _ _ _ _ _ h) (Or.inr ⟨by rfl, rfl⟩) HSd.out ?_
   try simp only [zA, zB, zC, Act.put, zD, zE, zF]
   refine wpT_takeT (i := 18) (v := undef) rfl (by kernel_rfl) (by kernel_rfl) (by kernel_rfl) (by kernel_rfl) (by kernel_rfl) (fun _ _ _ h => hPan _ _ _ _ _ h) (Or.inr ⟨by rfl, rfl⟩) HSd.out ?_
   try simp only [zA, zB, zC, Act.put, zD, zE, zF]
   refine wpT_takeT (i := 19) (v := undef) rfl (by kernel_rfl) (by kernel_rfl) (by kernel_rfl) (by kernel_rfl) (by kernel_rfl) (fun _ _ _ h => hPan _ _ _ _ _ h) (Or.inr ⟨by rfl, rfl⟩) HSd.out ?_
   try simp only [zA, zB, zC, Act.put, zD, zE, zF]
   refine wpT_takeT (i := 20) (v := undef) rfl (by kernel_rfl) (by kernel_rfl) (by kernel_rfl) (by kernel_rfl) (by kernel_rfl) (fun _ _ _ h => hPan _ _ _ _ _ h) (Or.inr ⟨by rfl, rfl⟩) HSd.out ?_
   try simp only [zA, zB, zC, Act.put, zD, zE, zF]
   refine wpT_takeT (i := 21) (v := undef) rfl (by kernel_rfl) (by kernel_rfl) (by kernel_rfl) (by kernel_rfl) (by kernel_rfl) (fun _ _ _ h => hPan _ _ _ _ _ h) (Or.inr ⟨by rfl, rfl⟩) HSd.out ?_
   try simp only [zA, zB, zC, Act.put, zD, zE, zF]
   refine wpT_takeT (i := 22) (v := .bool false) rfl (by kernel_rfl) (by kernel_rfl) (by kernel_rfl) (by kernel_rfl) (by kernel_rfl) (fun _ _ _ h => hPan _ _ _ _ _ h) (Or.inl ⟨by rfl, ?_⟩) HSd.out ?_
   ·(intro wq hSw; obtain q0 := id hSw; go_simp; all_goals (first | (with_reducible rfl) | (intro hh; omega) | (rw [if_pos (by omega)]; done) | (rw [if_neg (by omega)]; done) | skip))
   try simp only [zA, zB, zC, Act.put, zD, zE, zF]
   refine wpT_done (by kernel_rfl) ?_
   (try simp only [Exit.inBlock, Exit.then])
   refine H5.out _ _ ?_
   clear H5
   go_step
   go_step
   (try simp only [Exit.inBlock, Exit.then])
   refine H3.out _ _ ?_
   clear H3
   have HWx := HW.out.below (Below.refl _ _).drew
   have HY := HWx.ys (Yd.YR.bin hb (by rw [HR0.out]; exact hrun.out)) (Nat.le_trans (Nat.add_le_add_right HL0.out 1) hsz0) hpl
   exact be_push l w _ RES p n _ _ _ _ _ P c h2000 (Exit.then K1 Qx) (fun e d v a w h => hPan e d v a w h) TT EE CC AA _ _ _ _ _ _ _ _ _ _ _ _ _ _ HY HWx.pb hP HWx.po HWx.pv (Lib.hid fun _ _ _ _ _ _ _ _ _ _ _ _ _ _ _ _ _ _ _ _ _ _ _ _ _ _ _ _ _ _ _ _ _ _ _ _ _ _ _ _ _ _ _ _ _ _ _ _ _ _ _ _ _ _ _ _ _ _ _ _ _ _ _ _ _ _ _ _ _ _ _ _ _ _ _ _ _ _ _ _ _ _ _ _ _ _ _ _ _ _ _ _ _ _ _ _ _ _ _ _ _ _ _ _ _ _ _ _ _ _ _ _ _ _ _ _ _ _ _ _ _ _ _ _ _ _ _ _ _ _ _ _ _ _ _ _ _ _ _ _ _ _ _ _ _ _ _ _ _ _ _ _ _ _ _ _ _ _ _ _ _ _ _ _ _ _ _ _ _ _ _ _ _ _ _ _ _ _ _ _ _ _ _ _ _ _ _ _ _ _ _ _ _ _ _ _ _ _ _ _ _ _ _ _ _ _ _ _ _ _ _ _ _ _ _ _ _ _ _ _ _ _ _ _ _ _ _ _ _ _ _ _ _ _ _ _ _ _ w' p' n' o' ops' vals' ov' vv' xs' h1 h2 => hN.out _ _ _ _ _ _ _ _ _ _ _ _ _ _ _ _ _ _ _ _ _ _ _ _ _ _ _ _ _ _ _ _ _ _ _ _ _ _ _ _ _ _ _ _ _ _ _ _ _ _ _ _ _ _ _ _ _ _ _ _ _ _ _ _ _ _ _ _ _ _ _ _ _ _ _ _ _ _ _ _ _ _ _ _ _ _ _ _ _ _ _ _ _ _ _ _ _ _ _ _ _ _ _ _ _ _ _ _ _ _ _ _ _ _ _ _ _ _ _ _ _ _ _ _ _ _ _ _ _ _ _ _ _ _ _ _ _ _ _ _ _ _ _ _ _ _ _ _ _ _ _ _ _ _ _ _ _ _ _ _ _ _ _ _ _ _ _ _ _ _ _ _ _ _ _ _ _ _ _ _ _ _ _ _ _ _ _ _ _ _ _ _ _ _ _ _ _ _ _ _ _ _ _ _ _ _ _ _ _ _ _ _ _ _ _ _ _ _ _ _ _ _ _ _ _ _ _ _ _ _ _ _ _ _ _ _ _ _ w' p' n' o' ops' vals' ov' vv' xs' h1 h2) k hok0 (by have h := hrun.out; rw [← HR0.out] at h; exact h) hto hpt _ _ _ _ _ _ _ _ _ _ _ _ _ _ _ _ _ _ _ _ _ _ _ _ _ _ _ _ _ _ _ _ _ _ _ _ _ _ _ _ _ _ _ _ _ _ _ _ _ _ _ _ _ _ _ _ _ _ _ _ _ _ _ _ _ _ _ _ _ _ _ _ _ _ _ _ _ _ _ _ _ _ _ _ _ _ _ _ _ _ _ _ _ _ _ _ _ _ _ _ _ _ _ _ _ _ _ _ _ _ _ _ _ _ _ _ _ _ _ _ _ _ _ _ _ _ _ _ _ _ _ _ _ _ _ _ _ _ _ _ _ _ _ _ _ _ _ _ _ _ _ _ _ _ _ _ _ _ _ _ _ _ _ _ _ _ _ _ _ _ _ _ _ _ _ _ _ _ _ _ _ _ _ _ _ _ _ _ _ _ _ _ _ _ _ _ _ _ _ _ _ _ _ _ _ _ _ _ _ _ _ _ _ _ _ _ _ _ _ _ _ _ _ _ _ _ _ _ _ _ _ _ _ _ _ _ _
  | cons o r =>
   obtain ⟨g, C', hAC, hcap⟩ := own_some HW.out.yd.own (by rw [List.length_reverse, List.length_map, List.length_cons]; omega)
   have hlo : ((List.map opStr (o :: r)).reverse).length = r.length + 1 := by rw [List.length_reverse, List.length_map]; rfl
   have hlo2 : (o :: r).length = r.length + 1 := rfl
   rw [hlo] at hAC hcap
   injection hAC with e1 e2 e3
   subst e1 e3
   have hsz : r.length ≤ 2000 := by have h1 := HW.out.sz; simp only [List.length_cons] at h1; omega
   have ce : wr.cell? ⟨g, r.length, none⟩ = some (.string ⟨(opStr o).toArray⟩) := by
    have ho := HW.out.yd.own
    rw [hlo] at ho
    refine own_at ho ?_
    unfold strsOf
    rw [List.getElem?_map, List.map_cons, List.reverse_cons, List.getElem?_append_right (by rw [List.length_reverse, List.length_map]; exact Nat.le_refl _), List.length_reverse, List.length_map, Nat.sub_self]
    rfl
   have hok := HW.out.ok o (List.mem_cons_self ..)
   obtain ⟨m, hm⟩ : ∃ m, r.length = m := ⟨_, rfl⟩
   rw [hlo2, hm] at c0 hgk
   rw [hm] at ce hsz hcap
   obtain ⟨M, hM⟩ : ∃ x, m + 1 = x := ⟨_, rfl⟩
   rw [hM] at c0 hcap hgk
   have e1 : (M : Int) - 1 = (m : Int) := by omega
   have hmM : m < M := by omega
   have hmM2 : (m : Int) < (M : Int) := by omega
   have hM0 : (0 : Int) < (M : Int) := by omega
   have hM1 : 0 < M := by omega
   have hwn : IntKind.i64.wrap (m : Int) = (m : Int) := Go.IntWalk.i64_in _ (by omega)
   have Hm := Lib.hid hm
   have HM := Lib.hid hM
   obtain ⟨s, hs⟩ : ∃ s, opStr o = s := ⟨_, rfl⟩
   have Hs := Lib.hid hs
   rw [hs] at ce
   clear hm hM hlo hlo2 hs
   go_step
   rename_i K4 h4
   have H4 := Lib.hid h4
   clear h4
   go_step
   rename_i K5 h5
   have H5 := Lib.hid h5
   clear h5
   have htw := tight_op hok
   rw [Hs.out] at htw
   have HSd : Hid ((fun w' => w'.cell? ⟨w.heap.size + 1 + 1, 0, none⟩ = some (.slice (some ⟨g, 0, none⟩) M C) ∧ w'.cell? ⟨g, m, none⟩ = some (.string ⟨s.toArray⟩)) wr.drew) := Lib.hid ⟨c0, ce⟩
   refine wp_region_T 23 (fun w' => w'.cell? ⟨w.heap.size + 1 + 1, 0, none⟩ = some (.slice (some ⟨g, 0, none⟩) M C) ∧ w'.cell? ⟨g, m, none⟩ = some (.string ⟨s.toArray⟩)) (by kernel_rfl) ?_
   refine wpT_takeT (i := 0) (v := ?_) rfl (by kernel_rfl) (by kernel_rfl) (by kernel_rfl) (by kernel_rfl) (by kernel_rfl) (fun _ _ _ h => hPan _ _ _ _ _ h) (Or.inl ⟨by rfl, ?_⟩) HSd.out ?_
   rotate_left
   ·(intro wq hSw; obtain ⟨_,_⟩ := hSw; go_simp; all_goals (first | (with_reducible rfl) | (intro hh; omega) | (rw [if_pos (by omega)]; done) | (rw [if_neg (by omega)]; done) | skip))
   try simp only [zA, zB, zC, Act.put, zD, zE, zF]
   refine wpT_takeT (i := 1) (v := ?_) rfl (by kernel_rfl) (by kernel_rfl) (by kernel_rfl) (by kernel_rfl) (by kernel_rfl) (fun _ _ _ h => hPan _ _ _ _ _ h) (Or.inl ⟨by rfl, ?_⟩) HSd.out ?_
   rotate_left
   ·(intro wq hSw; obtain ⟨_,_⟩ := hSw; go_simp; all_goals (first | (with_reducible rfl) | (intro hh; omega) | (rw [if_pos (by omega)]; done) | (rw [if_neg (by omega)]; done) | skip))
   try simp only [zA, zB, zC, Act.put, zD, zE, zF]
   refine wpT_takeT (i := 2) (v := ?_) rfl (by kernel_rfl) (by kernel_rfl) (by kernel_rfl) (by kernel_rfl) (by kernel_rfl) (fun _ _ _ h => hPan _ _ _ _ _ h) (Or.inl ⟨by rfl, ?_⟩) HSd.out ?_
   rotate_left
   ·(intro wq hSw; obtain ⟨_,_⟩ := hSw; go_simp; all_goals (first | (with_reducible rfl) | (intro hh; omega) | (rw [if_pos (by omega)]; done) | (rw [if_neg (by omega)]; done) | skip))
   try simp only [zA, zB, zC, Act.put, zD, zE, zF]
   refine wpT_takeT (i := 3) (v := ?_) rfl (by kernel_rfl) (by kernel_rfl) (by kernel_rfl) (by kernel_rfl) (by kernel_rfl) (fun _ _ _ h => hPan _ _ _ _ _ h) (Or.inl ⟨by rfl, ?_⟩) HSd.out ?_
   rotate_left
   ·(intro wq hSw; obtain ⟨_,_⟩ := hSw; go_simp; all_goals (first | (with_reducible rfl) | (intro hh; omega) | (rw [if_pos (by omega)]; done) | (rw [if_neg (by omega)]; done) | skip))
   try simp only [zA, zB, zC, Act.put, zD, zE, zF]
   refine wpT_takeT (i := 4) (v := ?_) rfl (by kernel_rfl) (by kernel_rfl) (by kernel_rfl) (by kernel_rfl) (by kernel_rfl) (fun _ _ _ h => hPan _ _ _ _ _ h) (Or.inl ⟨by rfl, ?_⟩) HSd.out ?_
   rotate_left
   ·(intro wq hSw; obtain ⟨_,_⟩ := hSw; go_simp; all_goals (first | (with_reducible rfl) | (intro hh; omega) | (rw [if_pos (by omega)]; done) | (rw [if_neg (by omega)]; done) | skip))
   try simp only [zA, zB, zC, Act.put, zD, zE, zF]
   refine wpT_takeT (i := 5) (v := .bool true) rfl (by kernel_rfl) (by kernel_rfl) (by kernel_rfl) (by kernel_rfl) (by kernel_rfl) (fun _ _ _ h => hPan _ _ _ _ _ h) (Or.inl ⟨by rfl, ?_⟩) HSd.out ?_
   ·(intro wq hSw; obtain ⟨_,_⟩ := hSw; go_simp; all_goals (first | (with_reducible rfl) | (intro hh; omega) | (rw [if_pos (by omega)]; done) | (rw [if_neg (by omega)]; done) | skip))
   try simp only [zA, zB, zC, Act.put, zD, zE, zF]
   refine wpT_takeT (i := 6) (v := ?_) rfl (by kernel_rfl) (by kernel_rfl) (by kernel_rfl) (by kernel_rfl) (by kernel_rfl) (fun _ _ _ h => hPan _ _ _ _ _ h) (Or.inl ⟨by rfl, ?_⟩) HSd.out ?_
   rotate_left
   ·(intro wq hSw; obtain ⟨_,_⟩ := hSw; go_simp; all_goals (first | (with_reducible rfl) | (intro hh; omega) | (rw [if_pos (by omega)]; done) | (rw [if_neg (by omega)]; done) | skip))
   try simp only [zA, zB, zC, Act.put, zD, zE, zF]
   refine wpT_takeT (i := 7) (v := ?_) rfl (by kernel_rfl) (by kernel_rfl) (by kernel_rfl) (by kernel_rfl) (by kernel_rfl) (fun _ _ _ h => hPan _ _ _ _ _ h) (Or.inl ⟨by rfl, ?_⟩) HSd.out ?_
   rotate_left
   ·(intro wq hSw; obtain ⟨_,_⟩ := hSw; go_simp; all_goals (first | (with_reducible rfl) | (intro hh; omega) | (rw [if_pos (by omega)]; done) | (rw [if_neg (by omega)]; done) | skip))
   try simp only [zA, zB, zC, Act.put, zD, zE, zF]
   refine wpT_takeT (i := 8) (v := ?_) rfl (by kernel_rfl) (by kernel_rfl) (by kernel_rfl) (by kernel_rfl) (by kernel_rfl) (fun _ _ _ h => hPan _ _ _ _ _ h) (Or.inl ⟨by rfl, ?_⟩) HSd.out ?_
   rotate_left
   ·(intro wq hSw; obtain ⟨_,_⟩ := hSw; go_simp; all_goals (first | (with_reducible rfl) | (intro hh; omega) | (rw [if_pos (by omega)]; done) | (rw [if_neg (by omega)]; done) | skip))
   try simp only [zA, zB, zC, Act.put, zD, zE, zF]
   refine wpT_takeT (i := 9) (v := ?_) rfl (by kernel_rfl) (by kernel_rfl) (by kernel_rfl) (by kernel_rfl) (by kernel_rfl) (fun _ _ _ h => hPan _ _ _ _ _ h) (Or.inl ⟨by rfl, ?_⟩) HSd.out ?_
   rotate_left
   ·(intro wq hSw; obtain ⟨_,_⟩ := hSw; go_simp; all_goals (first | (with_reducible rfl) | (intro hh; omega) | (rw [if_pos (by omega)]; done) | (rw [if_neg (by omega)]; done) | skip))
   try simp only [zA, zB, zC, Act.put, zD, zE, zF]
   refine wpT_takeT (i := 10) (v := ?_) rfl (by kernel_rfl) (by kernel_rfl) (by kernel_rfl) (by kernel_rfl) (by kernel_rfl) (fun _ _ _ h => hPan _ _ _ _ _ h) (Or.inl ⟨by rfl, ?_⟩) HSd.out ?_
   rotate_left
   ·(intro wq hSw; obtain ⟨_,_⟩ := hSw; go_simp; all_goals (first | (with_reducible rfl) | (intro hh; omega) | (rw [if_pos (by omega)]; done) | (rw [if_neg (by omega)]; done) | skip))
   try simp only [zA, zB, zC, Act.put, zD, zE, zF]
   refine wpT_takeT (i := 11) (v := ?_) rfl (by kernel_rfl) (by kernel_rfl) (by kernel_rfl) (by kernel_rfl) (by kernel_rfl) (fun _ _ _ h => hPan _ _ _ _ _ h) (Or.inl ⟨by rfl, ?_⟩) HSd.out ?_
   rotate_left
   ·(intro wq hSw; obtain ⟨_,_⟩ := hSw; go_simp; all_goals (first | (with_reducible rfl) | (intro hh; omega) | (rw [if_pos (by omega)]; done) | (rw [if_neg (by omega)]; done) | skip))
   try simp only [zA, zB, zC, Act.put, zD, zE, zF]
   refine wpT_takeT (i := 12) (v := ?_) rfl (by kernel_rfl) (by kernel_rfl) (by kernel_rfl) (by kernel_rfl) (by kernel_rfl) (fun _ _ _ h => hPan _ _ _ _ _ h) (Or.inl ⟨by rfl, ?_⟩) HSd.out ?_
   rotate_left
   ·(intro wq hSw; obtain ⟨_,_⟩ := hSw; go_simp; all_goals (first | (with_reducible rfl) | (intro hh; omega) | (rw [if_pos (by omega)]; done) | (rw [if_neg (by omega)]; done) | skip))
   try simp only [zA, zB, zC, Act.put, zD, zE, zF]
   refine wpT_takeT (i := 13) (v := ?_) rfl (by kernel_rfl) (by kernel_rfl) (by kernel_rfl) (by kernel_rfl) (by kernel_rfl) (fun _ _ _ h => hPan _ _ _ _ _ h) (Or.inl ⟨by rfl, ?_⟩) HSd.out ?_
   rotate_left
   ·(intro wq hSw; obtain ⟨_,_⟩ := hSw; go_simp; all_goals (first | (with_reducible rfl) | (intro hh; omega) | (rw [if_pos (by omega)]; done) | (rw [if_neg (by omega)]; done) | skip))
   try simp only [zA, zB, zC, Act.put, zD, zE, zF]
   refine wpT_takeT (i := 14) (v := ?_) rfl (by kernel_rfl) (by kernel_rfl) (by kernel_rfl) (by kernel_rfl) (by kernel_rfl) (fun _ _ _ h => hPan _ _ _ _ _ h) (Or.inl ⟨by rfl, ?_⟩) HSd.out ?_
   rotate_left
   ·(intro wq hSw; obtain ⟨_,_⟩ := hSw; go_simp; all_goals (first | (with_reducible rfl) | (intro hh; omega) | (rw [if_pos (by omega)]; done) | (rw [if_neg (by omega)]; done) | skip))
   try simp only [zA, zB, zC, Act.put, zD, zE, zF]
   refine wpT_takeT (i := 15) (v := ?_) rfl (by kernel_rfl) (by kernel_rfl) (by kernel_rfl) (by kernel_rfl) (by kernel_rfl) (fun _ _ _ h => hPan _ _ _ _ _ h) (Or.inl ⟨by rfl, ?_⟩) HSd.out ?_
   rotate_left
   ·(intro wq hSw; obtain ⟨_,_⟩ := hSw; go_simp; all_goals (first | (with_reducible rfl) | (intro hh; omega) | (rw [if_pos (by omega)]; done) | (rw [if_neg (by omega)]; done) | skip))
   try simp only [zA, zB, zC, Act.put, zD, zE, zF]
   refine wpT_takeT (i := 16) (v := ?_) rfl (by kernel_rfl) (by kernel_rfl) (by kernel_rfl) (by kernel_rfl) (by kernel_rfl) (fun _ _ _ h => hPan _ _ _ _ _ h) (Or.inl ⟨by rfl, ?_⟩) HSd.out ?_
   rotate_left
   ·(intro wq hSw; obtain ⟨_,_⟩ := hSw; go_simp; all_goals (first | (with_reducible rfl) | (intro hh; omega) | (rw [if_pos (by omega)]; done) | (rw [if_neg (by omega)]; done) | skip))
   try simp only [zA, zB, zC, Act.put, zD, zE, zF]
   refine wpT_takeT (i := 17) (v := ?_) rfl (by kernel_rfl) (by kernel_rfl) (by kernel_rfl) (by kernel_rfl) (by kernel_rfl) (fun _ _ _ h => hPan _ _ _ _ _ h) (Or.inl ⟨by rfl, ?_⟩) HSd.out ?_
   rotate_left
   ·(intro wq hSw; obtain ⟨_,_⟩ := hSw; go_simp; all_goals (first | (with_reducible rfl) | (intro hh; omega) | (rw [if_pos (by omega)]; done) | (rw [if_neg (by omega)]; done) | skip))
   try simp only [zA, zB, zC, Act.put, zD, zE, zF]
   refine wpT_takeT (i := 18) (v := ?_) rfl (by kernel_rfl) (by kernel_rfl) (by kernel_rfl) (by kernel_rfl) (by kernel_rfl) (fun _ _ _ h => hPan _ _ _ _ _ h) (Or.inl ⟨by rfl, ?_⟩) HSd.out ?_
   rotate_left
   ·(intro wq hSw; obtain ⟨_,_⟩ := hSw; go_simp; all_goals (first | (with_reducible rfl) | (intro hh; omega) | (rw [if_pos (by omega)]; done) | (rw [if_neg (by omega)]; done) | skip))
   try simp only [zA, zB, zC, Act.put, zD, zE, zF]
   refine wpT_takeT (i := 20) (v := ?_) rfl (by kernel_rfl) (by kernel_rfl) (by kernel_rfl) (by kernel_rfl) (by kernel_rfl) (fun _ _ _ h => hPan _ _ _ _ _ h) (Or.inl ⟨by rfl, ?_⟩) HSd.out ?_
   rotate_left
   ·(intro wq hSw; obtain ⟨_,_⟩ := hSw; go_simp; all_goals (first | (with_reducible rfl) | (intro hh; omega) | (rw [if_pos (by omega)]; done) | (rw [if_neg (by omega)]; done) | skip))
   try simp only [zA, zB, zC, Act.put, zD, zE, zF]
   refine zO 19 fun K hK => ?_
   go_simp
   refine (refTight_any s wr.drew).mono ?_
   rintro e wq ⟨rfl, hbq0⟩
   have hbq : Below wr.heap.size wr wq := chain (Below.refl _ _).drew hbq0
   have HSq : Hid ((fun w' => w'.cell? ⟨w.heap.size + 1 + 1, 0, none⟩ = some (.slice (some ⟨g, 0, none⟩) M C) ∧ w'.cell? ⟨g, m, none⟩ = some (.string ⟨s.toArray⟩)) wq) := Lib.hid ⟨cell_keep c0 hbq, cell_keep ce hbq⟩
   have HWq := Lib.hid (HW.out.below hbq)
   refine hK.out _ _ (fun _ => HSq.out) ?_
   clear hK K hbq0
   try simp only [zA, zB, zC, Act.put, zD, zE, zF]
   rw [htw]
   by_cases hle : k ≤ o.tight
   ·have hle' : (k : Int) ≤ ((o.tight : Nat) : Int) := by omega
    have hne : o ≠ .br := by intro e; rw [e] at hle; simp only [Yd.Op.tight] at hle; omega
    have hnx : Yd.redW unX biX k r (Yd.red1 unX biX o vals') = Yd.redW unX biX k ops vals := by
     have h := HR0.out
     rw [Yd.redW, if_pos hle] at h
     exact h
    refine wpT_takeT (i := 21) (v := .bool true) rfl (by kernel_rfl) (by kernel_rfl) (by kernel_rfl) (by kernel_rfl) (by kernel_rfl) (fun _ _ _ h => hPan _ _ _ _ _ h) (Or.inl ⟨by rfl, ?_⟩) HSq.out ?_
    ·(intro wq hSw; obtain ⟨_,_⟩ := hSw; go_simp; all_goals (first | (with_reducible rfl) | (intro hh; omega) | (rw [if_pos (by omega)]; done) | (rw [if_neg (by omega)]; done) | skip))
    try simp only [zA, zB, zC, Act.put, zD, zE, zF]
    refine wpT_takeT (i := 22) (v := .bool true) rfl (by kernel_rfl) (by kernel_rfl) (by kernel_rfl) (by kernel_rfl) (by kernel_rfl) (fun _ _ _ h => hPan _ _ _ _ _ h) (Or.inl ⟨by rfl, ?_⟩) HSq.out ?_
    ·(intro wq hSw; obtain ⟨_,_⟩ := hSw; go_simp; all_goals (first | (with_reducible rfl) | (intro hh; omega) | (rw [if_pos (by omega)]; done) | (rw [if_neg (by omega)]; done) | skip))
    try simp only [zA, zB, zC, Act.put, zD, zE, zF]
    refine wpT_done (by kernel_rfl) ?_
    (try simp only [Exit.inBlock, Exit.then])
    refine H5.out _ _ ?_
    clear H5
    go_step
    go_step
    (try simp only [Exit.inBlock, Exit.then])
    refine H4.out _ _ ?_
    clear H4
    go_wp2_with fail
    refine (HWq.out.reduce hne).mono ?_
    rintro e w5 ⟨rfl, ov5, vv5, xs5, hW5⟩
    go_wp2_with fail
    have hm := Hm.out
    have hM := HM.out
    go_roundg r.length
    case measure => omega
    case rel => exact ⟨r, _, _, _, _, Nat.le_refl _, Lib.hid hnx, Lib.hid (Nat.le_trans (nbi_step o r) HL0.out), hW5⟩
   ·have hle' : ¬ (k : Int) ≤ ((o.tight : Nat) : Int) := by omega
    refine wpT_takeT (i := 21) (v := .bool false) rfl (by kernel_rfl) (by kernel_rfl) (by kernel_rfl) (by kernel_rfl) (by kernel_rfl) (fun _ _ _ h => hPan _ _ _ _ _ h) (Or.inl ⟨by rfl, ?_⟩) HSq.out ?_
    ·(intro wq hSw; obtain ⟨_,_⟩ := hSw; go_simp; all_goals (first | (with_reducible rfl) | (intro hh; omega) | (rw [if_pos (by omega)]; done) | (rw [if_neg (by omega)]; done) | skip))
    try simp only [zA, zB, zC, Act.put, zD, zE, zF]
    refine wpT_takeT (i := 22) (v := .bool false) rfl (by kernel_rfl) (by kernel_rfl) (by kernel_rfl) (by kernel_rfl) (by kernel_rfl) (fun _ _ _ h => hPan _ _ _ _ _ h) (Or.inl ⟨by rfl, ?_⟩) HSq.out ?_
    ·(intro wq hSw; obtain ⟨_,_⟩ := hSw; go_simp; all_goals (first | (with_reducible rfl) | (intro hh; omega) | (rw [if_pos (by omega)]; done) | (rw [if_neg (by omega)]; done) | skip))
    try simp only [zA, zB, zC, Act.put, zD, zE, zF]
    refine wpT_done (by kernel_rfl) ?_
    (try simp only [Exit.inBlock, Exit.then])
    refine H5.out _ _ ?_
    clear H5
    go_step
    go_step
    (try simp only [Exit.inBlock, Exit.then])
    refine H3.out _ _ ?_
    clear H3
    have HWx := HWq.out
    have HY := HWx.ys (Yd.YR.bin hb (by rw [HR0.out]; exact hrun.out)) (Nat.le_trans (Nat.add_le_add_right HL0.out 1) hsz0) hpl
    exact be_push l w _ RES p n _ _ _ _ _ P c h2000 (Exit.then K1 Qx) (fun e d v a w h => hPan e d v a w h) TT EE CC AA _ _ _ _ _ _ _ _ _ _ _ _ _ _ HY HWx.pb hP HWx.po HWx.pv (Lib.hid fun _ _ _ _ _ _ _ _ _ _ _ _ _ _ _ _ _ _ _ _ _ _ _ _ _ _ _ _ _ _ _ _ _ _ _ _ _ _ _ _ _ _ _ _ _ _ _ _ _ _ _ _ _ _ _ _ _ _ _ _ _ _ _ _ _ _ _ _ _ _ _ _ _ _ _ _ _ _ _ _ _ _ _ _ _ _ _ _ _ _ _ _ _ _ _ _ _ _ _ _ _ _ _ _ _ _ _ _ _ _ _ _ _ _ _ _ _ _ _ _ _ _ _ _ _ _ _ _ _ _ _ _ _ _ _ _ _ _ _ _ _ _ _ _ _ _ _ _ _ _ _ _ _ _ _ _ _ _ _ _ _ _ _ _ _ _ _ _ _ _ _ _ _ _ _ _ _ _ _ _ _ _ _ _ _ _ _ _ _ _ _ _ _ _ _ _ _ _ _ _ _ _ _ _ _ _ _ _ _ _ _ _ _ _ _ _ _ _ _ _ _ _ _ _ _ _ _ _ _ _ _ _ _ _ _ _ _ _ w' p' n' o' ops' vals' ov' vv' xs' h1 h2 => hN.out _ _ _ _ _ _ _ _ _ _ _ _ _ _ _ _ _ _ _ _ _ _ _ _ _ _ _ _ _ _ _ _ _ _ _ _ _ _ _ _ _ _ _ _ _ _ _ _ _ _ _ _ _ _ _ _ _ _ _ _ _ _ _ _ _ _ _ _ _ _ _ _ _ _ _ _ _ _ _ _ _ _ _ _ _ _ _ _ _ _ _ _ _ _ _ _ _ _ _ _ _ _ _ _ _ _ _ _ _ _ _ _ _ _ _ _ _ _ _ _ _ _ _ _ _ _ _ _ _ _ _ _ _ _ _ _ _ _ _ _ _ _ _ _ _ _ _ _ _ _ _ _ _ _ _ _ _ _ _ _ _ _ _ _ _ _ _ _ _ _ _ _ _ _ _ _ _ _ _ _ _ _ _ _ _ _ _ _ _ _ _ _ _ _ _ _ _ _ _ _ _ _ _ _ _ _ _ _ _ _ _ _ _ _ _ _ _ _ _ _ _ _ _ _ _ _ _ _ _ _ _ _ _ _ _ _ _ _ w' p' n' o' ops' vals' ov' vv' xs' h1 h2) k hok0 (by have h := hrun.out; rw [← HR0.out, Yd.redW_less (t := k) _ _ (by show o.tight < k; omega) (Nat.le_refl _)] at h; exact h) hto hpt _ _ _ _ _ _ _ _ _ _ _ _ _ _ _ _ _ _ _ _ _ _ _ _ _ _ _ _ _ _ _ _ _ _ _ _ _ _ _ _ _ _ _ _ _ _ _ _ _ _ _ _ _ _ _ _ _ _ _ _ _ _ _ _ _ _ _ _ _ _ _ _ _ _ _ _ _ _ _ _ _ _ _ _ _ _ _ _ _ _ _ _ _ _ _ _ _ _ _ _ _ _ _ _ _ _ _ _ _ _ _ _ _ _ _ _ _ _ _ _ _ _ _ _ _ _ _ _ _ _ _ _ _ _ _ _ _ _ _ _ _ _ _ _ _ _ _ _ _ _ _ _ _ _ _ _ _ _ _ _ _ _ _ _ _ _ _ _ _ _ _ _ _ _ _ _ _ _ _ _ _ _ _ _ _ _ _ _ _ _ _ _ _ _ _ _ _ _ _ _ _ _ _ _ _ _ _ _ _ _ _ _ _ _ _ _ _ _ _ _ _ _ _ _ _ _ _ _ _ _ _ _ _ _ _ _ _
set_option maxHeartbeats 8000000 in
theorem be_close (l : Str) (w wr : World) (RES : Yd.Res Ex) (p n : Nat) (ops : List Yd.Op) (vals : List Ex) (ov vv : Value) (xs : List Value) (P : Nat) (c : Pc) (h2000 : l.length ≤ 2000) (Qx : Exit → Act → World → Prop) (hPan : ∀ (e : List PanicEntry) (d : Option Nat) (v : Value) (a : Act) (w : World), Qx (.panic e) (a.put d v) w → Qx (.panic e) a w) (TT : Ex) (EE : Nat) (CC : Int) (AA : Nat) (u2 u3 u12 u13 u14 u15 u16 u17 u18 u19 u20 u21 u22 u23 : Value) (hS : YS w wr (w.heap.size + 1 + 1 + 1) (w.heap.size + 1 + 1) l RES p n false ops vals ov vv xs) (PB : PcBox wr P c) (hP : (w.heap.size + 1 + 1 + 1) ≤ P) (hPo : some P ≠ ov.ownBlock) (hPv : some P ≠ vv.ownBlock) (hN : Hid (∀ (v5 v10 v11 v24 v25 v26 v27 v28 v29 v30 v31 v32 v33 v34 v35 v36 v37 v38 v39 v40 v41 v42 v43 v44 v45 v46 v47 v48 v49 v50 v51 v52 v53 v54 v55 v56 v57 v58 v59 v60 v61 v62 v63 v64 v65 v66 v67 v68 v69 v70 v71 v72 v73 v74 v75 v76 v77 v78 v79 v80 v81 v82 v83 v84 v85 v86 v87 v88 v89 v90 v91 v92 v93 v94 v95 v96 v97 v98 v99 v100 v101 v102 v103 v104 v105 v106 v107 v108 v109 v110 v111 v112 v113 v114 v115 v116 v117 v118 v119 v120 v121 v122 v123 v124 v125 v126 v127 v128 v129 v130 v131 v132 v133 v134 v135 v136 v137 v138 v139 v140 v141 v142 v143 v144 v145 v146 v147 v148 v149 v150 v151 v152 v153 v154 v155 v156 v157 v158 v159 v160 v161 v162 v163 v164 v165 v166 v167 v168 v169 v170 v171 v172 v173 v174 v175 v176 v177 v178 v179 v180 v181 v182 v183 v184 v185 v186 v187 v188 v189 v190 v191 v192 v193 v194 v195 v196 v197 v198 v199 v200 v201 v202 v203 v204 v205 v206 v207 v208 v209 v210 v211 v212 v213 v214 v215 v216 v217 v218 v219 v220 v221 v222 v223 v224 v225 v226 v227 v228 v229 v230 v231 v232 v233 v234 v235 v236 v237 v238 v239 v240 v241 v242 v243 v244 v245 v246 v247 v248 v249 v250 v251 v252 v253 v254 v255 v256 v257 v258 : Value) (w' : World) (p' n' : Nat) (o' : Bool) (ops' : List Yd.Op) (vals' : List Ex) (ov' vv' : Value) (xs' : List Value), p < p' → YS w w' (w.heap.size + 1 + 1 + 1) (w.heap.size + 1 + 1) l RES p' n' o' ops' vals' ov' vv' xs' → Qx (.exit 1) { tmps := #[.string ⟨l.toArray⟩, .int .i64 (p' : Int), u2, u3, .pointer (some ⟨w.heap.size, 0, none⟩), v5, .pointer (some ⟨w.heap.size + 1, 0, none⟩), .pointer (some ⟨w.heap.size + 1 + 1, 0, none⟩), .int .i64 (n' : Int), .bool o', v10, v11, u12, u13, u14, u15, u16, u17, u18, u19, u20, u21, u22, u23, v24, v25, v26, v27, v28, v29, v30, v31, v32, v33, v34, v35, v36, v37, v38, v39, v40, v41, v42, v43, v44, v45, v46, v47, v48, v49, v50, v51, v52, v53, v54, v55, v56, v57, v58, v59, v60, v61, v62, v63, v64, v65, v66, v67, v68, v69, v70, v71, v72, v73, v74, v75, v76, v77, v78, v79, v80, v81, v82, v83, v84, v85, v86, v87, v88, v89, v90, v91, v92, v93, v94, v95, v96, v97, v98, v99, v100, v101, v102, v103, v104, v105, v106, v107, v108, v109, v110, v111, v112, v113, v114, v115, v116, v117, v118, v119, v120, v121, v122, v123, v124, v125, v126, v127, v128, v129, v130, v131, v132, v133, v134, v135, v136, v137, v138, v139, v140, v141, v142, v143, v144, v145, v146, v147, v148, v149, v150, v151, v152, v153, v154, v155, v156, v157, v158, v159, v160, v161, v162, v163, v164, v165, v166, v167, v168, v169, v170, v171, v172, v173, v174, v175, v176, v177, v178, v179, v180, v181, v182, v183, v184, v185, v186, v187, v188, v189, v190, v191, v192, v193, v194, v195, v196, v197, v198, v199, v200, v201, v202, v203, v204, v205, v206, v207, v208, v209, v210, v211, v212, v213, v214, v215, v216, v217, v218, v219, v220, v221, v222, v223, v224, v225, v226, v227, v228, v229, v230, v231, v232, v233, v234, v235, v236, v237, v238, v239, v240, v241, v242, v243, v244, v245, v246, v247, v248, v249, v250, v251, v252, v253, v254, v255, v256, v257, v258], defers := [] } w'))  (n1 : Nat) (hn1 : n = n1 + 1) (hbn : ebin l p = none) (hcl : eclose l p = some c.to_) (ht : c.text = [41]) (hlit : c.lit = false) (hto : c.to_ ≤ l.length) (hpt : p < c.to_) (u5 u11 u24 u25 u26 u27 u28 u29 u30 u31 u32 u33 u34 u35 u36 u37 u38 u39 u40 u41 u42 u43 u44 u45 u46 u47 u48 u49 u50 u51 u52 u53 u54 u55 u56 u57 u58 u59 u60 u61 u62 u63 u64 u65 u66 u67 u68 u69 u70 u71 u72 u73 u74 u75 u76 u77 u78 u79 u80 u81 u82 u83 u84 u85 u86 u87 u88 u89 u90 u91 u92 u93 u94 u95 u96 u97 u98 u99 u100 u101 u102 u103 u104 u105 u106 u107 u108 u109 u110 u111 u112 u113 u114 u115 u116 u117 u118 u119 u120 u121 u122 u123 u124 u125 u126 u127 u128 u129 u130 u131 u132 u133 u134 u135 u136 u137 u138 u139 u140 u141 u142 u143 u144 u145 u146 u147 u148 u149 u150 u151 u152 u153 u154 u155 u156 u157 u158 u159 u160 u161 u162 u163 u164 u165 u166 u167 u168 u169 u170 u171 u172 u173 u174 u175 u176 u177 u178 u179 u180 u181 u182 u183 u184 u185 u186 u187 u188 u189 u190 u191 u192 u193 u194 u195 u196 u197 u198 u199 u200 u201 u202 u203 u204 u205 u206 u207 u208 u209 u210 u211 u212 u213 u214 u215 u216 u217 u218 u219 u220 u221 u222 u223 u224 u225 u226 u227 u228 u229 u230 u231 u232 u233 u234 u235 u236 u237 u238 u239 u240 u241 u242 u243 u244 u245 u246 u247 u248 u249 u250 u251 u252 u253 u254 u255 u256 u257 u258 : Value) :
  Code.wp Tryz.prog be35 Qx { tmps := #[.string ⟨l.toArray⟩, .int .i64 (p : Int), u2, u3, .pointer (some ⟨w.heap.size, 0, none⟩), u5, .pointer (some ⟨w.heap.size + 1, 0, none⟩), .pointer (some ⟨w.heap.size + 1 + 1, 0, none⟩), .int .i64 (n : Int), .bool false, .pointer (some ⟨P, 0, none⟩), u11, u12, u13, u14, u15, u16, u17, u18, u19, u20, u21, u22, u23, u24, u25, u26, u27, u28, u29, u30, u31, u32, u33, u34, u35, u36, u37, u38, u39, u40, u41, u42, u43, u44, u45, u46, u47, u48, u49, u50, u51, u52, u53, u54, u55, u56, u57, u58, u59, u60, u61, u62, u63, u64, u65, u66, u67, u68, u69, u70, u71, u72, u73, u74, u75, u76, u77, u78, u79, u80, u81, u82, u83, u84, u85, u86, u87, u88, u89, u90, u91, u92, u93, u94, u95, u96, u97, u98, u99, u100, u101, u102, u103, u104, u105, u106, u107, u108, u109, u110, u111, u112, u113, u114, u115, u116, u117, u118, u119, u120, u121, u122, u123, u124, u125, u126, u127, u128, u129, u130, u131, u132, u133, u134, u135, u136, u137, u138, u139, u140, u141, u142, u143, u144, u145, u146, u147, u148, u149, u150, u151, u152, u153, u154, u155, u156, u157, u158, u159, u160, u161, u162, u163, u164, u165, u166, u167, u168, u169, u170, u171, u172, u173, u174, u175, u176, u177, u178, u179, u180, u181, u182, u183, u184, u185, u186, u187, u188, u189, u190, u191, u192, u193, u194, u195, u196, u197, u198, u199, u200, u201, u202, u203, u204, u205, u206, u207, u208, u209, u210, u211, u212, u213, u214, u215, u216, u217, u218, u219, u220, u221, u222, u223, u224, u225, u226, u227, u228, u229, u230, u231, u232, u233, u234, u235, u236, u237, u238, u239, u240, u241, u242, u243, u244, u245, u246, u247, u248, u249, u250, u251, u252, u253, u254, u255, u256, u257, u258], defers := [] } wr := by
 have h : be35 = Code.seq _ _ := rfl
 rw [h]
 clear h
 dsimp only
 have HSS := Lib.hid hS
 obtain ⟨p0, p1, p2, p3, p4, p5, p6, p7, p8, p9, p10⟩ := id PB
 clear hS
 subst hn1
 have hn' : (0 : Int) < ((n1 + 1 : Nat) : Int) := by omega
 have hrun := Lib.hid (HSS.out.run.of_close hbn hcl)
 have hW0 := HSS.out.yw h2000 PB hP hPo hPv
 have hsz0 : ops.length + Yd.nBi ops + 1 ≤ p := by have h1 := HSS.out.sz; have h2 := HSS.out.bi; simp only [Bool.false_eq_true, if_false] at h2; omega
 have hpl := HSS.out.pl
 rw [hlit] at p4
 rw [ht] at p0
 obtain ⟨n, hnn⟩ : ∃ n, n1 + 1 = n := ⟨_, rfl⟩
 rw [hnn] at hW0 hn' ⊢
 have Hnn := Lib.hid hnn
 clear hnn
 go_step
 rename_i K1 h1
 have H1 := Lib.hid h1
 clear h1
 go_step
 rename_i K2 h2
 have H2 := Lib.hid h2
 clear h2
 go_wp2_with fail
 refine H2.out _ _ ?_
 clear H2
 go_step
 clear p0 p1 p2 p3 p4 p5 p6 p7 p8 p9 p10 PB HSS hPo hPv
 go_step
 rename_i K3 h3
 have H3 := Lib.hid h3
 clear h3
 go_step
 go_loopg [] ops.length (fun gk wz => ∃ (ops' : List Yd.Op) (vals' : List Ex) (ov' vv' : Value) (xs' : List Value), ops'.length ≤ gk ∧ Hid (Yd.redB unX biX ops' vals' = Yd.redB unX biX ops vals) ∧ Hid (ops'.length + Yd.nBi ops' ≤ ops.length + Yd.nBi ops) ∧ YW w wz n P c ops' vals' ov' vv' xs')
 case atStart => exact ⟨ops, vals, ov, vv, xs, Nat.le_refl _, Lib.hid rfl, Lib.hid (Nat.le_refl _), hW0⟩
 case round =>
  clear hW0
  obtain ⟨ops', vals', ov', vv', xs', hgk, HR0, HL0, hW⟩ := hrel
  have HW := Lib.hid hW
  have c0 := hW.yd.c0
  have hov : ∃ A C, ov' = .slice A ops'.length C := by
   obtain ⟨A, C, e⟩ := own_form hW.yd.own
   rw [List.length_reverse, List.length_map] at e
   exact ⟨A, C, e⟩
  clear hW
  obtain ⟨A, C, rfl⟩ := hov
  cases ops' with
  | nil =>
   exfalso
   have h1 := HW.out.br
   have h2 := Hnn.out
   simp only [Yd.nBr] at h1
   omega
  | cons o r =>
   obtain ⟨g, C', hAC, hcap⟩ := own_some HW.out.yd.own (by rw [List.length_reverse, List.length_map, List.length_cons]; omega)
   have hlo : ((List.map opStr (o :: r)).reverse).length = r.length + 1 := by rw [List.length_reverse, List.length_map]; rfl
   have hlo2 : (o :: r).length = r.length + 1 := rfl
   rw [hlo] at hAC hcap
   injection hAC with e1 e2 e3
   subst e1 e3
   have hsz : r.length ≤ 2000 := by have h1 := HW.out.sz; simp only [List.length_cons] at h1; omega
   have ce : wr.cell? ⟨g, r.length, none⟩ = some (.string ⟨(opStr o).toArray⟩) := by
    have ho := HW.out.yd.own
    rw [hlo] at ho
    refine own_at ho ?_
    unfold strsOf
    rw [List.getElem?_map, List.map_cons, List.reverse_cons, List.getElem?_append_right (by rw [List.length_reverse, List.length_map]; exact Nat.le_refl _), List.length_reverse, List.length_map, Nat.sub_self]
    rfl
   have hok := HW.out.ok o (List.mem_cons_self ..)
   obtain ⟨m, hm⟩ : ∃ m, r.length = m := ⟨_, rfl⟩
   rw [hlo2, hm] at c0 hgk
   rw [hm] at ce hsz hcap
   obtain ⟨M, hM⟩ : ∃ x, m + 1 = x := ⟨_, rfl⟩
   rw [hM] at c0 hcap hgk
   have e1 : (M : Int) - 1 = (m : Int) := by omega
   have hmM : m < M := by omega
   have hmM2 : (m : Int) < (M : Int) := by omega
   have hM0 : (0 : Int) < (M : Int) := by omega
   have hM1 : 0 < M := by omega
   have hwn : IntKind.i64.wrap (m : Int) = (m : Int) := Go.IntWalk.i64_in _ (by omega)
   have Hm := Lib.hid hm
   have HM := Lib.hid hM
   obtain ⟨s, hs⟩ : ∃ s, opStr o = s := ⟨_, rfl⟩
   have Hs := Lib.hid hs
   rw [hs] at ce
   clear hm hM hlo hlo2 hs
   go_step
   rename_i K4 h4
   have H4 := Lib.hid h4
   clear h4
   go_step
   rename_i K5 h5
   have H5 := Lib.hid h5
   clear h5
   have HSd : Hid ((fun w' => w'.cell? ⟨w.heap.size + 1 + 1, 0, none⟩ = some (.slice (some ⟨g, 0, none⟩) M C) ∧ w'.cell? ⟨g, m, none⟩ = some (.string ⟨s.toArray⟩)) wr.drew) := Lib.hid ⟨c0, ce⟩
   refine wp_region_T 13 (fun w' => w'.cell? ⟨w.heap.size + 1 + 1, 0, none⟩ = some (.slice (some ⟨g, 0, none⟩) M C) ∧ w'.cell? ⟨g, m, none⟩ = some (.string ⟨s.toArray⟩)) (by kernel_rfl) ?_
   refine wpT_takeT (i := 0) (v := ?_) rfl (by kernel_rfl) (by kernel_rfl) (by kernel_rfl) (by kernel_rfl) (by kernel_rfl) (fun _ _ _ h => hPan _ _ _ _ _ h) (Or.inl ⟨by rfl, ?_⟩) HSd.out ?_
   rotate_left
   ·(intro wq hSw; obtain ⟨_,_⟩ := hSw; go_simp; all_goals (first | (with_reducible rfl) | (intro hh; omega) | (rw [if_pos (by omega)]; done) | (rw [if_neg (by omega)]; done) | skip))
   try simp only [zA, zB, zC, Act.put, zD, zE, zF]
   refine wpT_takeT (i := 1) (v := ?_) rfl (by kernel_rfl) (by kernel_rfl) (by kernel_rfl) (by kernel_rfl) (by kernel_rfl) (fun _ _ _ h => hPan _ _ _ _ _ h) (Or.inl ⟨by rfl, ?_⟩) HSd.out ?_
   rotate_left
   ·(intro wq hSw; obtain ⟨_,_⟩ := hSw; go_simp; all_goals (first | (with_reducible rfl) | (intro hh; omega) | (rw [if_pos (by omega)]; done) | (rw [if_neg (by omega)]; done) | skip))
   try simp only [zA, zB, zC, Act.put, zD, zE, zF]
   refine wpT_takeT (i := 2) (v := ?_) rfl (by kernel_rfl) (by kernel_rfl) (by kernel_rfl) (by kernel_rfl) (by kernel_rfl) (fun _ _ _ h => hPan _ _ _ _ _ h) (Or.inl ⟨by rfl, ?_⟩) HSd.out ?_
   rotate_left
   ·(intro wq hSw; obtain ⟨_,_⟩ := hSw; go_simp; all_goals (first | (with_reducible rfl) | (intro hh; omega) | (rw [if_pos (by omega)]; done) | (rw [if_neg (by omega)]; done) | skip))
   try simp only [zA, zB, zC, Act.put, zD, zE, zF]
   refine wpT_takeT (i := 3) (v := ?_) rfl (by kernel_rfl) (by kernel_rfl) (by kernel_rfl) (by kernel_rfl) (by kernel_rfl) (fun _ _ _ h => hPan _ _ _ _ _ h) (Or.inl ⟨by rfl, ?_⟩) HSd.out ?_
   rotate_left
   ·(intro wq hSw; obtain ⟨_,_⟩ := hSw; go_simp; all_goals (first | (with_reducible rfl) | (intro hh; omega) | (rw [if_pos (by omega)]; done) | (rw [if_neg (by omega)]; done) | skip))
   try simp only [zA, zB, zC, Act.put, zD, zE, zF]
   refine wpT_takeT (i := 4) (v := ?_) rfl (by kernel_rfl) (by kernel_rfl) (by kernel_rfl) (by kernel_rfl) (by kernel_rfl) (fun _ _ _ h => hPan _ _ _ _ _ h) (Or.inl ⟨by rfl, ?_⟩) HSd.out ?_
   rotate_left
   ·(intro wq hSw; obtain ⟨_,_⟩ := hSw; go_simp; all_goals (first | (with_reducible rfl) | (intro hh; omega) | (rw [if_pos (by omega)]; done) | (rw [if_neg (by omega)]; done) | skip))
   try simp only [zA, zB, zC, Act.put, zD, zE, zF]
   refine wpT_takeT (i := 5) (v := ?_) rfl (by kernel_rfl) (by kernel_rfl) (by kernel_rfl) (by kernel_rfl) (by kernel_rfl) (fun _ _ _ h => hPan _ _ _ _ _ h) (Or.inl ⟨by rfl, ?_⟩) HSd.out ?_
   rotate_left
   ·(intro wq hSw; obtain ⟨_,_⟩ := hSw; go_simp; all_goals (first | (with_reducible rfl) | (intro hh; omega) | (rw [if_pos (by omega)]; done) | (rw [if_neg (by omega)]; done) | skip))
   try simp only [zA, zB, zC, Act.put, zD, zE, zF]
   refine wpT_takeT (i := 6) (v := ?_) rfl (by kernel_rfl) (by kernel_rfl) (by kernel_rfl) (by kernel_rfl) (by kernel_rfl) (fun _ _ _ h => hPan _ _ _ _ _ h) (Or.inl ⟨by rfl, ?_⟩) HSd.out ?_
   rotate_left
   ·(intro wq hSw; obtain ⟨_,_⟩ := hSw; go_simp; all_goals (first | (with_reducible rfl) | (intro hh; omega) | (rw [if_pos (by omega)]; done) | (rw [if_neg (by omega)]; done) | skip))
   try simp only [zA, zB, zC, Act.put, zD, zE, zF]
   refine wpT_takeT (i := 7) (v := ?_) rfl (by kernel_rfl) (by kernel_rfl) (by kernel_rfl) (by kernel_rfl) (by kernel_rfl) (fun _ _ _ h => hPan _ _ _ _ _ h) (Or.inl ⟨by rfl, ?_⟩) HSd.out ?_
   rotate_left
   ·(intro wq hSw; obtain ⟨_,_⟩ := hSw; go_simp; all_goals (first | (with_reducible rfl) | (intro hh; omega) | (rw [if_pos (by omega)]; done) | (rw [if_neg (by omega)]; done) | skip))
   try simp only [zA, zB, zC, Act.put, zD, zE, zF]
   refine wpT_takeT (i := 8) (v := ?_) rfl (by kernel_rfl) (by kernel_rfl) (by kernel_rfl) (by kernel_rfl) (by kernel_rfl) (fun _ _ _ h => hPan _ _ _ _ _ h) (Or.inl ⟨by rfl, ?_⟩) HSd.out ?_
   rotate_left
   ·(intro wq hSw; obtain ⟨_,_⟩ := hSw; go_simp; all_goals (first | (with_reducible rfl) | (intro hh; omega) | (rw [if_pos (by omega)]; done) | (rw [if_neg (by omega)]; done) | skip))
   try simp only [zA, zB, zC, Act.put, zD, zE, zF]
   refine wpT_takeT (i := 9) (v := ?_) rfl (by kernel_rfl) (by kernel_rfl) (by kernel_rfl) (by kernel_rfl) (by kernel_rfl) (fun _ _ _ h => hPan _ _ _ _ _ h) (Or.inl ⟨by rfl, ?_⟩) HSd.out ?_
   rotate_left
   ·(intro wq hSw; obtain ⟨_,_⟩ := hSw; go_simp; all_goals (first | (with_reducible rfl) | (intro hh; omega) | (rw [if_pos (by omega)]; done) | (rw [if_neg (by omega)]; done) | skip))
   try simp only [zA, zB, zC, Act.put, zD, zE, zF]
   refine wpT_takeT (i := 10) (v := ?_) rfl (by kernel_rfl) (by kernel_rfl) (by kernel_rfl) (by kernel_rfl) (by kernel_rfl) (fun _ _ _ h => hPan _ _ _ _ _ h) (Or.inl ⟨by rfl, ?_⟩) HSd.out ?_
   rotate_left
   ·(intro wq hSw; obtain ⟨_,_⟩ := hSw; go_simp; all_goals (first | (with_reducible rfl) | (intro hh; omega) | (rw [if_pos (by omega)]; done) | (rw [if_neg (by omega)]; done) | skip))
   try simp only [zA, zB, zC, Act.put, zD, zE, zF]
   refine wpT_takeT (i := 11) (v := ?_) rfl (by kernel_rfl) (by kernel_rfl) (by kernel_rfl) (by kernel_rfl) (by kernel_rfl) (fun _ _ _ h => hPan _ _ _ _ _ h) (Or.inl ⟨by rfl, ?_⟩) HSd.out ?_
   rotate_left
   ·(intro wq hSw; obtain ⟨_,_⟩ := hSw; go_simp; all_goals (first | (with_reducible rfl) | (intro hh; omega) | (rw [if_pos (by omega)]; done) | (rw [if_neg (by omega)]; done) | skip))
   try simp only [zA, zB, zC, Act.put, zD, zE, zF]
   have hbq : Below wr.heap.size wr wr.drew := (Below.refl _ _).drew
   have HWq := Lib.hid (HW.out.below hbq)
   by_cases hbr : o = .br
   ·have hs40 : s = [40] := by rw [← Hs.out, hbr]; rfl
    have ht40 : (s != [40]) = false := by rw [hs40]; rfl
    refine wpT_takeT (i := 12) (v := .bool false) rfl (by kernel_rfl) (by kernel_rfl) (by kernel_rfl) (by kernel_rfl) (by kernel_rfl) (fun _ _ _ h => hPan _ _ _ _ _ h) (Or.inl ⟨by rfl, ?_⟩) HSd.out ?_
    ·(intro wq hSw; obtain ⟨_,_⟩ := hSw; go_simp; all_goals (first | (with_reducible rfl) | (intro hh; omega) | (rw [if_pos (by omega)]; done) | (rw [if_neg (by omega)]; done) | skip))
    try simp only [zA, zB, zC, Act.put, zD, zE, zF]
    refine wpT_done (by kernel_rfl) ?_
    (try simp only [Exit.inBlock, Exit.then])
    refine H5.out _ _ ?_
    clear H5
    go_step
    go_step
    (try simp only [Exit.inBlock, Exit.then])
    refine H3.out _ _ ?_
    clear H3
    subst hbr
    have HWx := HWq.out
    have hnn := Hnn.out
    subst hnn
    have HY := HWx.ys (Yd.YR.close hbn hcl (by rw [HR0.out]; exact hrun.out)) (Nat.le_trans (Nat.add_le_add_right HL0.out 1) hsz0) hpl
    exact be_cut l w _ RES p _ _ _ _ _ _ P c h2000 (Exit.then K1 Qx) (fun e d v a w h => hPan e d v a w h) TT EE CC AA _ _ _ _ _ _ _ _ _ _ _ _ _ _ HY HWx.pb hP HWx.po HWx.pv (Lib.hid fun _ _ _ _ _ _ _ _ _ _ _ _ _ _ _ _ _ _ _ _ _ _ _ _ _ _ _ _ _ _ _ _ _ _ _ _ _ _ _ _ _ _ _ _ _ _ _ _ _ _ _ _ _ _ _ _ _ _ _ _ _ _ _ _ _ _ _ _ _ _ _ _ _ _ _ _ _ _ _ _ _ _ _ _ _ _ _ _ _ _ _ _ _ _ _ _ _ _ _ _ _ _ _ _ _ _ _ _ _ _ _ _ _ _ _ _ _ _ _ _ _ _ _ _ _ _ _ _ _ _ _ _ _ _ _ _ _ _ _ _ _ _ _ _ _ _ _ _ _ _ _ _ _ _ _ _ _ _ _ _ _ _ _ _ _ _ _ _ _ _ _ _ _ _ _ _ _ _ _ _ _ _ _ _ _ _ _ _ _ _ _ _ _ _ _ _ _ _ _ _ _ _ _ _ _ _ _ _ _ _ _ _ _ _ _ _ _ _ _ _ _ _ _ _ _ _ _ _ _ _ _ _ _ _ _ _ _ _ w' p' n' o' ops' vals' ov' vv' xs' h1 h2 => hN.out _ _ _ _ _ _ _ _ _ _ _ _ _ _ _ _ _ _ _ _ _ _ _ _ _ _ _ _ _ _ _ _ _ _ _ _ _ _ _ _ _ _ _ _ _ _ _ _ _ _ _ _ _ _ _ _ _ _ _ _ _ _ _ _ _ _ _ _ _ _ _ _ _ _ _ _ _ _ _ _ _ _ _ _ _ _ _ _ _ _ _ _ _ _ _ _ _ _ _ _ _ _ _ _ _ _ _ _ _ _ _ _ _ _ _ _ _ _ _ _ _ _ _ _ _ _ _ _ _ _ _ _ _ _ _ _ _ _ _ _ _ _ _ _ _ _ _ _ _ _ _ _ _ _ _ _ _ _ _ _ _ _ _ _ _ _ _ _ _ _ _ _ _ _ _ _ _ _ _ _ _ _ _ _ _ _ _ _ _ _ _ _ _ _ _ _ _ _ _ _ _ _ _ _ _ _ _ _ _ _ _ _ _ _ _ _ _ _ _ _ _ _ _ _ _ _ _ _ _ _ _ _ _ _ _ _ _ _ w' p' n' o' ops' vals' ov' vv' xs' h1 h2) n1 rfl ⟨r, rfl⟩ (by have h := hrun.out; rw [← HR0.out] at h; exact h) hto hpt _ _ _ _ _ _ _ _ _ _ _ _ _ _ _ _ _ _ _ _ _ _ _ _ _ _ _ _ _ _ _ _ _ _ _ _ _ _ _ _ _ _ _ _ _ _ _ _ _ _ _ _ _ _ _ _ _ _ _ _ _ _ _ _ _ _ _ _ _ _ _ _ _ _ _ _ _ _ _ _ _ _ _ _ _ _ _ _ _ _ _ _ _ _ _ _ _ _ _ _ _ _ _ _ _ _ _ _ _ _ _ _ _ _ _ _ _ _ _ _ _ _ _ _ _ _ _ _ _ _ _ _ _ _ _ _ _ _ _ _ _ _ _ _ _ _ _ _ _ _ _ _ _ _ _ _ _ _ _ _ _ _ _ _ _ _ _ _ _ _ _ _ _ _ _ _ _ _ _ _ _ _ _ _ _ _ _ _ _ _ _ _ _ _ _ _ _ _ _ _ _ _ _ _ _ _ _ _ _ _ _ _ _ _ _ _ _ _ _ _ _ _ _ _ _ _ _ _ _ _ _ _ _ _ _ _ _
   ·have hne : o ≠ .br := hbr
    have ht40 : (s != [40]) = true := by rw [bne_iff_ne, ← Hs.out]; exact fun e => hbr ((opStr_br hok).1 e)
    have hs40n : ¬ s = [40] := by rw [← Hs.out]; exact fun e => hbr ((opStr_br hok).1 e)
    have hnx : Yd.redB unX biX r (Yd.red1 unX biX o vals') = Yd.redB unX biX ops vals := by
     have h := HR0.out
     cases o with
     | br => exact absurd rfl hbr
     | un u => exact h
     | bi a b => exact h
    refine wpT_takeT (i := 12) (v := .bool true) rfl (by kernel_rfl) (by kernel_rfl) (by kernel_rfl) (by kernel_rfl) (by kernel_rfl) (fun _ _ _ h => hPan _ _ _ _ _ h) (Or.inl ⟨by rfl, ?_⟩) HSd.out ?_
    ·(intro wq hSw; obtain ⟨_,_⟩ := hSw; go_simp; all_goals (first | (with_reducible rfl) | (intro hh; omega) | (rw [if_pos (by omega)]; done) | (rw [if_neg (by omega)]; done) | skip))
    try simp only [zA, zB, zC, Act.put, zD, zE, zF]
    refine wpT_done (by kernel_rfl) ?_
    (try simp only [Exit.inBlock, Exit.then])
    refine H5.out _ _ ?_
    clear H5
    go_step
    go_step
    (try simp only [Exit.inBlock, Exit.then])
    refine H4.out _ _ ?_
    clear H4
    go_wp2_with fail
    refine (HWq.out.reduce hne).mono ?_
    rintro e w5 ⟨rfl, ov5, vv5, xs5, hW5⟩
    go_wp2_with fail
    have hm := Hm.out
    have hM := HM.out
    go_roundg r.length
    case measure => omega
    case rel => exact ⟨r, _, _, _, _, Nat.le_refl _, Lib.hid hnx, Lib.hid (Nat.le_trans (nbi_step o r) HL0.out), hW5⟩
end Go.Proofs.YtpidjanngbaiiaaGreatDoor
