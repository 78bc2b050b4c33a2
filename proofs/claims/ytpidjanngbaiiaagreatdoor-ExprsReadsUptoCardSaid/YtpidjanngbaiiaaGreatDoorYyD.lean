/-
  BeginExpr: its rounds where no operand may stand.
-/
import Derived.Test.YtpidjanngbaiiaaGreatDoorM18
import Derived.Test.YtpidjanngbaiiaaGreatDoorM21
namespace Go.Proofs.YtpidjanngbaiiaaGreatDoor
open Go.RowKit Go.Proofs

set_option maxRecDepth 100000
noncomputable def be27 : Code := ydSnd beB
noncomputable def be29 : Code := ydSnd be27
noncomputable def be35 : Code := ydSnd be29
noncomputable def be41 : Code := ydSnd be35
noncomputable def beE : Code := ydSnd be41
set_option maxHeartbeats 8000000 in
theorem be_open (l : Str) (w wr : World) (RES : Yd.Res Ex) (p n : Nat) (ops : List Yd.Op) (vals : List Ex) (ov vv : Value) (xs : List Value) (P : Nat) (c : Pc) (h2000 : l.length ≤ 2000) (Qx : Exit → Act → World → Prop) (hPan : ∀ (e : List PanicEntry) (d : Option Nat) (v : Value) (a : Act) (w : World), Qx (.panic e) (a.put d v) w → Qx (.panic e) a w) (TT : Ex) (EE : Nat) (CC : Int) (AA : Nat) (u2 u3 u12 u13 u14 u15 u16 u17 u18 u19 u20 u21 u22 u23 : Value) (hS : YS w wr (w.heap.size + 1 + 1 + 1) (w.heap.size + 1 + 1) l RES p n false ops vals ov vv xs) (PB : PcBox wr P c) (hP : (w.heap.size + 1 + 1 + 1) ≤ P) (hPo : some P ≠ ov.ownBlock) (hPv : some P ≠ vv.ownBlock)  (hR : Hid (∀ (v1 v8 v9 v10 v11 v24 v25 v26 v27 v28 v29 v30 v31 v32 v33 v34 v35 v36 v37 v38 v39 v40 v41 v42 v43 v44 v45 v46 v47 v48 v49 v50 v51 v52 v53 v54 v55 v56 v57 v58 v59 v60 v61 v62 v63 v64 v65 v66 v67 v68 v69 v70 v71 v72 v73 v74 v75 v76 v77 v78 v79 v80 v81 v82 v83 v84 v85 v86 v87 v88 v89 v90 v91 v92 v93 v94 v95 v96 v97 v98 v99 v100 v101 v102 v103 v104 v105 v106 v107 v108 v109 v110 v111 v112 v113 v114 v115 v116 v117 v118 v119 v120 v121 v122 v123 v124 v125 v126 v127 v128 v129 v130 v131 v132 v133 v134 v135 v136 v137 v138 v139 v140 v141 v142 v143 v144 v145 v146 v147 v148 v149 v150 v151 v152 v153 v154 v155 v156 v157 v158 v159 v160 v161 v162 v163 v164 v165 v166 v167 v168 v169 v170 v171 v172 v173 v174 v175 v176 v177 v178 v179 v180 v181 v182 v183 v184 v185 v186 v187 v188 v189 v190 v191 v192 v193 v194 v195 v196 v197 v198 v199 v200 v201 v202 v203 v204 v205 v206 v207 v208 v209 v210 v211 v212 v213 v214 v215 v216 v217 v218 v219 v220 v221 v222 v223 v224 v225 v226 v227 v228 v229 v230 v231 v232 v233 v234 v235 v236 v237 v238 v239 v240 v241 v242 v243 v244 v245 v246 v247 v248 v249 v250 v251 v252 v253 v254 v255 v256 v257 v258 : Value) (w' : World) (kv : Value), ExBox w' w.heap.size TT kv → Exs (fun k => w.heap.size ≤ k) w' kv TT.kids → w'.cell? ⟨w.heap.size + 1, 0, none⟩ = some (.int .i64 CC) → w'.cell? ⟨w.heap.size + 1, 1, none⟩ = some (.int .i64 (AA : Int)) → Below w.heap.size w w' → Qx .ret { tmps := #[.string ⟨l.toArray⟩, v1, u2, u3, .pointer (some ⟨w.heap.size, 0, none⟩), .int .i64 (EE : Int), .pointer (some ⟨w.heap.size + 1, 0, none⟩), .pointer (some ⟨w.heap.size + 1 + 1, 0, none⟩), v8, v9, v10, v11, u12, u13, u14, u15, u16, u17, u18, u19, u20, u21, u22, u23, v24, v25, v26, v27, v28, v29, v30, v31, v32, v33, v34, v35, v36, v37, v38, v39, v40, v41, v42, v43, v44, v45, v46, v47, v48, v49, v50, v51, v52, v53, v54, v55, v56, v57, v58, v59, v60, v61, v62, v63, v64, v65, v66, v67, v68, v69, v70, v71, v72, v73, v74, v75, v76, v77, v78, v79, v80, v81, v82, v83, v84, v85, v86, v87, v88, v89, v90, v91, v92, v93, v94, v95, v96, v97, v98, v99, v100, v101, v102, v103, v104, v105, v106, v107, v108, v109, v110, v111, v112, v113, v114, v115, v116, v117, v118, v119, v120, v121, v122, v123, v124, v125, v126, v127, v128, v129, v130, v131, v132, v133, v134, v135, v136, v137, v138, v139, v140, v141, v142, v143, v144, v145, v146, v147, v148, v149, v150, v151, v152, v153, v154, v155, v156, v157, v158, v159, v160, v161, v162, v163, v164, v165, v166, v167, v168, v169, v170, v171, v172, v173, v174, v175, v176, v177, v178, v179, v180, v181, v182, v183, v184, v185, v186, v187, v188, v189, v190, v191, v192, v193, v194, v195, v196, v197, v198, v199, v200, v201, v202, v203, v204, v205, v206, v207, v208, v209, v210, v211, v212, v213, v214, v215, v216, v217, v218, v219, v220, v221, v222, v223, v224, v225, v226, v227, v228, v229, v230, v231, v232, v233, v234, v235, v236, v237, v238, v239, v240, v241, v242, v243, v244, v245, v246, v247, v248, v249, v250, v251, v252, v253, v254, v255, v256, v257, v258], defers := [] } w')) (hn : 0 < n) (hTT : TT = zeroEx) (hEE : EE = 0) (hCC : CC = 3) (hAA : AA = c.at_) (u5 u11 u24 u25 u26 u27 u28 u29 u30 u31 u32 u33 u34 u35 u36 u37 u38 u39 u40 u41 u42 u43 u44 u45 u46 u47 u48 u49 u50 u51 u52 u53 u54 u55 u56 u57 u58 u59 u60 u61 u62 u63 u64 u65 u66 u67 u68 u69 u70 u71 u72 u73 u74 u75 u76 u77 u78 u79 u80 u81 u82 u83 u84 u85 u86 u87 u88 u89 u90 u91 u92 u93 u94 u95 u96 u97 u98 u99 u100 u101 u102 u103 u104 u105 u106 u107 u108 u109 u110 u111 u112 u113 u114 u115 u116 u117 u118 u119 u120 u121 u122 u123 u124 u125 u126 u127 u128 u129 u130 u131 u132 u133 u134 u135 u136 u137 u138 u139 u140 u141 u142 u143 u144 u145 u146 u147 u148 u149 u150 u151 u152 u153 u154 u155 u156 u157 u158 u159 u160 u161 u162 u163 u164 u165 u166 u167 u168 u169 u170 u171 u172 u173 u174 u175 u176 u177 u178 u179 u180 u181 u182 u183 u184 u185 u186 u187 u188 u189 u190 u191 u192 u193 u194 u195 u196 u197 u198 u199 u200 u201 u202 u203 u204 u205 u206 u207 u208 u209 u210 u211 u212 u213 u214 u215 u216 u217 u218 u219 u220 u221 u222 u223 u224 u225 u226 u227 u228 u229 u230 u231 u232 u233 u234 u235 u236 u237 u238 u239 u240 u241 u242 u243 u244 u245 u246 u247 u248 u249 u250 u251 u252 u253 u254 u255 u256 u257 u258 : Value) :
  Code.wp Tryz.prog be41 Qx { tmps := #[.string ⟨l.toArray⟩, .int .i64 (p : Int), u2, u3, .pointer (some ⟨w.heap.size, 0, none⟩), u5, .pointer (some ⟨w.heap.size + 1, 0, none⟩), .pointer (some ⟨w.heap.size + 1 + 1, 0, none⟩), .int .i64 (n : Int), .bool false, .pointer (some ⟨P, 0, none⟩), u11, u12, u13, u14, u15, u16, u17, u18, u19, u20, u21, u22, u23, u24, u25, u26, u27, u28, u29, u30, u31, u32, u33, u34, u35, u36, u37, u38, u39, u40, u41, u42, u43, u44, u45, u46, u47, u48, u49, u50, u51, u52, u53, u54, u55, u56, u57, u58, u59, u60, u61, u62, u63, u64, u65, u66, u67, u68, u69, u70, u71, u72, u73, u74, u75, u76, u77, u78, u79, u80, u81, u82, u83, u84, u85, u86, u87, u88, u89, u90, u91, u92, u93, u94, u95, u96, u97, u98, u99, u100, u101, u102, u103, u104, u105, u106, u107, u108, u109, u110, u111, u112, u113, u114, u115, u116, u117, u118, u119, u120, u121, u122, u123, u124, u125, u126, u127, u128, u129, u130, u131, u132, u133, u134, u135, u136, u137, u138, u139, u140, u141, u142, u143, u144, u145, u146, u147, u148, u149, u150, u151, u152, u153, u154, u155, u156, u157, u158, u159, u160, u161, u162, u163, u164, u165, u166, u167, u168, u169, u170, u171, u172, u173, u174, u175, u176, u177, u178, u179, u180, u181, u182, u183, u184, u185, u186, u187, u188, u189, u190, u191, u192, u193, u194, u195, u196, u197, u198, u199, u200, u201, u202, u203, u204, u205, u206, u207, u208, u209, u210, u211, u212, u213, u214, u215, u216, u217, u218, u219, u220, u221, u222, u223, u224, u225, u226, u227, u228, u229, u230, u231, u232, u233, u234, u235, u236, u237, u238, u239, u240, u241, u242, u243, u244, u245, u246, u247, u248, u249, u250, u251, u252, u253, u254, u255, u256, u257, u258], defers := [] } wr := by
 have h : be41 = Code.seq _ _ := rfl
 rw [h]
 clear h
 dsimp only
 have HSS := Lib.hid hS
 obtain ⟨p0, p1, p2, p3, p4, p5, p6, p7, p8, p9, p10⟩ := id PB
 clear hS
 have hn' : (0 : Int) < (n : Int) := by omega
 go_step
 rename_i K1 h1
 have H1 := Lib.hid h1
 clear h1
 go_step
 rename_i K2 h2
 have H2 := Lib.hid h2
 clear h2
 go_wp2_with fail
 refine H2.out _ _ ?_
 clear H2
 go_step
 go_step
 rename_i K3 h3
 have H3 := Lib.hid h3
 clear h3
 obtain ⟨x0, x1, x2, x3, x4, x5, x6, x7⟩ := id HSS.out.xb
 have f0 := HSS.out.f0
 have f1 := HSS.out.f1
 have fz := HSS.out.fz
 have hd1 : ¬ w.heap.size = w.heap.size + 1 := by omega
 have hd2 : ¬ w.heap.size + 1 = w.heap.size := by omega
 have hd3 : ¬ w.heap.size = P := by omega
 have hd4 : ¬ w.heap.size + 1 = P := by omega
 go_region
 obtain ⟨TB9, g0, g1, -, hbl, -⟩ := elaid2_facts (w.heap.size) (w.heap.size + 1) wr HSS.out.xb f0 f1 fz hd1 hd2 zeroEx (.slice none 0 0) 3 (c.at_ : Int)
 have hbN := (hbl _ _ HSS.out.bl (Nat.le_refl _) (by omega)).drew
 simp only [zeroEx, Ex.kind, Ex.name, Ex.vs, Ex.vn, Ex.vt] at TB9 g0 g1 hbN
 clear hbl x0 x1 x2 x3 x4 x5 x6 x7 p0 p1 p2 p3 p4 p5 p6 p7 p8 p9 p10 f0 f1 fz
 generalize ((((((((wr.setCell ⟨w.heap.size, 0, none⟩ (.int .i64 0)).setCell ⟨w.heap.size, 1, none⟩ (.string ⟨#[]⟩)).setCell ⟨w.heap.size, 2, none⟩ (.int .i64 0)).setCell ⟨w.heap.size, 3, none⟩ (.int .i64 0)).setCell ⟨w.heap.size, 4, none⟩ (.string ⟨#[]⟩)).setCell ⟨w.heap.size, 5, none⟩ (.slice none 0 0)).setCell ⟨w.heap.size + 1, 0, none⟩ (.int .i64 3)).setCell ⟨w.heap.size + 1, 1, none⟩ (.int .i64 (c.at_ : Int))) = w9 at TB9 g0 g1 hbN ⊢
 have TB10 : ExBox w9.drew w.heap.size zeroEx (.slice none 0 0) := ⟨TB9.c0, TB9.c1, TB9.c2, TB9.c3, TB9.c4, TB9.c5, TB9.fr, TB9.lt⟩
 have g0' : w9.drew.cell? ⟨w.heap.size + 1, 0, none⟩ = some (.int .i64 3) := g0
 have g1' : w9.drew.cell? ⟨w.heap.size + 1, 1, none⟩ = some (.int .i64 (c.at_ : Int)) := g1
 generalize w9.drew = wF at TB10 g0' g1' hbN ⊢
 simp only [Exit.inBlock, Exit.then]
 refine H3.out _ _ ?_
 clear H3
 go_step
 simp only [Exit.inBlock, Exit.then]
 subst hTT hEE hCC hAA
 exact hR.out _ _ _ _ _ _ _ _ _ _ _ _ _ _ _ _ _ _ _ _ _ _ _ _ _ _ _ _ _ _ _ _ _ _ _ _ _ _ _ _ _ _ _ _ _ _ _ _ _ _ _ _ _ _ _ _ _ _ _ _ _ _ _ _ _ _ _ _ _ _ _ _ _ _ _ _ _ _ _ _ _ _ _ _ _ _ _ _ _ _ _ _ _ _ _ _ _ _ _ _ _ _ _ _ _ _ _ _ _ _ _ _ _ _ _ _ _ _ _ _ _ _ _ _ _ _ _ _ _ _ _ _ _ _ _ _ _ _ _ _ _ _ _ _ _ _ _ _ _ _ _ _ _ _ _ _ _ _ _ _ _ _ _ _ _ _ _ _ _ _ _ _ _ _ _ _ _ _ _ _ _ _ _ _ _ _ _ _ _ _ _ _ _ _ _ _ _ _ _ _ _ _ _ _ _ _ _ _ _ _ _ _ _ _ _ _ _ _ _ _ _ _ _ _ _ _ _ _ _ _ _ _ _ _ _ _ _ _ _ _ wF _ TB10 (no_exs _ _) g0' g1' hbN
set_option maxHeartbeats 8000000 in
theorem be_lv0 (l : Str) (w wr : World) (RES : Yd.Res Ex) (p n : Nat) (ops : List Yd.Op) (vals : List Ex) (ov vv : Value) (xs : List Value) (P : Nat) (c : Pc) (h2000 : l.length ≤ 2000) (Qx : Exit → Act → World → Prop) (hPan : ∀ (e : List PanicEntry) (d : Option Nat) (v : Value) (a : Act) (w : World), Qx (.panic e) (a.put d v) w → Qx (.panic e) a w) (TT : Ex) (EE : Nat) (CC : Int) (AA : Nat) (u2 u3 u12 u13 u14 u15 u16 u17 u18 u19 u20 u21 u22 u23 : Value) (hS : YS w wr (w.heap.size + 1 + 1 + 1) (w.heap.size + 1 + 1) l RES p n false ops vals ov vv xs) (PB : PcBox wr P c) (hP : (w.heap.size + 1 + 1 + 1) ≤ P) (hPo : some P ≠ ov.ownBlock) (hPv : some P ≠ vv.ownBlock)   (lv : Int) (hnext : Hid (∀ (v5 v24 v25 v26 v27 v28 v29 v30 v31 v32 v33 v34 v35 v36 v37 v38 v39 v40 v41 v42 v43 v44 v45 v46 v47 v48 v49 v50 v51 v52 v53 v54 v55 v56 v57 v58 v59 v60 v61 v62 v63 v64 v65 v66 v67 v68 v69 v70 v71 v72 v73 v74 v75 v76 v77 v78 v79 v80 v81 v82 v83 v84 v85 v86 v87 v88 v89 v90 v91 v92 v93 v94 v95 v96 v97 v98 v99 v100 v101 v102 v103 v104 v105 v106 v107 v108 v109 v110 v111 v112 v113 v114 v115 v116 v117 v118 v119 v120 v121 v122 v123 v124 v125 v126 v127 v128 v129 v130 v131 v132 v133 v134 v135 v136 v137 v138 v139 v140 v141 v142 v143 v144 v145 v146 v147 v148 v149 v150 v151 v152 v153 v154 v155 v156 v157 v158 v159 v160 v161 v162 v163 v164 v165 v166 v167 v168 v169 v170 v171 v172 v173 v174 v175 v176 v177 v178 v179 v180 v181 v182 v183 v184 v185 v186 v187 v188 v189 v190 v191 v192 v193 v194 v195 v196 v197 v198 v199 v200 v201 v202 v203 v204 v205 v206 v207 v208 v209 v210 v211 v212 v213 v214 v215 v216 v217 v218 v219 v220 v221 v222 v223 v224 v225 v226 v227 v228 v229 v230 v231 v232 v233 v234 v235 v236 v237 v238 v239 v240 v241 v242 v243 v244 v245 v246 v247 v248 v249 v250 v251 v252 v253 v254 v255 v256 v257 v258 : Value) (w' : World), YS w w' (w.heap.size + 1 + 1 + 1) (w.heap.size + 1 + 1) l RES p n false ops vals ov vv xs → PcBox w' P c → Code.wp Tryz.prog be29 Qx { tmps := #[.string ⟨l.toArray⟩, .int .i64 (p : Int), u2, u3, .pointer (some ⟨w.heap.size, 0, none⟩), v5, .pointer (some ⟨w.heap.size + 1, 0, none⟩), .pointer (some ⟨w.heap.size + 1 + 1, 0, none⟩), .int .i64 (n : Int), .bool false, .pointer (some ⟨P, 0, none⟩), .int .i64 lv, u12, u13, u14, u15, u16, u17, u18, u19, u20, u21, u22, u23, v24, v25, v26, v27, v28, v29, v30, v31, v32, v33, v34, v35, v36, v37, v38, v39, v40, v41, v42, v43, v44, v45, v46, v47, v48, v49, v50, v51, v52, v53, v54, v55, v56, v57, v58, v59, v60, v61, v62, v63, v64, v65, v66, v67, v68, v69, v70, v71, v72, v73, v74, v75, v76, v77, v78, v79, v80, v81, v82, v83, v84, v85, v86, v87, v88, v89, v90, v91, v92, v93, v94, v95, v96, v97, v98, v99, v100, v101, v102, v103, v104, v105, v106, v107, v108, v109, v110, v111, v112, v113, v114, v115, v116, v117, v118, v119, v120, v121, v122, v123, v124, v125, v126, v127, v128, v129, v130, v131, v132, v133, v134, v135, v136, v137, v138, v139, v140, v141, v142, v143, v144, v145, v146, v147, v148, v149, v150, v151, v152, v153, v154, v155, v156, v157, v158, v159, v160, v161, v162, v163, v164, v165, v166, v167, v168, v169, v170, v171, v172, v173, v174, v175, v176, v177, v178, v179, v180, v181, v182, v183, v184, v185, v186, v187, v188, v189, v190, v191, v192, v193, v194, v195, v196, v197, v198, v199, v200, v201, v202, v203, v204, v205, v206, v207, v208, v209, v210, v211, v212, v213, v214, v215, v216, v217, v218, v219, v220, v221, v222, v223, v224, v225, v226, v227, v228, v229, v230, v231, v232, v233, v234, v235, v236, v237, v238, v239, v240, v241, v242, v243, v244, v245, v246, v247, v248, v249, v250, v251, v252, v253, v254, v255, v256, v257, v258], defers := [] } w'))(hlv : lv = 0) (hlit : c.lit = true) (u5 u11 u24 u25 u26 u27 u28 u29 u30 u31 u32 u33 u34 u35 u36 u37 u38 u39 u40 u41 u42 u43 u44 u45 u46 u47 u48 u49 u50 u51 u52 u53 u54 u55 u56 u57 u58 u59 u60 u61 u62 u63 u64 u65 u66 u67 u68 u69 u70 u71 u72 u73 u74 u75 u76 u77 u78 u79 u80 u81 u82 u83 u84 u85 u86 u87 u88 u89 u90 u91 u92 u93 u94 u95 u96 u97 u98 u99 u100 u101 u102 u103 u104 u105 u106 u107 u108 u109 u110 u111 u112 u113 u114 u115 u116 u117 u118 u119 u120 u121 u122 u123 u124 u125 u126 u127 u128 u129 u130 u131 u132 u133 u134 u135 u136 u137 u138 u139 u140 u141 u142 u143 u144 u145 u146 u147 u148 u149 u150 u151 u152 u153 u154 u155 u156 u157 u158 u159 u160 u161 u162 u163 u164 u165 u166 u167 u168 u169 u170 u171 u172 u173 u174 u175 u176 u177 u178 u179 u180 u181 u182 u183 u184 u185 u186 u187 u188 u189 u190 u191 u192 u193 u194 u195 u196 u197 u198 u199 u200 u201 u202 u203 u204 u205 u206 u207 u208 u209 u210 u211 u212 u213 u214 u215 u216 u217 u218 u219 u220 u221 u222 u223 u224 u225 u226 u227 u228 u229 u230 u231 u232 u233 u234 u235 u236 u237 u238 u239 u240 u241 u242 u243 u244 u245 u246 u247 u248 u249 u250 u251 u252 u253 u254 u255 u256 u257 u258 : Value) :
  Code.wp Tryz.prog beB Qx { tmps := #[.string ⟨l.toArray⟩, .int .i64 (p : Int), u2, u3, .pointer (some ⟨w.heap.size, 0, none⟩), u5, .pointer (some ⟨w.heap.size + 1, 0, none⟩), .pointer (some ⟨w.heap.size + 1 + 1, 0, none⟩), .int .i64 (n : Int), .bool false, .pointer (some ⟨P, 0, none⟩), u11, u12, u13, u14, u15, u16, u17, u18, u19, u20, u21, u22, u23, u24, u25, u26, u27, u28, u29, u30, u31, u32, u33, u34, u35, u36, u37, u38, u39, u40, u41, u42, u43, u44, u45, u46, u47, u48, u49, u50, u51, u52, u53, u54, u55, u56, u57, u58, u59, u60, u61, u62, u63, u64, u65, u66, u67, u68, u69, u70, u71, u72, u73, u74, u75, u76, u77, u78, u79, u80, u81, u82, u83, u84, u85, u86, u87, u88, u89, u90, u91, u92, u93, u94, u95, u96, u97, u98, u99, u100, u101, u102, u103, u104, u105, u106, u107, u108, u109, u110, u111, u112, u113, u114, u115, u116, u117, u118, u119, u120, u121, u122, u123, u124, u125, u126, u127, u128, u129, u130, u131, u132, u133, u134, u135, u136, u137, u138, u139, u140, u141, u142, u143, u144, u145, u146, u147, u148, u149, u150, u151, u152, u153, u154, u155, u156, u157, u158, u159, u160, u161, u162, u163, u164, u165, u166, u167, u168, u169, u170, u171, u172, u173, u174, u175, u176, u177, u178, u179, u180, u181, u182, u183, u184, u185, u186, u187, u188, u189, u190, u191, u192, u193, u194, u195, u196, u197, u198, u199, u200, u201, u202, u203, u204, u205, u206, u207, u208, u209, u210, u211, u212, u213, u214, u215, u216, u217, u218, u219, u220, u221, u222, u223, u224, u225, u226, u227, u228, u229, u230, u231, u232, u233, u234, u235, u236, u237, u238, u239, u240, u241, u242, u243, u244, u245, u246, u247, u248, u249, u250, u251, u252, u253, u254, u255, u256, u257, u258], defers := [] } wr := by
 have h : beB = Code.seq _ _ := rfl
 rw [h]
 clear h
 dsimp only
 have HSS := Lib.hid hS
 obtain ⟨p0, p1, p2, p3, p4, p5, p6, p7, p8, p9, p10⟩ := id PB
 clear hS
 rw [hlit] at p4
 subst hlv
 go_step
 rename_i K1 h1
 have H1 := Lib.hid h1
 clear h1
 go_wp2_with fail
 refine H1.out _ _ ?_
 clear H1
 go_step
 rename_i K2 h2
 have H2 := Lib.hid h2
 clear h2
 go_step
 rename_i K3 h3
 have H3 := Lib.hid h3
 clear h3
 go_wp2_with fail
 refine H3.out _ _ ?_
 clear H3
 go_step
 go_step
 refine H2.out _ _ ?_
 clear H2
 exact hnext.out _ _ _ _ _ _ _ _ _ _ _ _ _ _ _ _ _ _ _ _ _ _ _ _ _ _ _ _ _ _ _ _ _ _ _ _ _ _ _ _ _ _ _ _ _ _ _ _ _ _ _ _ _ _ _ _ _ _ _ _ _ _ _ _ _ _ _ _ _ _ _ _ _ _ _ _ _ _ _ _ _ _ _ _ _ _ _ _ _ _ _ _ _ _ _ _ _ _ _ _ _ _ _ _ _ _ _ _ _ _ _ _ _ _ _ _ _ _ _ _ _ _ _ _ _ _ _ _ _ _ _ _ _ _ _ _ _ _ _ _ _ _ _ _ _ _ _ _ _ _ _ _ _ _ _ _ _ _ _ _ _ _ _ _ _ _ _ _ _ _ _ _ _ _ _ _ _ _ _ _ _ _ _ _ _ _ _ _ _ _ _ _ _ _ _ _ _ _ _ _ _ _ _ _ _ _ _ _ _ _ _ _ _ _ _ _ _ _ _ _ _ _ _ _ _ _ _ _ _ _ _ _ _ _ _ _ wr HSS.out PB
set_option maxHeartbeats 8000000 in
theorem be_lv1 (l : Str) (w wr : World) (RES : Yd.Res Ex) (p n : Nat) (ops : List Yd.Op) (vals : List Ex) (ov vv : Value) (xs : List Value) (P : Nat) (c : Pc) (h2000 : l.length ≤ 2000) (Qx : Exit → Act → World → Prop) (hPan : ∀ (e : List PanicEntry) (d : Option Nat) (v : Value) (a : Act) (w : World), Qx (.panic e) (a.put d v) w → Qx (.panic e) a w) (TT : Ex) (EE : Nat) (CC : Int) (AA : Nat) (u2 u3 u12 u13 u14 u15 u16 u17 u18 u19 u20 u21 u22 u23 : Value) (hS : YS w wr (w.heap.size + 1 + 1 + 1) (w.heap.size + 1 + 1) l RES p n false ops vals ov vv xs) (PB : PcBox wr P c) (hP : (w.heap.size + 1 + 1 + 1) ≤ P) (hPo : some P ≠ ov.ownBlock) (hPv : some P ≠ vv.ownBlock)   (lv : Int) (hnext : Hid (∀ (v5 v24 v25 v26 v27 v28 v29 v30 v31 v32 v33 v34 v35 v36 v37 v38 v39 v40 v41 v42 v43 v44 v45 v46 v47 v48 v49 v50 v51 v52 v53 v54 v55 v56 v57 v58 v59 v60 v61 v62 v63 v64 v65 v66 v67 v68 v69 v70 v71 v72 v73 v74 v75 v76 v77 v78 v79 v80 v81 v82 v83 v84 v85 v86 v87 v88 v89 v90 v91 v92 v93 v94 v95 v96 v97 v98 v99 v100 v101 v102 v103 v104 v105 v106 v107 v108 v109 v110 v111 v112 v113 v114 v115 v116 v117 v118 v119 v120 v121 v122 v123 v124 v125 v126 v127 v128 v129 v130 v131 v132 v133 v134 v135 v136 v137 v138 v139 v140 v141 v142 v143 v144 v145 v146 v147 v148 v149 v150 v151 v152 v153 v154 v155 v156 v157 v158 v159 v160 v161 v162 v163 v164 v165 v166 v167 v168 v169 v170 v171 v172 v173 v174 v175 v176 v177 v178 v179 v180 v181 v182 v183 v184 v185 v186 v187 v188 v189 v190 v191 v192 v193 v194 v195 v196 v197 v198 v199 v200 v201 v202 v203 v204 v205 v206 v207 v208 v209 v210 v211 v212 v213 v214 v215 v216 v217 v218 v219 v220 v221 v222 v223 v224 v225 v226 v227 v228 v229 v230 v231 v232 v233 v234 v235 v236 v237 v238 v239 v240 v241 v242 v243 v244 v245 v246 v247 v248 v249 v250 v251 v252 v253 v254 v255 v256 v257 v258 : Value) (w' : World), YS w w' (w.heap.size + 1 + 1 + 1) (w.heap.size + 1 + 1) l RES p n false ops vals ov vv xs → PcBox w' P c → Code.wp Tryz.prog be29 Qx { tmps := #[.string ⟨l.toArray⟩, .int .i64 (p : Int), u2, u3, .pointer (some ⟨w.heap.size, 0, none⟩), v5, .pointer (some ⟨w.heap.size + 1, 0, none⟩), .pointer (some ⟨w.heap.size + 1 + 1, 0, none⟩), .int .i64 (n : Int), .bool false, .pointer (some ⟨P, 0, none⟩), .int .i64 lv, u12, u13, u14, u15, u16, u17, u18, u19, u20, u21, u22, u23, v24, v25, v26, v27, v28, v29, v30, v31, v32, v33, v34, v35, v36, v37, v38, v39, v40, v41, v42, v43, v44, v45, v46, v47, v48, v49, v50, v51, v52, v53, v54, v55, v56, v57, v58, v59, v60, v61, v62, v63, v64, v65, v66, v67, v68, v69, v70, v71, v72, v73, v74, v75, v76, v77, v78, v79, v80, v81, v82, v83, v84, v85, v86, v87, v88, v89, v90, v91, v92, v93, v94, v95, v96, v97, v98, v99, v100, v101, v102, v103, v104, v105, v106, v107, v108, v109, v110, v111, v112, v113, v114, v115, v116, v117, v118, v119, v120, v121, v122, v123, v124, v125, v126, v127, v128, v129, v130, v131, v132, v133, v134, v135, v136, v137, v138, v139, v140, v141, v142, v143, v144, v145, v146, v147, v148, v149, v150, v151, v152, v153, v154, v155, v156, v157, v158, v159, v160, v161, v162, v163, v164, v165, v166, v167, v168, v169, v170, v171, v172, v173, v174, v175, v176, v177, v178, v179, v180, v181, v182, v183, v184, v185, v186, v187, v188, v189, v190, v191, v192, v193, v194, v195, v196, v197, v198, v199, v200, v201, v202, v203, v204, v205, v206, v207, v208, v209, v210, v211, v212, v213, v214, v215, v216, v217, v218, v219, v220, v221, v222, v223, v224, v225, v226, v227, v228, v229, v230, v231, v232, v233, v234, v235, v236, v237, v238, v239, v240, v241, v242, v243, v244, v245, v246, v247, v248, v249, v250, v251, v252, v253, v254, v255, v256, v257, v258], defers := [] } w'))(hlv : lv = 0) (hlit : c.lit = false) (hbad : (c.bad == 0) = false) (u5 u11 u24 u25 u26 u27 u28 u29 u30 u31 u32 u33 u34 u35 u36 u37 u38 u39 u40 u41 u42 u43 u44 u45 u46 u47 u48 u49 u50 u51 u52 u53 u54 u55 u56 u57 u58 u59 u60 u61 u62 u63 u64 u65 u66 u67 u68 u69 u70 u71 u72 u73 u74 u75 u76 u77 u78 u79 u80 u81 u82 u83 u84 u85 u86 u87 u88 u89 u90 u91 u92 u93 u94 u95 u96 u97 u98 u99 u100 u101 u102 u103 u104 u105 u106 u107 u108 u109 u110 u111 u112 u113 u114 u115 u116 u117 u118 u119 u120 u121 u122 u123 u124 u125 u126 u127 u128 u129 u130 u131 u132 u133 u134 u135 u136 u137 u138 u139 u140 u141 u142 u143 u144 u145 u146 u147 u148 u149 u150 u151 u152 u153 u154 u155 u156 u157 u158 u159 u160 u161 u162 u163 u164 u165 u166 u167 u168 u169 u170 u171 u172 u173 u174 u175 u176 u177 u178 u179 u180 u181 u182 u183 u184 u185 u186 u187 u188 u189 u190 u191 u192 u193 u194 u195 u196 u197 u198 u199 u200 u201 u202 u203 u204 u205 u206 u207 u208 u209 u210 u211 u212 u213 u214 u215 u216 u217 u218 u219 u220 u221 u222 u223 u224 u225 u226 u227 u228 u229 u230 u231 u232 u233 u234 u235 u236 u237 u238 u239 u240 u241 u242 u243 u244 u245 u246 u247 u248 u249 u250 u251 u252 u253 u254 u255 u256 u257 u258 : Value) :
  Code.wp Tryz.prog beB Qx { tmps := #[.string ⟨l.toArray⟩, .int .i64 (p : Int), u2, u3, .pointer (some ⟨w.heap.size, 0, none⟩), u5, .pointer (some ⟨w.heap.size + 1, 0, none⟩), .pointer (some ⟨w.heap.size + 1 + 1, 0, none⟩), .int .i64 (n : Int), .bool false, .pointer (some ⟨P, 0, none⟩), u11, u12, u13, u14, u15, u16, u17, u18, u19, u20, u21, u22, u23, u24, u25, u26, u27, u28, u29, u30, u31, u32, u33, u34, u35, u36, u37, u38, u39, u40, u41, u42, u43, u44, u45, u46, u47, u48, u49, u50, u51, u52, u53, u54, u55, u56, u57, u58, u59, u60, u61, u62, u63, u64, u65, u66, u67, u68, u69, u70, u71, u72, u73, u74, u75, u76, u77, u78, u79, u80, u81, u82, u83, u84, u85, u86, u87, u88, u89, u90, u91, u92, u93, u94, u95, u96, u97, u98, u99, u100, u101, u102, u103, u104, u105, u106, u107, u108, u109, u110, u111, u112, u113, u114, u115, u116, u117, u118, u119, u120, u121, u122, u123, u124, u125, u126, u127, u128, u129, u130, u131, u132, u133, u134, u135, u136, u137, u138, u139, u140, u141, u142, u143, u144, u145, u146, u147, u148, u149, u150, u151, u152, u153, u154, u155, u156, u157, u158, u159, u160, u161, u162, u163, u164, u165, u166, u167, u168, u169, u170, u171, u172, u173, u174, u175, u176, u177, u178, u179, u180, u181, u182, u183, u184, u185, u186, u187, u188, u189, u190, u191, u192, u193, u194, u195, u196, u197, u198, u199, u200, u201, u202, u203, u204, u205, u206, u207, u208, u209, u210, u211, u212, u213, u214, u215, u216, u217, u218, u219, u220, u221, u222, u223, u224, u225, u226, u227, u228, u229, u230, u231, u232, u233, u234, u235, u236, u237, u238, u239, u240, u241, u242, u243, u244, u245, u246, u247, u248, u249, u250, u251, u252, u253, u254, u255, u256, u257, u258], defers := [] } wr := by
 have h : beB = Code.seq _ _ := rfl
 rw [h]
 clear h
 dsimp only
 have HSS := Lib.hid hS
 obtain ⟨p0, p1, p2, p3, p4, p5, p6, p7, p8, p9, p10⟩ := id PB
 clear hS
 rw [hlit] at p4
 subst hlv
 go_step
 rename_i K1 h1
 have H1 := Lib.hid h1
 clear h1
 go_wp2_with fail
 refine H1.out _ _ ?_
 clear H1
 go_step
 rename_i K2 h2
 have H2 := Lib.hid h2
 clear h2
 go_step
 rename_i K3 h3
 have H3 := Lib.hid h3
 clear h3
 go_wp2_with fail
 refine H3.out _ _ ?_
 clear H3
 go_step
 go_step
 refine H2.out _ _ ?_
 clear H2
 exact hnext.out _ _ _ _ _ _ _ _ _ _ _ _ _ _ _ _ _ _ _ _ _ _ _ _ _ _ _ _ _ _ _ _ _ _ _ _ _ _ _ _ _ _ _ _ _ _ _ _ _ _ _ _ _ _ _ _ _ _ _ _ _ _ _ _ _ _ _ _ _ _ _ _ _ _ _ _ _ _ _ _ _ _ _ _ _ _ _ _ _ _ _ _ _ _ _ _ _ _ _ _ _ _ _ _ _ _ _ _ _ _ _ _ _ _ _ _ _ _ _ _ _ _ _ _ _ _ _ _ _ _ _ _ _ _ _ _ _ _ _ _ _ _ _ _ _ _ _ _ _ _ _ _ _ _ _ _ _ _ _ _ _ _ _ _ _ _ _ _ _ _ _ _ _ _ _ _ _ _ _ _ _ _ _ _ _ _ _ _ _ _ _ _ _ _ _ _ _ _ _ _ _ _ _ _ _ _ _ _ _ _ _ _ _ _ _ _ _ _ _ _ _ _ _ _ _ _ _ _ _ _ _ _ _ _ _ _ wr HSS.out PB
set_option maxHeartbeats 8000000 in
theorem be_lv2 (l : Str) (w wr : World) (RES : Yd.Res Ex) (p n : Nat) (ops : List Yd.Op) (vals : List Ex) (ov vv : Value) (xs : List Value) (P : Nat) (c : Pc) (h2000 : l.length ≤ 2000) (Qx : Exit → Act → World → Prop) (hPan : ∀ (e : List PanicEntry) (d : Option Nat) (v : Value) (a : Act) (w : World), Qx (.panic e) (a.put d v) w → Qx (.panic e) a w) (TT : Ex) (EE : Nat) (CC : Int) (AA : Nat) (u2 u3 u12 u13 u14 u15 u16 u17 u18 u19 u20 u21 u22 u23 : Value) (hS : YS w wr (w.heap.size + 1 + 1 + 1) (w.heap.size + 1 + 1) l RES p n false ops vals ov vv xs) (PB : PcBox wr P c) (hP : (w.heap.size + 1 + 1 + 1) ≤ P) (hPo : some P ≠ ov.ownBlock) (hPv : some P ≠ vv.ownBlock)   (lv : Int) (hnext : Hid (∀ (v5 v24 v25 v26 v27 v28 v29 v30 v31 v32 v33 v34 v35 v36 v37 v38 v39 v40 v41 v42 v43 v44 v45 v46 v47 v48 v49 v50 v51 v52 v53 v54 v55 v56 v57 v58 v59 v60 v61 v62 v63 v64 v65 v66 v67 v68 v69 v70 v71 v72 v73 v74 v75 v76 v77 v78 v79 v80 v81 v82 v83 v84 v85 v86 v87 v88 v89 v90 v91 v92 v93 v94 v95 v96 v97 v98 v99 v100 v101 v102 v103 v104 v105 v106 v107 v108 v109 v110 v111 v112 v113 v114 v115 v116 v117 v118 v119 v120 v121 v122 v123 v124 v125 v126 v127 v128 v129 v130 v131 v132 v133 v134 v135 v136 v137 v138 v139 v140 v141 v142 v143 v144 v145 v146 v147 v148 v149 v150 v151 v152 v153 v154 v155 v156 v157 v158 v159 v160 v161 v162 v163 v164 v165 v166 v167 v168 v169 v170 v171 v172 v173 v174 v175 v176 v177 v178 v179 v180 v181 v182 v183 v184 v185 v186 v187 v188 v189 v190 v191 v192 v193 v194 v195 v196 v197 v198 v199 v200 v201 v202 v203 v204 v205 v206 v207 v208 v209 v210 v211 v212 v213 v214 v215 v216 v217 v218 v219 v220 v221 v222 v223 v224 v225 v226 v227 v228 v229 v230 v231 v232 v233 v234 v235 v236 v237 v238 v239 v240 v241 v242 v243 v244 v245 v246 v247 v248 v249 v250 v251 v252 v253 v254 v255 v256 v257 v258 : Value) (w' : World), YS w w' (w.heap.size + 1 + 1 + 1) (w.heap.size + 1 + 1) l RES p n false ops vals ov vv xs → PcBox w' P c → Code.wp Tryz.prog be29 Qx { tmps := #[.string ⟨l.toArray⟩, .int .i64 (p : Int), u2, u3, .pointer (some ⟨w.heap.size, 0, none⟩), v5, .pointer (some ⟨w.heap.size + 1, 0, none⟩), .pointer (some ⟨w.heap.size + 1 + 1, 0, none⟩), .int .i64 (n : Int), .bool false, .pointer (some ⟨P, 0, none⟩), .int .i64 lv, u12, u13, u14, u15, u16, u17, u18, u19, u20, u21, u22, u23, v24, v25, v26, v27, v28, v29, v30, v31, v32, v33, v34, v35, v36, v37, v38, v39, v40, v41, v42, v43, v44, v45, v46, v47, v48, v49, v50, v51, v52, v53, v54, v55, v56, v57, v58, v59, v60, v61, v62, v63, v64, v65, v66, v67, v68, v69, v70, v71, v72, v73, v74, v75, v76, v77, v78, v79, v80, v81, v82, v83, v84, v85, v86, v87, v88, v89, v90, v91, v92, v93, v94, v95, v96, v97, v98, v99, v100, v101, v102, v103, v104, v105, v106, v107, v108, v109, v110, v111, v112, v113, v114, v115, v116, v117, v118, v119, v120, v121, v122, v123, v124, v125, v126, v127, v128, v129, v130, v131, v132, v133, v134, v135, v136, v137, v138, v139, v140, v141, v142, v143, v144, v145, v146, v147, v148, v149, v150, v151, v152, v153, v154, v155, v156, v157, v158, v159, v160, v161, v162, v163, v164, v165, v166, v167, v168, v169, v170, v171, v172, v173, v174, v175, v176, v177, v178, v179, v180, v181, v182, v183, v184, v185, v186, v187, v188, v189, v190, v191, v192, v193, v194, v195, v196, v197, v198, v199, v200, v201, v202, v203, v204, v205, v206, v207, v208, v209, v210, v211, v212, v213, v214, v215, v216, v217, v218, v219, v220, v221, v222, v223, v224, v225, v226, v227, v228, v229, v230, v231, v232, v233, v234, v235, v236, v237, v238, v239, v240, v241, v242, v243, v244, v245, v246, v247, v248, v249, v250, v251, v252, v253, v254, v255, v256, v257, v258], defers := [] } w'))(hlv : level c.text = lv) (hlit : c.lit = false) (hbad : (c.bad == 0) = true) (u5 u11 u24 u25 u26 u27 u28 u29 u30 u31 u32 u33 u34 u35 u36 u37 u38 u39 u40 u41 u42 u43 u44 u45 u46 u47 u48 u49 u50 u51 u52 u53 u54 u55 u56 u57 u58 u59 u60 u61 u62 u63 u64 u65 u66 u67 u68 u69 u70 u71 u72 u73 u74 u75 u76 u77 u78 u79 u80 u81 u82 u83 u84 u85 u86 u87 u88 u89 u90 u91 u92 u93 u94 u95 u96 u97 u98 u99 u100 u101 u102 u103 u104 u105 u106 u107 u108 u109 u110 u111 u112 u113 u114 u115 u116 u117 u118 u119 u120 u121 u122 u123 u124 u125 u126 u127 u128 u129 u130 u131 u132 u133 u134 u135 u136 u137 u138 u139 u140 u141 u142 u143 u144 u145 u146 u147 u148 u149 u150 u151 u152 u153 u154 u155 u156 u157 u158 u159 u160 u161 u162 u163 u164 u165 u166 u167 u168 u169 u170 u171 u172 u173 u174 u175 u176 u177 u178 u179 u180 u181 u182 u183 u184 u185 u186 u187 u188 u189 u190 u191 u192 u193 u194 u195 u196 u197 u198 u199 u200 u201 u202 u203 u204 u205 u206 u207 u208 u209 u210 u211 u212 u213 u214 u215 u216 u217 u218 u219 u220 u221 u222 u223 u224 u225 u226 u227 u228 u229 u230 u231 u232 u233 u234 u235 u236 u237 u238 u239 u240 u241 u242 u243 u244 u245 u246 u247 u248 u249 u250 u251 u252 u253 u254 u255 u256 u257 u258 : Value) :
  Code.wp Tryz.prog beB Qx { tmps := #[.string ⟨l.toArray⟩, .int .i64 (p : Int), u2, u3, .pointer (some ⟨w.heap.size, 0, none⟩), u5, .pointer (some ⟨w.heap.size + 1, 0, none⟩), .pointer (some ⟨w.heap.size + 1 + 1, 0, none⟩), .int .i64 (n : Int), .bool false, .pointer (some ⟨P, 0, none⟩), u11, u12, u13, u14, u15, u16, u17, u18, u19, u20, u21, u22, u23, u24, u25, u26, u27, u28, u29, u30, u31, u32, u33, u34, u35, u36, u37, u38, u39, u40, u41, u42, u43, u44, u45, u46, u47, u48, u49, u50, u51, u52, u53, u54, u55, u56, u57, u58, u59, u60, u61, u62, u63, u64, u65, u66, u67, u68, u69, u70, u71, u72, u73, u74, u75, u76, u77, u78, u79, u80, u81, u82, u83, u84, u85, u86, u87, u88, u89, u90, u91, u92, u93, u94, u95, u96, u97, u98, u99, u100, u101, u102, u103, u104, u105, u106, u107, u108, u109, u110, u111, u112, u113, u114, u115, u116, u117, u118, u119, u120, u121, u122, u123, u124, u125, u126, u127, u128, u129, u130, u131, u132, u133, u134, u135, u136, u137, u138, u139, u140, u141, u142, u143, u144, u145, u146, u147, u148, u149, u150, u151, u152, u153, u154, u155, u156, u157, u158, u159, u160, u161, u162, u163, u164, u165, u166, u167, u168, u169, u170, u171, u172, u173, u174, u175, u176, u177, u178, u179, u180, u181, u182, u183, u184, u185, u186, u187, u188, u189, u190, u191, u192, u193, u194, u195, u196, u197, u198, u199, u200, u201, u202, u203, u204, u205, u206, u207, u208, u209, u210, u211, u212, u213, u214, u215, u216, u217, u218, u219, u220, u221, u222, u223, u224, u225, u226, u227, u228, u229, u230, u231, u232, u233, u234, u235, u236, u237, u238, u239, u240, u241, u242, u243, u244, u245, u246, u247, u248, u249, u250, u251, u252, u253, u254, u255, u256, u257, u258], defers := [] } wr := by
 have h : beB = Code.seq _ _ := rfl
 rw [h]
 clear h
 dsimp only
 have HSS := Lib.hid hS
 obtain ⟨p0, p1, p2, p3, p4, p5, p6, p7, p8, p9, p10⟩ := id PB
 clear hS
 rw [hlit] at p4
 go_step
 rename_i K1 h1
 have H1 := Lib.hid h1
 clear h1
 go_wp2_with fail
 refine H1.out _ _ ?_
 clear H1
 go_step
 rename_i K2 h2
 have H2 := Lib.hid h2
 clear h2
 go_step
 rename_i K3 h3
 have H3 := Lib.hid h3
 clear h3
 go_wp2_with fail
 refine H3.out _ _ ?_
 clear H3
 go_step
 go_wp2_with fail
 refine (refLevel_any c.text wr).mono ?_
 rw [hlv]
 rintro e wq ⟨rfl, hbq⟩
 have HSQ := HSS.out.below hbq
 have PBQ := PB.keep hbq
 clear p0 p1 p2 p3 p4 p5 p6 p7 p8 p9 p10 HSS PB hbq
 dsimp only
 go_wp2_with fail
 refine H2.out _ _ ?_
 exact hnext.out _ _ _ _ _ _ _ _ _ _ _ _ _ _ _ _ _ _ _ _ _ _ _ _ _ _ _ _ _ _ _ _ _ _ _ _ _ _ _ _ _ _ _ _ _ _ _ _ _ _ _ _ _ _ _ _ _ _ _ _ _ _ _ _ _ _ _ _ _ _ _ _ _ _ _ _ _ _ _ _ _ _ _ _ _ _ _ _ _ _ _ _ _ _ _ _ _ _ _ _ _ _ _ _ _ _ _ _ _ _ _ _ _ _ _ _ _ _ _ _ _ _ _ _ _ _ _ _ _ _ _ _ _ _ _ _ _ _ _ _ _ _ _ _ _ _ _ _ _ _ _ _ _ _ _ _ _ _ _ _ _ _ _ _ _ _ _ _ _ _ _ _ _ _ _ _ _ _ _ _ _ _ _ _ _ _ _ _ _ _ _ _ _ _ _ _ _ _ _ _ _ _ _ _ _ _ _ _ _ _ _ _ _ _ _ _ _ _ _ _ _ _ _ _ _ _ _ _ _ _ _ _ _ _ _ _ wq HSQ PBQ
set_option maxHeartbeats 8000000 in
theorem be_end (l : Str) (w wr : World) (RES : Yd.Res Ex) (p n : Nat) (ops : List Yd.Op) (vals : List Ex) (ov vv : Value) (xs : List Value) (P : Nat) (c : Pc) (h2000 : l.length ≤ 2000) (Qx : Exit → Act → World → Prop) (hPan : ∀ (e : List PanicEntry) (d : Option Nat) (v : Value) (a : Act) (w : World), Qx (.panic e) (a.put d v) w → Qx (.panic e) a w) (TT : Ex) (EE : Nat) (CC : Int) (AA : Nat) (u2 u3 u12 u13 u14 u15 u16 u17 u18 u19 u20 u21 u22 u23 : Value) (hS : YS w wr (w.heap.size + 1 + 1 + 1) (w.heap.size + 1 + 1) l RES p n false ops vals ov vv xs) (PB : PcBox wr P c) (hP : (w.heap.size + 1 + 1 + 1) ≤ P) (hPo : some P ≠ ov.ownBlock) (hPv : some P ≠ vv.ownBlock)  (hR : Hid (∀ (v1 v8 v9 v10 v11 v24 v25 v26 v27 v28 v29 v30 v31 v32 v33 v34 v35 v36 v37 v38 v39 v40 v41 v42 v43 v44 v45 v46 v47 v48 v49 v50 v51 v52 v53 v54 v55 v56 v57 v58 v59 v60 v61 v62 v63 v64 v65 v66 v67 v68 v69 v70 v71 v72 v73 v74 v75 v76 v77 v78 v79 v80 v81 v82 v83 v84 v85 v86 v87 v88 v89 v90 v91 v92 v93 v94 v95 v96 v97 v98 v99 v100 v101 v102 v103 v104 v105 v106 v107 v108 v109 v110 v111 v112 v113 v114 v115 v116 v117 v118 v119 v120 v121 v122 v123 v124 v125 v126 v127 v128 v129 v130 v131 v132 v133 v134 v135 v136 v137 v138 v139 v140 v141 v142 v143 v144 v145 v146 v147 v148 v149 v150 v151 v152 v153 v154 v155 v156 v157 v158 v159 v160 v161 v162 v163 v164 v165 v166 v167 v168 v169 v170 v171 v172 v173 v174 v175 v176 v177 v178 v179 v180 v181 v182 v183 v184 v185 v186 v187 v188 v189 v190 v191 v192 v193 v194 v195 v196 v197 v198 v199 v200 v201 v202 v203 v204 v205 v206 v207 v208 v209 v210 v211 v212 v213 v214 v215 v216 v217 v218 v219 v220 v221 v222 v223 v224 v225 v226 v227 v228 v229 v230 v231 v232 v233 v234 v235 v236 v237 v238 v239 v240 v241 v242 v243 v244 v245 v246 v247 v248 v249 v250 v251 v252 v253 v254 v255 v256 v257 v258 : Value) (w' : World) (kv : Value), ExBox w' w.heap.size TT kv → Exs (fun k => w.heap.size ≤ k) w' kv TT.kids → w'.cell? ⟨w.heap.size + 1, 0, none⟩ = some (.int .i64 CC) → w'.cell? ⟨w.heap.size + 1, 1, none⟩ = some (.int .i64 (AA : Int)) → Below w.heap.size w w' → Qx .ret { tmps := #[.string ⟨l.toArray⟩, v1, u2, u3, .pointer (some ⟨w.heap.size, 0, none⟩), .int .i64 (EE : Int), .pointer (some ⟨w.heap.size + 1, 0, none⟩), .pointer (some ⟨w.heap.size + 1 + 1, 0, none⟩), v8, v9, v10, v11, u12, u13, u14, u15, u16, u17, u18, u19, u20, u21, u22, u23, v24, v25, v26, v27, v28, v29, v30, v31, v32, v33, v34, v35, v36, v37, v38, v39, v40, v41, v42, v43, v44, v45, v46, v47, v48, v49, v50, v51, v52, v53, v54, v55, v56, v57, v58, v59, v60, v61, v62, v63, v64, v65, v66, v67, v68, v69, v70, v71, v72, v73, v74, v75, v76, v77, v78, v79, v80, v81, v82, v83, v84, v85, v86, v87, v88, v89, v90, v91, v92, v93, v94, v95, v96, v97, v98, v99, v100, v101, v102, v103, v104, v105, v106, v107, v108, v109, v110, v111, v112, v113, v114, v115, v116, v117, v118, v119, v120, v121, v122, v123, v124, v125, v126, v127, v128, v129, v130, v131, v132, v133, v134, v135, v136, v137, v138, v139, v140, v141, v142, v143, v144, v145, v146, v147, v148, v149, v150, v151, v152, v153, v154, v155, v156, v157, v158, v159, v160, v161, v162, v163, v164, v165, v166, v167, v168, v169, v170, v171, v172, v173, v174, v175, v176, v177, v178, v179, v180, v181, v182, v183, v184, v185, v186, v187, v188, v189, v190, v191, v192, v193, v194, v195, v196, v197, v198, v199, v200, v201, v202, v203, v204, v205, v206, v207, v208, v209, v210, v211, v212, v213, v214, v215, v216, v217, v218, v219, v220, v221, v222, v223, v224, v225, v226, v227, v228, v229, v230, v231, v232, v233, v234, v235, v236, v237, v238, v239, v240, v241, v242, v243, v244, v245, v246, v247, v248, v249, v250, v251, v252, v253, v254, v255, v256, v257, v258], defers := [] } w')) (hn : n = 0) (x : Ex) (hx : Hid ((Yd.redA unX biX ops vals).head? = some x)) (hfit : ExFit 1048576 x) (hT : Tabs w) (hT0 : exErr x = 0 → TT = x ∧ EE = c.at_ ∧ CC = 0 ∧ AA = 0) (hT1 : exErr x ≠ 0 → TT = zeroEx ∧ EE = 0 ∧ CC = 2 ∧ AA = 0) (u5 u11 u24 u25 u26 u27 u28 u29 u30 u31 u32 u33 u34 u35 u36 u37 u38 u39 u40 u41 u42 u43 u44 u45 u46 u47 u48 u49 u50 u51 u52 u53 u54 u55 u56 u57 u58 u59 u60 u61 u62 u63 u64 u65 u66 u67 u68 u69 u70 u71 u72 u73 u74 u75 u76 u77 u78 u79 u80 u81 u82 u83 u84 u85 u86 u87 u88 u89 u90 u91 u92 u93 u94 u95 u96 u97 u98 u99 u100 u101 u102 u103 u104 u105 u106 u107 u108 u109 u110 u111 u112 u113 u114 u115 u116 u117 u118 u119 u120 u121 u122 u123 u124 u125 u126 u127 u128 u129 u130 u131 u132 u133 u134 u135 u136 u137 u138 u139 u140 u141 u142 u143 u144 u145 u146 u147 u148 u149 u150 u151 u152 u153 u154 u155 u156 u157 u158 u159 u160 u161 u162 u163 u164 u165 u166 u167 u168 u169 u170 u171 u172 u173 u174 u175 u176 u177 u178 u179 u180 u181 u182 u183 u184 u185 u186 u187 u188 u189 u190 u191 u192 u193 u194 u195 u196 u197 u198 u199 u200 u201 u202 u203 u204 u205 u206 u207 u208 u209 u210 u211 u212 u213 u214 u215 u216 u217 u218 u219 u220 u221 u222 u223 u224 u225 u226 u227 u228 u229 u230 u231 u232 u233 u234 u235 u236 u237 u238 u239 u240 u241 u242 u243 u244 u245 u246 u247 u248 u249 u250 u251 u252 u253 u254 u255 u256 u257 u258 : Value) :
  Code.wp Tryz.prog beE Qx { tmps := #[.string ⟨l.toArray⟩, .int .i64 (p : Int), u2, u3, .pointer (some ⟨w.heap.size, 0, none⟩), u5, .pointer (some ⟨w.heap.size + 1, 0, none⟩), .pointer (some ⟨w.heap.size + 1 + 1, 0, none⟩), .int .i64 (n : Int), .bool false, .pointer (some ⟨P, 0, none⟩), u11, u12, u13, u14, u15, u16, u17, u18, u19, u20, u21, u22, u23, u24, u25, u26, u27, u28, u29, u30, u31, u32, u33, u34, u35, u36, u37, u38, u39, u40, u41, u42, u43, u44, u45, u46, u47, u48, u49, u50, u51, u52, u53, u54, u55, u56, u57, u58, u59, u60, u61, u62, u63, u64, u65, u66, u67, u68, u69, u70, u71, u72, u73, u74, u75, u76, u77, u78, u79, u80, u81, u82, u83, u84, u85, u86, u87, u88, u89, u90, u91, u92, u93, u94, u95, u96, u97, u98, u99, u100, u101, u102, u103, u104, u105, u106, u107, u108, u109, u110, u111, u112, u113, u114, u115, u116, u117, u118, u119, u120, u121, u122, u123, u124, u125, u126, u127, u128, u129, u130, u131, u132, u133, u134, u135, u136, u137, u138, u139, u140, u141, u142, u143, u144, u145, u146, u147, u148, u149, u150, u151, u152, u153, u154, u155, u156, u157, u158, u159, u160, u161, u162, u163, u164, u165, u166, u167, u168, u169, u170, u171, u172, u173, u174, u175, u176, u177, u178, u179, u180, u181, u182, u183, u184, u185, u186, u187, u188, u189, u190, u191, u192, u193, u194, u195, u196, u197, u198, u199, u200, u201, u202, u203, u204, u205, u206, u207, u208, u209, u210, u211, u212, u213, u214, u215, u216, u217, u218, u219, u220, u221, u222, u223, u224, u225, u226, u227, u228, u229, u230, u231, u232, u233, u234, u235, u236, u237, u238, u239, u240, u241, u242, u243, u244, u245, u246, u247, u248, u249, u250, u251, u252, u253, u254, u255, u256, u257, u258], defers := [] } wr := by
 have h : beE = Code.seq _ _ := rfl
 rw [h]
 clear h
 dsimp only
 have HSS := Lib.hid hS
 obtain ⟨p0, p1, p2, p3, p4, p5, p6, p7, p8, p9, p10⟩ := id PB
 clear hS
 subst hn
 have hW0 : YW w wr 0 P c ops vals ov vv xs := ⟨HSS.out.bi, HSS.out.br, HSS.out.ok, by have := HSS.out.sz; have := HSS.out.pl; omega, HSS.out.yd, HSS.out.xb, HSS.out.f0, HSS.out.f1, HSS.out.fz, HSS.out.bl, PB, hP, hPo, hPv⟩
 clear p0 p1 p2 p3 p4 p5 p6 p7 p8 p9 p10 PB HSS hPo hPv
 have HT0 := Lib.hid hT0
 have HT1 := Lib.hid hT1
 clear hT0 hT1
 go_step
 rename_i K1 h1
 have H1 := Lib.hid h1
 clear h1
 go_step
 go_loopg [] ops.length (fun gk wz => ∃ (ops' : List Yd.Op) (vals' : List Ex) (ov' vv' : Value) (xs' : List Value), ops'.length ≤ gk ∧ Hid (Yd.redA unX biX ops' vals' = Yd.redA unX biX ops vals) ∧ YW w wz 0 P c ops' vals' ov' vv' xs')
 case atStart => exact ⟨ops, vals, ov, vv, xs, Nat.le_refl _, Lib.hid rfl, hW0⟩
 case round =>
  clear hW0
  obtain ⟨ops', vals', ov', vv', xs', hgk, HR0, hW⟩ := hrel
  have HW := Lib.hid hW
  have c0 := hW.yd.c0
  have hov : ∃ A C, ov' = .slice A ops'.length C := by
   obtain ⟨A, C, e⟩ := own_form hW.yd.own
   rw [List.length_reverse, List.length_map] at e
   exact ⟨A, C, e⟩
  clear hW
  obtain ⟨A, C, rfl⟩ := hov
  cases ops' with
  | cons o r =>
   have hne : o ≠ .br := by
    intro e
    have := HW.out.br
    rw [e] at this
    simp only [Yd.nBr] at this
    omega
   have hlen : (0 : Int) < (((o :: r).length : Nat) : Int) := by simp only [List.length_cons]; omega
   obtain ⟨m, hm⟩ : ∃ m, (o :: r).length = m := ⟨_, rfl⟩
   rw [hm] at c0 hlen hgk
   have Hm := Lib.hid hm
   clear hm
   go_wp2_with fail
   refine (HW.out.reduce hne).mono ?_
   rintro e w5 ⟨rfl, ov5, vv5, xs5, hW5⟩
   go_wp2_with fail
   have hm := Hm.out
   simp only [List.length_cons] at hm
   go_roundg r.length
   case measure => omega
   case rel => exact ⟨r, _, _, _, _, Nat.le_refl _, Lib.hid HR0.out, hW5⟩
  | nil =>
   have hlen : ¬ (0 : Int) < 0 := by omega
   simp only [List.length_nil] at c0
   go_wp2_with fail
   have hv1 : vals' = [x] := by
    have h1 : vals' = Yd.redA unX biX ops vals := HR0.out
    have h2 := HW.out.bi
    simp only [Yd.nBi] at h2
    have h3 := hx.out
    rw [← h1] at h3
    cases vals' with
    | nil => simp at h3
    | cons y r =>
     simp only [List.length_cons] at h2
     have : r = [] := List.eq_nil_of_length_eq_zero (by omega)
     subst this
     simp only [List.head?_cons, Option.some.injEq] at h3
     rw [h3]
   subst hv1
   have hyd := HW.out.yd
   have hvo := hyd.vown
   have hce := hyd.cells
   rw [List.reverse_singleton] at hvo hce
   obtain ⟨gv, Cv, rfl, hCv⟩ := own_some hvo (by simp)
   have c1 := hyd.c1
   cases hce with
   | cons _ kv xr _ hk hr =>
    cases hr
    have y0 := own_at hvo (j := 0) rfl
    have y1 := own_at hvo (j := 1) rfl
    have y2 := own_at hvo (j := 2) rfl
    have y3 := own_at hvo (j := 3) rfl
    have y4 := own_at hvo (j := 4) rfl
    have y5 := own_at hvo (j := 5) rfl
    have HK := Lib.hid hk
    obtain ⟨A2, C2, rfl, -, -, -⟩ := hk
    have hgv := (hvo.lt gv rfl)
    have HW1 := Lib.hid HW.out
    clear hyd hvo HW hCv
    refine H1.out _ _ ?_
    clear H1
    go_step
    rename_i K2 h2
    have H2 := Lib.hid h2
    clear h2
    go_step
    rename_i K3 h3
    have H3 := Lib.hid h3
    clear h3
    go_wp2_with fail
    refine (refExpr_any x _ wr ⟨_, rfl, HK.out.all⟩ hfit (hT.below HW1.out.bl)).mono ?_
    obtain ⟨E, hE⟩ : ∃ y, exErr x = y := ⟨_, rfl⟩
    rw [hE]
    have HE := Lib.hid hE
    clear hE
    rintro e wq ⟨rfl, hbq⟩
    replace y0 := cell_keep y0 hbq
    replace y1 := cell_keep y1 hbq
    replace y2 := cell_keep y2 hbq
    replace y3 := cell_keep y3 hbq
    replace y4 := cell_keep y4 hbq
    replace y5 := cell_keep y5 hbq
    replace c1 := cell_keep c1 hbq
    have XBq := HW1.out.xb.keep hbq HW1.out.xb.lt
    have f0 := cell_keep HW1.out.f0 hbq
    have f1 := cell_keep HW1.out.f1 hbq
    have fz : ∀ j, wq.frozen? ⟨w.heap.size + 1, j, none⟩ = false := fun j => (hbq.frozen (p := ⟨w.heap.size + 1, j, none⟩) (cell_lt HW1.out.f0)).trans (HW1.out.fz j)
    have hbl := chain HW1.out.bl hbq
    have PBq := HW1.out.pb.keep hbq
    have HKq := Lib.hid (HK.out.keep (D' := fun k => w.heap.size + 1 < k) (Same.below hbq) (fun k hk _ => by have := hk.1; omega))
    clear HW1 HK hbq c0
    obtain ⟨x0, x1, x2, x3, x4, x5, x6, x7⟩ := id XBq
    obtain ⟨p0, p1, p2, p3, p4, p5, p6, p7, p8, p9, p10⟩ := id PBq
    have hd1 : ¬ w.heap.size = w.heap.size + 1 := by omega
    have hd2 : ¬ w.heap.size + 1 = w.heap.size := by omega
    have hd3 : ¬ w.heap.size = P := by omega
    have hd4 : ¬ w.heap.size + 1 = P := by omega
    by_cases hE0 : E = 0
    ·subst hE0
     dsimp only
     go_wp2_with fail
     refine H3.out _ _ ?_
     clear H3
     go_step
     go_step
     refine H2.out _ _ ?_
     clear H2
     go_step
     rename_i K4 h4
     have H4 := Lib.hid h4
     clear h4
     go_region
     obtain ⟨TB9, g0, g1, -, hbl9, hsm⟩ := elaid2_facts (w.heap.size) (w.heap.size + 1) wq XBq f0 f1 fz hd1 hd2 x (.slice A2 x.kids.length C2) 0 0
     have hbN := (hbl9 _ _ hbl (Nat.le_refl _) (by omega)).drew
     have K5 := HKq.out.keep (D' := fun k => w.heap.size ≤ k) (fun k hk hl => hsm k (by have : w.heap.size + 1 < k := hk; omega) hl) (fun k hk _ => by have : w.heap.size + 1 < k := hk; omega)
     clear hbl9 hsm x0 x1 x2 x3 x4 x5 x6 x7 p0 p1 p2 p3 p4 p5 p6 p7 p8 p9 p10 f0 f1 fz y0 y1 y2 y3 y4 y5
     generalize ((((((((wq.setCell ⟨w.heap.size, 0, none⟩ (.int .i64 x.kind)).setCell ⟨w.heap.size, 1, none⟩ (.string ⟨x.name.toArray⟩)).setCell ⟨w.heap.size, 2, none⟩ (.int .i64 x.vs)).setCell ⟨w.heap.size, 3, none⟩ (.int .i64 x.vn)).setCell ⟨w.heap.size, 4, none⟩ (.string ⟨x.vt.toArray⟩)).setCell ⟨w.heap.size, 5, none⟩ (.slice A2 x.kids.length C2)).setCell ⟨w.heap.size + 1, 0, none⟩ (.int .i64 0)).setCell ⟨w.heap.size + 1, 1, none⟩ (.int .i64 0)) = w9 at TB9 g0 g1 hbN K5 ⊢
     have TB10 : ExBox w9.drew w.heap.size x (.slice A2 x.kids.length C2) := ⟨TB9.c0, TB9.c1, TB9.c2, TB9.c3, TB9.c4, TB9.c5, TB9.fr, TB9.lt⟩
     have g0' : w9.drew.cell? ⟨w.heap.size + 1, 0, none⟩ = some (.int .i64 0) := g0
     have g1' : w9.drew.cell? ⟨w.heap.size + 1, 1, none⟩ = some (.int .i64 ((0 : Nat) : Int)) := g1
     have K6 := K5.keep (D' := fun k => w.heap.size ≤ k) (w' := w9.drew) (fun _ _ _ => rfl) (fun _ h _ => h)
     generalize w9.drew = wF at TB10 g0' g1' hbN K6 ⊢
     (try simp only [Exit.inBlock, Exit.then])
     refine H4.out _ _ ?_
     clear H4
     go_step
     (try simp only [Exit.inBlock, Exit.then])
     obtain ⟨rfl, rfl, rfl, rfl⟩ := HT0.out HE.out
     exact hR.out _ _ _ _ _ _ _ _ _ _ _ _ _ _ _ _ _ _ _ _ _ _ _ _ _ _ _ _ _ _ _ _ _ _ _ _ _ _ _ _ _ _ _ _ _ _ _ _ _ _ _ _ _ _ _ _ _ _ _ _ _ _ _ _ _ _ _ _ _ _ _ _ _ _ _ _ _ _ _ _ _ _ _ _ _ _ _ _ _ _ _ _ _ _ _ _ _ _ _ _ _ _ _ _ _ _ _ _ _ _ _ _ _ _ _ _ _ _ _ _ _ _ _ _ _ _ _ _ _ _ _ _ _ _ _ _ _ _ _ _ _ _ _ _ _ _ _ _ _ _ _ _ _ _ _ _ _ _ _ _ _ _ _ _ _ _ _ _ _ _ _ _ _ _ _ _ _ _ _ _ _ _ _ _ _ _ _ _ _ _ _ _ _ _ _ _ _ _ _ _ _ _ _ _ _ _ _ _ _ _ _ _ _ _ _ _ _ _ _ _ _ _ _ _ _ _ _ _ _ _ _ _ _ _ _ _ _ _ _ _ wF _ TB10 K6 g0' g1' hbN
    ·have hbe : (E != 0) = true := by rw [bne_iff_ne]; exact hE0
     dsimp only
     go_wp2_with fail
     refine H3.out _ _ ?_
     clear H3
     go_step
     go_step
     rename_i K4 h4
     have H4 := Lib.hid h4
     clear h4
     go_wp2_with fail
     obtain ⟨TB9, g0, g1, -, hbl9, -⟩ := elaid2_facts (w.heap.size) (w.heap.size + 1) wq XBq f0 f1 fz hd1 hd2 zeroEx (.slice none 0 0) 2 0
     have hbN := hbl9 _ _ hbl (Nat.le_refl _) (by omega)
     simp only [zeroEx, Ex.kind, Ex.name, Ex.vs, Ex.vn, Ex.vt] at TB9 g0 g1 hbN
     clear hbl9 x0 x1 x2 x3 x4 x5 x6 x7 p0 p1 p2 p3 p4 p5 p6 p7 p8 p9 p10 f0 f1 fz y0 y1 y2 y3 y4 y5
     generalize ((((((((wq.setCell ⟨w.heap.size, 0, none⟩ (.int .i64 0)).setCell ⟨w.heap.size, 1, none⟩ (.string ⟨([] : Str).toArray⟩)).setCell ⟨w.heap.size, 2, none⟩ (.int .i64 0)).setCell ⟨w.heap.size, 3, none⟩ (.int .i64 0)).setCell ⟨w.heap.size, 4, none⟩ (.string ⟨([] : Str).toArray⟩)).setCell ⟨w.heap.size, 5, none⟩ (.slice none 0 0)).setCell ⟨w.heap.size + 1, 0, none⟩ (.int .i64 2)).setCell ⟨w.heap.size + 1, 1, none⟩ (.int .i64 0)) = w9 at TB9 g0 g1 hbN ⊢
     refine H4.out _ _ ?_
     clear H4
     go_step
     (try simp only [Exit.inBlock, Exit.then])
     obtain ⟨rfl, rfl, rfl, rfl⟩ := HT1.out (by rw [HE.out]; exact hE0)
     exact hR.out _ _ _ _ _ _ _ _ _ _ _ _ _ _ _ _ _ _ _ _ _ _ _ _ _ _ _ _ _ _ _ _ _ _ _ _ _ _ _ _ _ _ _ _ _ _ _ _ _ _ _ _ _ _ _ _ _ _ _ _ _ _ _ _ _ _ _ _ _ _ _ _ _ _ _ _ _ _ _ _ _ _ _ _ _ _ _ _ _ _ _ _ _ _ _ _ _ _ _ _ _ _ _ _ _ _ _ _ _ _ _ _ _ _ _ _ _ _ _ _ _ _ _ _ _ _ _ _ _ _ _ _ _ _ _ _ _ _ _ _ _ _ _ _ _ _ _ _ _ _ _ _ _ _ _ _ _ _ _ _ _ _ _ _ _ _ _ _ _ _ _ _ _ _ _ _ _ _ _ _ _ _ _ _ _ _ _ _ _ _ _ _ _ _ _ _ _ _ _ _ _ _ _ _ _ _ _ _ _ _ _ _ _ _ _ _ _ _ _ _ _ _ _ _ _ _ _ _ _ _ _ _ _ _ _ _ _ _ _ _ w9 _ TB9 (no_exs _ _) g0 g1 hbN
end Go.Proofs.YtpidjanngbaiiaaGreatDoor
