/-
  BeginExpr: its rounds where an operand may stand.
-/
import Derived.Test.YtpidjanngbaiiaaGreatDoorM18
namespace Go.Proofs.YtpidjanngbaiiaaGreatDoor
open Go.RowKit Go.Proofs

set_option maxRecDepth 100000
set_option maxHeartbeats 8000000 in
theorem be_preN (l : Str) (w wr : World) (RES : Yd.Res Ex) (p n : Nat) (ops : List Yd.Op) (vals : List Ex) (ov vv : Value) (xs : List Value) (P : Nat) (c : Pc) (h2000 : l.length ≤ 2000) (Qx : Exit → Act → World → Prop) (hPan : ∀ (e : List PanicEntry) (d : Option Nat) (v : Value) (a : Act) (w : World), Qx (.panic e) (a.put d v) w → Qx (.panic e) a w) (TT : Ex) (EE : Nat) (CC : Int) (AA : Nat) (u2 u3 u12 u13 u14 u15 u16 u17 u18 u19 u20 u21 u22 u23 : Value) (hS : YS w wr (w.heap.size + 1 + 1 + 1) (w.heap.size + 1 + 1) l RES p n true ops vals ov vv xs) (PB : PcBox wr P c) (hP : (w.heap.size + 1 + 1 + 1) ≤ P) (hPo : some P ≠ ov.ownBlock) (hPv : some P ≠ vv.ownBlock) (hN : Hid (∀ (v5 v10 v11 v24 v25 v26 v27 v28 v29 v30 v31 v32 v33 v34 v35 v36 v37 v38 v39 v40 v41 v42 v43 v44 v45 v46 v47 v48 v49 v50 v51 v52 v53 v54 v55 v56 v57 v58 v59 v60 v61 v62 v63 v64 v65 v66 v67 v68 v69 v70 v71 v72 v73 v74 v75 v76 v77 v78 v79 v80 v81 v82 v83 v84 v85 v86 v87 v88 v89 v90 v91 v92 v93 v94 v95 v96 v97 v98 v99 v100 v101 v102 v103 v104 v105 v106 v107 v108 v109 v110 v111 v112 v113 v114 v115 v116 v117 v118 v119 v120 v121 v122 v123 v124 v125 v126 v127 v128 v129 v130 v131 v132 v133 v134 v135 v136 v137 v138 v139 v140 v141 v142 v143 v144 v145 v146 v147 v148 v149 v150 v151 v152 v153 v154 v155 v156 v157 v158 v159 v160 v161 v162 v163 v164 v165 v166 v167 v168 v169 v170 v171 v172 v173 v174 v175 v176 v177 v178 v179 v180 v181 v182 v183 v184 v185 v186 v187 v188 v189 v190 v191 v192 v193 v194 v195 v196 v197 v198 v199 v200 v201 v202 v203 v204 v205 v206 v207 v208 v209 v210 v211 v212 v213 v214 v215 v216 v217 v218 v219 v220 v221 v222 v223 v224 v225 v226 v227 v228 v229 v230 v231 v232 v233 v234 v235 v236 v237 v238 v239 v240 v241 v242 v243 v244 v245 v246 v247 v248 v249 v250 v251 v252 v253 v254 v255 v256 v257 v258 : Value) (w' : World) (p' n' : Nat) (o' : Bool) (ops' : List Yd.Op) (vals' : List Ex) (ov' vv' : Value) (xs' : List Value), p < p' → YS w w' (w.heap.size + 1 + 1 + 1) (w.heap.size + 1 + 1) l RES p' n' o' ops' vals' ov' vv' xs' → Qx (.exit 1) { tmps := #[.string ⟨l.toArray⟩, .int .i64 (p' : Int), u2, u3, .pointer (some ⟨w.heap.size, 0, none⟩), v5, .pointer (some ⟨w.heap.size + 1, 0, none⟩), .pointer (some ⟨w.heap.size + 1 + 1, 0, none⟩), .int .i64 (n' : Int), .bool o', v10, v11, u12, u13, u14, u15, u16, u17, u18, u19, u20, u21, u22, u23, v24, v25, v26, v27, v28, v29, v30, v31, v32, v33, v34, v35, v36, v37, v38, v39, v40, v41, v42, v43, v44, v45, v46, v47, v48, v49, v50, v51, v52, v53, v54, v55, v56, v57, v58, v59, v60, v61, v62, v63, v64, v65, v66, v67, v68, v69, v70, v71, v72, v73, v74, v75, v76, v77, v78, v79, v80, v81, v82, v83, v84, v85, v86, v87, v88, v89, v90, v91, v92, v93, v94, v95, v96, v97, v98, v99, v100, v101, v102, v103, v104, v105, v106, v107, v108, v109, v110, v111, v112, v113, v114, v115, v116, v117, v118, v119, v120, v121, v122, v123, v124, v125, v126, v127, v128, v129, v130, v131, v132, v133, v134, v135, v136, v137, v138, v139, v140, v141, v142, v143, v144, v145, v146, v147, v148, v149, v150, v151, v152, v153, v154, v155, v156, v157, v158, v159, v160, v161, v162, v163, v164, v165, v166, v167, v168, v169, v170, v171, v172, v173, v174, v175, v176, v177, v178, v179, v180, v181, v182, v183, v184, v185, v186, v187, v188, v189, v190, v191, v192, v193, v194, v195, v196, v197, v198, v199, v200, v201, v202, v203, v204, v205, v206, v207, v208, v209, v210, v211, v212, v213, v214, v215, v216, v217, v218, v219, v220, v221, v222, v223, v224, v225, v226, v227, v228, v229, v230, v231, v232, v233, v234, v235, v236, v237, v238, v239, v240, v241, v242, v243, v244, v245, v246, v247, v248, v249, v250, v251, v252, v253, v254, v255, v256, v257, v258], defers := [] } w'))  (u : Str) (hu : c.text = u) (hbad : (c.bad != 0) = false) (hlit : c.lit = false) (ht : (u == [110, 111, 116]) = true) (hto : c.to_ ≤ l.length) (hpt : p < c.to_) (hleaf : opdP l p = .pre u c.to_) (u5 u11 u24 u25 u26 u27 u29 u30 u31 u32 u33 u34 u35 u36 u37 u38 u39 u40 u41 u42 u43 u44 u45 u46 u47 u48 u49 u50 u51 u52 u53 u54 u55 u56 u57 u58 u59 u60 u61 u62 u63 u64 u65 u66 u67 u68 u69 u70 u71 u72 u73 u74 u75 u76 u77 u78 u79 u80 u81 u82 u83 u84 u85 u86 u87 u88 u89 u90 u91 u92 u93 u94 u95 u96 u97 u98 u99 u100 u101 u102 u103 u104 u105 u106 u107 u108 u109 u110 u111 u112 u113 u114 u115 u116 u117 u118 u119 u120 u121 u122 u123 u124 u125 u126 u127 u128 u129 u130 u131 u132 u133 u134 u135 u136 u137 u138 u139 u140 u141 u142 u143 u144 u145 u146 u147 u148 u149 u150 u151 u152 u153 u154 u155 u156 u157 u158 u159 u160 u161 u162 u163 u164 u165 u166 u167 u168 u169 u170 u171 u172 u173 u174 u175 u176 u177 u178 u179 u180 u181 u182 u183 u184 u185 u186 u187 u188 u189 u190 u191 u192 u193 u194 u195 u196 u197 u198 u199 u200 u201 u202 u203 u204 u205 u206 u207 u208 u209 u210 u211 u212 u213 u214 u215 u216 u217 u218 u219 u220 u221 u222 u223 u224 u225 u226 u227 u228 u229 u230 u231 u232 u233 u234 u235 u236 u237 u238 u239 u240 u241 u242 u243 u244 u245 u246 u247 u248 u249 u250 u251 u252 u253 u254 u255 u256 u257 u258 : Value) :
  Code.wp Tryz.prog beA Qx { tmps := #[.string ⟨l.toArray⟩, .int .i64 (p : Int), u2, u3, .pointer (some ⟨w.heap.size, 0, none⟩), u5, .pointer (some ⟨w.heap.size + 1, 0, none⟩), .pointer (some ⟨w.heap.size + 1 + 1, 0, none⟩), .int .i64 (n : Int), .bool true, .pointer (some ⟨P, 0, none⟩), u11, u12, u13, u14, u15, u16, u17, u18, u19, u20, u21, u22, u23, u24, u25, u26, u27, .bool true, u29, u30, u31, u32, u33, u34, u35, u36, u37, u38, u39, u40, u41, u42, u43, u44, u45, u46, u47, u48, u49, u50, u51, u52, u53, u54, u55, u56, u57, u58, u59, u60, u61, u62, u63, u64, u65, u66, u67, u68, u69, u70, u71, u72, u73, u74, u75, u76, u77, u78, u79, u80, u81, u82, u83, u84, u85, u86, u87, u88, u89, u90, u91, u92, u93, u94, u95, u96, u97, u98, u99, u100, u101, u102, u103, u104, u105, u106, u107, u108, u109, u110, u111, u112, u113, u114, u115, u116, u117, u118, u119, u120, u121, u122, u123, u124, u125, u126, u127, u128, u129, u130, u131, u132, u133, u134, u135, u136, u137, u138, u139, u140, u141, u142, u143, u144, u145, u146, u147, u148, u149, u150, u151, u152, u153, u154, u155, u156, u157, u158, u159, u160, u161, u162, u163, u164, u165, u166, u167, u168, u169, u170, u171, u172, u173, u174, u175, u176, u177, u178, u179, u180, u181, u182, u183, u184, u185, u186, u187, u188, u189, u190, u191, u192, u193, u194, u195, u196, u197, u198, u199, u200, u201, u202, u203, u204, u205, u206, u207, u208, u209, u210, u211, u212, u213, u214, u215, u216, u217, u218, u219, u220, u221, u222, u223, u224, u225, u226, u227, u228, u229, u230, u231, u232, u233, u234, u235, u236, u237, u238, u239, u240, u241, u242, u243, u244, u245, u246, u247, u248, u249, u250, u251, u252, u253, u254, u255, u256, u257, u258], defers := [] } wr := by
 have h : beA = Code.seq _ _ := rfl
 rw [h]
 clear h
 dsimp only
 have HSS := Lib.hid hS
 obtain ⟨p0, p1, p2, p3, p4, p5, p6, p7, p8, p9, p10⟩ := id PB
 clear hS
 subst hu
 rw [hlit] at p4
 go_step
 rename_i K1 h1
 have H1 := Lib.hid h1
 clear h1
 go_step
 go_step
 rename_i K2 h2
 have H2 := Lib.hid h2
 clear h2
 go_wp2_with fail
 refine H2.out _ _ ?_
 clear H2
 go_step
 go_step
 rename_i K3 h3
 have H3 := Lib.hid h3
 clear h3
 go_wp2_with fail
 refine H3.out _ _ ?_
 clear H3
 go_step
 go_step
 rename_i K5 h5
 have H5 := Lib.hid h5
 clear h5
 go_wp2_with fail
 refine H5.out _ _ ?_
 clear H5
 go_step
 have hov : ∃ A N C, ov = .slice A N C := ⟨_, _, _, (own_form HSS.out.yd.own).choose_spec.choose_spec⟩
 obtain ⟨A, N0, C0, rfl⟩ := hov
 have hYc := HSS.out.yd.c0
 have HSd : Hid (wr.drew.cell? ⟨w.heap.size + 1 + 1, 0, none⟩ = some (.slice A N0 C0) ∧ PcBox wr.drew P c) := Lib.hid ⟨hYc, PB.c0, PB.c1, PB.c2, PB.c3, PB.c4, PB.c5, PB.c6, PB.c7, PB.c8, PB.fr, PB.lt⟩
 refine wp_region_T 11 (fun w' => w'.cell? ⟨w.heap.size + 1 + 1, 0, none⟩ = some (.slice A N0 C0) ∧ PcBox w' P c) (by kernel_rfl) ?_
 refine wpT_takeT (i := 0) (v := ?_) rfl (by kernel_rfl) (by kernel_rfl) (by kernel_rfl) (by kernel_rfl) (by kernel_rfl) (fun _ _ _ h => hPan _ _ _ _ _ h) (Or.inl ⟨by rfl, ?_⟩) HSd.out ?_
 rotate_left
 ·(intro wq hSw; obtain ⟨_,_,_,_,_,_,_,_,_,_,_,_⟩ := hSw; go_simp; all_goals (first | (with_reducible rfl) | (intro hh; omega) | (rw [if_pos (by omega)]; done) | (rw [if_neg (by omega)]; done) | skip))
 try simp only [zA, zB, zC, Act.put, zD, zE, zF]
 refine wpT_takeT (i := 1) (v := ?_) rfl (by kernel_rfl) (by kernel_rfl) (by kernel_rfl) (by kernel_rfl) (by kernel_rfl) (fun _ _ _ h => hPan _ _ _ _ _ h) (Or.inl ⟨by rfl, ?_⟩) HSd.out ?_
 rotate_left
 ·(intro wq hSw; obtain ⟨_,_,_,_,_,_,_,_,_,_,_,_⟩ := hSw; go_simp; all_goals (first | (with_reducible rfl) | (intro hh; omega) | (rw [if_pos (by omega)]; done) | (rw [if_neg (by omega)]; done) | skip))
 try simp only [zA, zB, zC, Act.put, zD, zE, zF]
 refine wpT_takeT (i := 2) (v := ?_) rfl (by kernel_rfl) (by kernel_rfl) (by kernel_rfl) (by kernel_rfl) (by kernel_rfl) (fun _ _ _ h => hPan _ _ _ _ _ h) (Or.inl ⟨by rfl, ?_⟩) HSd.out ?_
 rotate_left
 ·(intro wq hSw; obtain ⟨_,_,_,_,_,_,_,_,_,_,_,_⟩ := hSw; go_simp; all_goals (first | (with_reducible rfl) | (intro hh; omega) | (rw [if_pos (by omega)]; done) | (rw [if_neg (by omega)]; done) | skip))
 try simp only [zA, zB, zC, Act.put, zD, zE, zF]
 refine wpT_takeT (i := 3) (v := ?_) rfl (by kernel_rfl) (by kernel_rfl) (by kernel_rfl) (by kernel_rfl) (by kernel_rfl) (fun _ _ _ h => hPan _ _ _ _ _ h) (Or.inl ⟨by rfl, ?_⟩) HSd.out ?_
 rotate_left
 ·(intro wq hSw; obtain ⟨_,_,_,_,_,_,_,_,_,_,_,_⟩ := hSw; go_simp; all_goals (first | (with_reducible rfl) | (intro hh; omega) | (rw [if_pos (by omega)]; done) | (rw [if_neg (by omega)]; done) | skip))
 try simp only [zA, zB, zC, Act.put, zD, zE, zF]
 refine wpT_takeT (i := 4) (v := ?_) rfl (by kernel_rfl) (by kernel_rfl) (by kernel_rfl) (by kernel_rfl) (by kernel_rfl) (fun _ _ _ h => hPan _ _ _ _ _ h) (Or.inl ⟨by rfl, ?_⟩) HSd.out ?_
 rotate_left
 ·(intro wq hSw; obtain ⟨_,_,_,_,_,_,_,_,_,_,_,_⟩ := hSw; go_simp; all_goals (first | (with_reducible rfl) | (intro hh; omega) | (rw [if_pos (by omega)]; done) | (rw [if_neg (by omega)]; done) | skip))
 try simp only [zA, zB, zC, Act.put, zD, zE, zF]
 refine wpT_takeT (i := 5) (v := ?_) rfl (by kernel_rfl) (by kernel_rfl) (by kernel_rfl) (by kernel_rfl) (by kernel_rfl) (fun _ _ _ h => hPan _ _ _ _ _ h) (Or.inl ⟨by rfl, ?_⟩) HSd.out ?_
 rotate_left
 ·(intro wq hSw; obtain ⟨_,_,_,_,_,_,_,_,_,_,_,_⟩ := hSw; go_simp; all_goals (first | (with_reducible rfl) | (intro hh; omega) | (rw [if_pos (by omega)]; done) | (rw [if_neg (by omega)]; done) | skip))
 try simp only [zA, zB, zC, Act.put, zD, zE, zF]
 refine wpT_takeT (i := 6) (v := ?_) rfl (by kernel_rfl) (by kernel_rfl) (by kernel_rfl) (by kernel_rfl) (by kernel_rfl) (fun _ _ _ h => hPan _ _ _ _ _ h) (Or.inl ⟨by rfl, ?_⟩) HSd.out ?_
 rotate_left
 ·(intro wq hSw; obtain ⟨_,_,_,_,_,_,_,_,_,_,_,_⟩ := hSw; go_simp; all_goals (first | (with_reducible rfl) | (intro hh; omega) | (rw [if_pos (by omega)]; done) | (rw [if_neg (by omega)]; done) | skip))
 try simp only [zA, zB, zC, Act.put, zD, zE, zF]
 refine zO 7 fun K hK => ?_
 go_simp
 have hb6 : Below wr.heap.size wr ((wr.alloc (.cells #[.string ⟨c.text.toArray⟩] 9)).drew) := ((Below.refl _ _).alloc (Nat.le_refl _) _).drew
 have hca : ((wr.alloc (.cells #[.string ⟨c.text.toArray⟩] 9)).drew).cell? ⟨wr.heap.size, 0, none⟩ = some (.string ⟨c.text.toArray⟩) := by simp [go_sem]
 have hza : wr.heap.size < ((wr.alloc (.cells #[.string ⟨c.text.toArray⟩] 9)).drew).heap.size := by simp
 have HS6 := Lib.hid (HSS.out.below hb6)
 have hPl : P < wr.heap.size := PB.lt
 have PB6 := PB.keep hb6
 have hYc6 := HS6.out.yd.c0
 generalize (wr.alloc (.cells #[.string ⟨c.text.toArray⟩] 9)).drew = w6 at hca hza HS6 PB6 hYc6 ⊢
 clear hb6 HSd HSS hYc PB p0 p1 p2 p3 p4 p5 p6 p7 p8 p9 p10
 refine hK.out _ _ (fun _ => ⟨hYc6, PB6⟩) ?_
 clear hK K
 try simp only [zA, zB, zC, Act.put, zD, zE, zF]
 have hlen : N0 = ((ops.map opStr).reverse).length := by
  obtain ⟨A', c', e⟩ := own_form HS6.out.yd.own
  injection e
 have hszl : N0 ≤ 2000 := by rw [hlen, List.length_reverse, List.length_map]; have := HS6.out.sz; have := HS6.out.pl; omega
 refine zO 8 fun K hK => ?_
 refine step_app rt_strs rfl (.tmp 72) (.tmp 75) rfl (w.heap.size + 1 + 1 + 1) (.slice A N0 C0) ((ops.map opStr).reverse).length (strsOf ((ops.map opStr).reverse)) rfl HS6.out.yd.own ⟨wr.heap.size, 0, none⟩ 1 1 [.string ⟨c.text.toArray⟩] rfl rfl (fun j u hj => ?_) (by simp [Value.oneCell']) (by unfold maxLen; omega) (by omega) HS6.out.yd.lb (fun v7 w7 k1 k2 k3 k4 => ?_)
 ·match j, hj with
  | 0, hj => simp at hj; subst hj; exact hca
  | j + 1, hj => simp at hj
 have hS7 : w7.cell? ⟨w.heap.size + 1 + 1, 0, none⟩ = some (.slice A N0 C0) := (k4.cell (p := ⟨w.heap.size + 1 + 1, 0, none⟩) (by show w.heap.size + 1 + 1 < (w.heap.size + 1 + 1 + 1); omega)).trans hYc6
 have hz7 : w7.frozen? ⟨w.heap.size + 1 + 1, 0, none⟩ = false := (k4.frozen (p := ⟨w.heap.size + 1 + 1, 0, none⟩) (by show w.heap.size + 1 + 1 < (w.heap.size + 1 + 1 + 1); omega)).trans (HS6.out.yd.fr 0)
 have PB7 : PcBox w7 P c := PB6.grown k2 hPo
 have HF := Lib.hid (HS6.out.pushOp (.un c.text) k1 k2 k3 k4 (HS6.out.run.of_pre hleaf) HS6.out.bi HS6.out.br (opdP_pre hleaf) hpt hto)
 have HK2 := Lib.hid (And.intro hPv k4)
 obtain ⟨A7, C7, rfl⟩ := own_form k1
 refine hK.out _ _ (fun _ => ⟨hS7, PB7⟩) ?_
 clear hK K hPo hPv k1 k2 k3 k4 hca hza HS6 PB6 hYc6 hszl
 clear hlen
 try simp only [zA, zB, zC, Act.put, zD, zE, zF]
 refine zO 9 fun K hK => ?_
 go_simp
 refine hK.out _ _ (fun _ => ⟨hS7, PB7⟩) ?_
 clear hK K
 try simp only [zA, zB, zC, Act.put, zD, zE, zF]
 refine zO 10 fun K hK => ?_
 go_simp
 refine hK.out _ _ (fun _ => ⟨hS7, PB7⟩) ?_
 clear hK K
 try simp only [zA, zB, zC, Act.put, zD, zE, zF]
 refine zO 11 fun K hK => ?_
 go_simp
 refine hK.out _ _ (fun h => absurd h (by decide)) ?_
 clear hK K
 try simp only [zA, zB, zC, Act.put, zD, zE, zF]
 refine wpT_done (by kernel_rfl) ?_
 rw [show ((ops.map opStr).reverse).length = ops.length by rw [List.length_reverse, List.length_map]] at HF
 have PBF : PcBox (w7.setCell ⟨w.heap.size + 1 + 1, 0, none⟩ (.slice A7 (ops.length + 1) C7)) P c := PB7.far (by show ¬ w.heap.size + 1 + 1 = P; omega) _
 generalize w7.setCell ⟨w.heap.size + 1 + 1, 0, none⟩ (.slice A7 (ops.length + 1) C7) = wF at HF PBF ⊢
 clear hS7 hz7 PB7 HK2 hPl
 clear w6 w7
 simp only [Exit.inBlock, Exit.then]
 refine H1.out _ _ ?_
 clear H1
 go_step
 rename_i K6 h6
 have H6 := Lib.hid h6
 clear h6
 obtain ⟨p0, p1, p2, p3, p4, p5, p6, p7, p8, p9, p10⟩ := id PBF
 go_wp2_with fail
 refine H6.out _ _ ?_
 clear H6
 go_step
 exact hN.out _ _ _ _ _ _ _ _ _ _ _ _ _ _ _ _ _ _ _ _ _ _ _ _ _ _ _ _ _ _ _ _ _ _ _ _ _ _ _ _ _ _ _ _ _ _ _ _ _ _ _ _ _ _ _ _ _ _ _ _ _ _ _ _ _ _ _ _ _ _ _ _ _ _ _ _ _ _ _ _ _ _ _ _ _ _ _ _ _ _ _ _ _ _ _ _ _ _ _ _ _ _ _ _ _ _ _ _ _ _ _ _ _ _ _ _ _ _ _ _ _ _ _ _ _ _ _ _ _ _ _ _ _ _ _ _ _ _ _ _ _ _ _ _ _ _ _ _ _ _ _ _ _ _ _ _ _ _ _ _ _ _ _ _ _ _ _ _ _ _ _ _ _ _ _ _ _ _ _ _ _ _ _ _ _ _ _ _ _ _ _ _ _ _ _ _ _ _ _ _ _ _ _ _ _ _ _ _ _ _ _ _ _ _ _ _ _ _ _ _ _ _ _ _ _ _ _ _ _ _ _ _ _ _ _ _ _ _ _ _ _ _ _ _ _ _ _ hpt HF.out
set_option maxHeartbeats 8000000 in
theorem be_preH (l : Str) (w wr : World) (RES : Yd.Res Ex) (p n : Nat) (ops : List Yd.Op) (vals : List Ex) (ov vv : Value) (xs : List Value) (P : Nat) (c : Pc) (h2000 : l.length ≤ 2000) (Qx : Exit → Act → World → Prop) (hPan : ∀ (e : List PanicEntry) (d : Option Nat) (v : Value) (a : Act) (w : World), Qx (.panic e) (a.put d v) w → Qx (.panic e) a w) (TT : Ex) (EE : Nat) (CC : Int) (AA : Nat) (u2 u3 u12 u13 u14 u15 u16 u17 u18 u19 u20 u21 u22 u23 : Value) (hS : YS w wr (w.heap.size + 1 + 1 + 1) (w.heap.size + 1 + 1) l RES p n true ops vals ov vv xs) (PB : PcBox wr P c) (hP : (w.heap.size + 1 + 1 + 1) ≤ P) (hPo : some P ≠ ov.ownBlock) (hPv : some P ≠ vv.ownBlock) (hN : Hid (∀ (v5 v10 v11 v24 v25 v26 v27 v28 v29 v30 v31 v32 v33 v34 v35 v36 v37 v38 v39 v40 v41 v42 v43 v44 v45 v46 v47 v48 v49 v50 v51 v52 v53 v54 v55 v56 v57 v58 v59 v60 v61 v62 v63 v64 v65 v66 v67 v68 v69 v70 v71 v72 v73 v74 v75 v76 v77 v78 v79 v80 v81 v82 v83 v84 v85 v86 v87 v88 v89 v90 v91 v92 v93 v94 v95 v96 v97 v98 v99 v100 v101 v102 v103 v104 v105 v106 v107 v108 v109 v110 v111 v112 v113 v114 v115 v116 v117 v118 v119 v120 v121 v122 v123 v124 v125 v126 v127 v128 v129 v130 v131 v132 v133 v134 v135 v136 v137 v138 v139 v140 v141 v142 v143 v144 v145 v146 v147 v148 v149 v150 v151 v152 v153 v154 v155 v156 v157 v158 v159 v160 v161 v162 v163 v164 v165 v166 v167 v168 v169 v170 v171 v172 v173 v174 v175 v176 v177 v178 v179 v180 v181 v182 v183 v184 v185 v186 v187 v188 v189 v190 v191 v192 v193 v194 v195 v196 v197 v198 v199 v200 v201 v202 v203 v204 v205 v206 v207 v208 v209 v210 v211 v212 v213 v214 v215 v216 v217 v218 v219 v220 v221 v222 v223 v224 v225 v226 v227 v228 v229 v230 v231 v232 v233 v234 v235 v236 v237 v238 v239 v240 v241 v242 v243 v244 v245 v246 v247 v248 v249 v250 v251 v252 v253 v254 v255 v256 v257 v258 : Value) (w' : World) (p' n' : Nat) (o' : Bool) (ops' : List Yd.Op) (vals' : List Ex) (ov' vv' : Value) (xs' : List Value), p < p' → YS w w' (w.heap.size + 1 + 1 + 1) (w.heap.size + 1 + 1) l RES p' n' o' ops' vals' ov' vv' xs' → Qx (.exit 1) { tmps := #[.string ⟨l.toArray⟩, .int .i64 (p' : Int), u2, u3, .pointer (some ⟨w.heap.size, 0, none⟩), v5, .pointer (some ⟨w.heap.size + 1, 0, none⟩), .pointer (some ⟨w.heap.size + 1 + 1, 0, none⟩), .int .i64 (n' : Int), .bool o', v10, v11, u12, u13, u14, u15, u16, u17, u18, u19, u20, u21, u22, u23, v24, v25, v26, v27, v28, v29, v30, v31, v32, v33, v34, v35, v36, v37, v38, v39, v40, v41, v42, v43, v44, v45, v46, v47, v48, v49, v50, v51, v52, v53, v54, v55, v56, v57, v58, v59, v60, v61, v62, v63, v64, v65, v66, v67, v68, v69, v70, v71, v72, v73, v74, v75, v76, v77, v78, v79, v80, v81, v82, v83, v84, v85, v86, v87, v88, v89, v90, v91, v92, v93, v94, v95, v96, v97, v98, v99, v100, v101, v102, v103, v104, v105, v106, v107, v108, v109, v110, v111, v112, v113, v114, v115, v116, v117, v118, v119, v120, v121, v122, v123, v124, v125, v126, v127, v128, v129, v130, v131, v132, v133, v134, v135, v136, v137, v138, v139, v140, v141, v142, v143, v144, v145, v146, v147, v148, v149, v150, v151, v152, v153, v154, v155, v156, v157, v158, v159, v160, v161, v162, v163, v164, v165, v166, v167, v168, v169, v170, v171, v172, v173, v174, v175, v176, v177, v178, v179, v180, v181, v182, v183, v184, v185, v186, v187, v188, v189, v190, v191, v192, v193, v194, v195, v196, v197, v198, v199, v200, v201, v202, v203, v204, v205, v206, v207, v208, v209, v210, v211, v212, v213, v214, v215, v216, v217, v218, v219, v220, v221, v222, v223, v224, v225, v226, v227, v228, v229, v230, v231, v232, v233, v234, v235, v236, v237, v238, v239, v240, v241, v242, v243, v244, v245, v246, v247, v248, v249, v250, v251, v252, v253, v254, v255, v256, v257, v258], defers := [] } w'))  (u : Str) (hu : c.text = u) (hbad : (c.bad != 0) = false) (hlit : c.lit = false) (ht : (u == [110, 111, 116]) = false) (ht2 : (u == [35]) = true) (hto : c.to_ ≤ l.length) (hpt : p < c.to_) (hleaf : opdP l p = .pre u c.to_) (u5 u11 u24 u25 u26 u27 u29 u30 u31 u32 u33 u34 u35 u36 u37 u38 u39 u40 u41 u42 u43 u44 u45 u46 u47 u48 u49 u50 u51 u52 u53 u54 u55 u56 u57 u58 u59 u60 u61 u62 u63 u64 u65 u66 u67 u68 u69 u70 u71 u72 u73 u74 u75 u76 u77 u78 u79 u80 u81 u82 u83 u84 u85 u86 u87 u88 u89 u90 u91 u92 u93 u94 u95 u96 u97 u98 u99 u100 u101 u102 u103 u104 u105 u106 u107 u108 u109 u110 u111 u112 u113 u114 u115 u116 u117 u118 u119 u120 u121 u122 u123 u124 u125 u126 u127 u128 u129 u130 u131 u132 u133 u134 u135 u136 u137 u138 u139 u140 u141 u142 u143 u144 u145 u146 u147 u148 u149 u150 u151 u152 u153 u154 u155 u156 u157 u158 u159 u160 u161 u162 u163 u164 u165 u166 u167 u168 u169 u170 u171 u172 u173 u174 u175 u176 u177 u178 u179 u180 u181 u182 u183 u184 u185 u186 u187 u188 u189 u190 u191 u192 u193 u194 u195 u196 u197 u198 u199 u200 u201 u202 u203 u204 u205 u206 u207 u208 u209 u210 u211 u212 u213 u214 u215 u216 u217 u218 u219 u220 u221 u222 u223 u224 u225 u226 u227 u228 u229 u230 u231 u232 u233 u234 u235 u236 u237 u238 u239 u240 u241 u242 u243 u244 u245 u246 u247 u248 u249 u250 u251 u252 u253 u254 u255 u256 u257 u258 : Value) :
  Code.wp Tryz.prog beA Qx { tmps := #[.string ⟨l.toArray⟩, .int .i64 (p : Int), u2, u3, .pointer (some ⟨w.heap.size, 0, none⟩), u5, .pointer (some ⟨w.heap.size + 1, 0, none⟩), .pointer (some ⟨w.heap.size + 1 + 1, 0, none⟩), .int .i64 (n : Int), .bool true, .pointer (some ⟨P, 0, none⟩), u11, u12, u13, u14, u15, u16, u17, u18, u19, u20, u21, u22, u23, u24, u25, u26, u27, .bool true, u29, u30, u31, u32, u33, u34, u35, u36, u37, u38, u39, u40, u41, u42, u43, u44, u45, u46, u47, u48, u49, u50, u51, u52, u53, u54, u55, u56, u57, u58, u59, u60, u61, u62, u63, u64, u65, u66, u67, u68, u69, u70, u71, u72, u73, u74, u75, u76, u77, u78, u79, u80, u81, u82, u83, u84, u85, u86, u87, u88, u89, u90, u91, u92, u93, u94, u95, u96, u97, u98, u99, u100, u101, u102, u103, u104, u105, u106, u107, u108, u109, u110, u111, u112, u113, u114, u115, u116, u117, u118, u119, u120, u121, u122, u123, u124, u125, u126, u127, u128, u129, u130, u131, u132, u133, u134, u135, u136, u137, u138, u139, u140, u141, u142, u143, u144, u145, u146, u147, u148, u149, u150, u151, u152, u153, u154, u155, u156, u157, u158, u159, u160, u161, u162, u163, u164, u165, u166, u167, u168, u169, u170, u171, u172, u173, u174, u175, u176, u177, u178, u179, u180, u181, u182, u183, u184, u185, u186, u187, u188, u189, u190, u191, u192, u193, u194, u195, u196, u197, u198, u199, u200, u201, u202, u203, u204, u205, u206, u207, u208, u209, u210, u211, u212, u213, u214, u215, u216, u217, u218, u219, u220, u221, u222, u223, u224, u225, u226, u227, u228, u229, u230, u231, u232, u233, u234, u235, u236, u237, u238, u239, u240, u241, u242, u243, u244, u245, u246, u247, u248, u249, u250, u251, u252, u253, u254, u255, u256, u257, u258], defers := [] } wr := by
 have h : beA = Code.seq _ _ := rfl
 rw [h]
 clear h
 dsimp only
 have HSS := Lib.hid hS
 obtain ⟨p0, p1, p2, p3, p4, p5, p6, p7, p8, p9, p10⟩ := id PB
 clear hS
 subst hu
 rw [hlit] at p4
 go_step
 rename_i K1 h1
 have H1 := Lib.hid h1
 clear h1
 go_step
 go_step
 rename_i K2 h2
 have H2 := Lib.hid h2
 clear h2
 go_wp2_with fail
 refine H2.out _ _ ?_
 clear H2
 go_step
 go_step
 rename_i K3 h3
 have H3 := Lib.hid h3
 clear h3
 go_wp2_with fail
 refine H3.out _ _ ?_
 clear H3
 go_step
 go_step
 rename_i K5 h5
 have H5 := Lib.hid h5
 clear h5
 go_wp2_with fail
 refine H5.out _ _ ?_
 clear H5
 go_step
 have hov : ∃ A N C, ov = .slice A N C := ⟨_, _, _, (own_form HSS.out.yd.own).choose_spec.choose_spec⟩
 obtain ⟨A, N0, C0, rfl⟩ := hov
 have hYc := HSS.out.yd.c0
 have HSd : Hid (wr.drew.cell? ⟨w.heap.size + 1 + 1, 0, none⟩ = some (.slice A N0 C0) ∧ PcBox wr.drew P c) := Lib.hid ⟨hYc, PB.c0, PB.c1, PB.c2, PB.c3, PB.c4, PB.c5, PB.c6, PB.c7, PB.c8, PB.fr, PB.lt⟩
 refine wp_region_T 11 (fun w' => w'.cell? ⟨w.heap.size + 1 + 1, 0, none⟩ = some (.slice A N0 C0) ∧ PcBox w' P c) (by kernel_rfl) ?_
 refine wpT_takeT (i := 0) (v := ?_) rfl (by kernel_rfl) (by kernel_rfl) (by kernel_rfl) (by kernel_rfl) (by kernel_rfl) (fun _ _ _ h => hPan _ _ _ _ _ h) (Or.inl ⟨by rfl, ?_⟩) HSd.out ?_
 rotate_left
 ·(intro wq hSw; obtain ⟨_,_,_,_,_,_,_,_,_,_,_,_⟩ := hSw; go_simp; all_goals (first | (with_reducible rfl) | (intro hh; omega) | (rw [if_pos (by omega)]; done) | (rw [if_neg (by omega)]; done) | skip))
 try simp only [zA, zB, zC, Act.put, zD, zE, zF]
 refine wpT_takeT (i := 1) (v := ?_) rfl (by kernel_rfl) (by kernel_rfl) (by kernel_rfl) (by kernel_rfl) (by kernel_rfl) (fun _ _ _ h => hPan _ _ _ _ _ h) (Or.inl ⟨by rfl, ?_⟩) HSd.out ?_
 rotate_left
 ·(intro wq hSw; obtain ⟨_,_,_,_,_,_,_,_,_,_,_,_⟩ := hSw; go_simp; all_goals (first | (with_reducible rfl) | (intro hh; omega) | (rw [if_pos (by omega)]; done) | (rw [if_neg (by omega)]; done) | skip))
 try simp only [zA, zB, zC, Act.put, zD, zE, zF]
 refine wpT_takeT (i := 2) (v := ?_) rfl (by kernel_rfl) (by kernel_rfl) (by kernel_rfl) (by kernel_rfl) (by kernel_rfl) (fun _ _ _ h => hPan _ _ _ _ _ h) (Or.inl ⟨by rfl, ?_⟩) HSd.out ?_
 rotate_left
 ·(intro wq hSw; obtain ⟨_,_,_,_,_,_,_,_,_,_,_,_⟩ := hSw; go_simp; all_goals (first | (with_reducible rfl) | (intro hh; omega) | (rw [if_pos (by omega)]; done) | (rw [if_neg (by omega)]; done) | skip))
 try simp only [zA, zB, zC, Act.put, zD, zE, zF]
 refine wpT_takeT (i := 3) (v := ?_) rfl (by kernel_rfl) (by kernel_rfl) (by kernel_rfl) (by kernel_rfl) (by kernel_rfl) (fun _ _ _ h => hPan _ _ _ _ _ h) (Or.inl ⟨by rfl, ?_⟩) HSd.out ?_
 rotate_left
 ·(intro wq hSw; obtain ⟨_,_,_,_,_,_,_,_,_,_,_,_⟩ := hSw; go_simp; all_goals (first | (with_reducible rfl) | (intro hh; omega) | (rw [if_pos (by omega)]; done) | (rw [if_neg (by omega)]; done) | skip))
 try simp only [zA, zB, zC, Act.put, zD, zE, zF]
 refine wpT_takeT (i := 4) (v := ?_) rfl (by kernel_rfl) (by kernel_rfl) (by kernel_rfl) (by kernel_rfl) (by kernel_rfl) (fun _ _ _ h => hPan _ _ _ _ _ h) (Or.inl ⟨by rfl, ?_⟩) HSd.out ?_
 rotate_left
 ·(intro wq hSw; obtain ⟨_,_,_,_,_,_,_,_,_,_,_,_⟩ := hSw; go_simp; all_goals (first | (with_reducible rfl) | (intro hh; omega) | (rw [if_pos (by omega)]; done) | (rw [if_neg (by omega)]; done) | skip))
 try simp only [zA, zB, zC, Act.put, zD, zE, zF]
 refine wpT_takeT (i := 5) (v := ?_) rfl (by kernel_rfl) (by kernel_rfl) (by kernel_rfl) (by kernel_rfl) (by kernel_rfl) (fun _ _ _ h => hPan _ _ _ _ _ h) (Or.inl ⟨by rfl, ?_⟩) HSd.out ?_
 rotate_left
 ·(intro wq hSw; obtain ⟨_,_,_,_,_,_,_,_,_,_,_,_⟩ := hSw; go_simp; all_goals (first | (with_reducible rfl) | (intro hh; omega) | (rw [if_pos (by omega)]; done) | (rw [if_neg (by omega)]; done) | skip))
 try simp only [zA, zB, zC, Act.put, zD, zE, zF]
 refine wpT_takeT (i := 6) (v := ?_) rfl (by kernel_rfl) (by kernel_rfl) (by kernel_rfl) (by kernel_rfl) (by kernel_rfl) (fun _ _ _ h => hPan _ _ _ _ _ h) (Or.inl ⟨by rfl, ?_⟩) HSd.out ?_
 rotate_left
 ·(intro wq hSw; obtain ⟨_,_,_,_,_,_,_,_,_,_,_,_⟩ := hSw; go_simp; all_goals (first | (with_reducible rfl) | (intro hh; omega) | (rw [if_pos (by omega)]; done) | (rw [if_neg (by omega)]; done) | skip))
 try simp only [zA, zB, zC, Act.put, zD, zE, zF]
 refine zO 7 fun K hK => ?_
 go_simp
 have hb6 : Below wr.heap.size wr ((wr.alloc (.cells #[.string ⟨c.text.toArray⟩] 9)).drew) := ((Below.refl _ _).alloc (Nat.le_refl _) _).drew
 have hca : ((wr.alloc (.cells #[.string ⟨c.text.toArray⟩] 9)).drew).cell? ⟨wr.heap.size, 0, none⟩ = some (.string ⟨c.text.toArray⟩) := by simp [go_sem]
 have hza : wr.heap.size < ((wr.alloc (.cells #[.string ⟨c.text.toArray⟩] 9)).drew).heap.size := by simp
 have HS6 := Lib.hid (HSS.out.below hb6)
 have hPl : P < wr.heap.size := PB.lt
 have PB6 := PB.keep hb6
 have hYc6 := HS6.out.yd.c0
 generalize (wr.alloc (.cells #[.string ⟨c.text.toArray⟩] 9)).drew = w6 at hca hza HS6 PB6 hYc6 ⊢
 clear hb6 HSd HSS hYc PB p0 p1 p2 p3 p4 p5 p6 p7 p8 p9 p10
 refine hK.out _ _ (fun _ => ⟨hYc6, PB6⟩) ?_
 clear hK K
 try simp only [zA, zB, zC, Act.put, zD, zE, zF]
 have hlen : N0 = ((ops.map opStr).reverse).length := by
  obtain ⟨A', c', e⟩ := own_form HS6.out.yd.own
  injection e
 have hszl : N0 ≤ 2000 := by rw [hlen, List.length_reverse, List.length_map]; have := HS6.out.sz; have := HS6.out.pl; omega
 refine zO 8 fun K hK => ?_
 refine step_app rt_strs rfl (.tmp 72) (.tmp 75) rfl (w.heap.size + 1 + 1 + 1) (.slice A N0 C0) ((ops.map opStr).reverse).length (strsOf ((ops.map opStr).reverse)) rfl HS6.out.yd.own ⟨wr.heap.size, 0, none⟩ 1 1 [.string ⟨c.text.toArray⟩] rfl rfl (fun j u hj => ?_) (by simp [Value.oneCell']) (by unfold maxLen; omega) (by omega) HS6.out.yd.lb (fun v7 w7 k1 k2 k3 k4 => ?_)
 ·match j, hj with
  | 0, hj => simp at hj; subst hj; exact hca
  | j + 1, hj => simp at hj
 have hS7 : w7.cell? ⟨w.heap.size + 1 + 1, 0, none⟩ = some (.slice A N0 C0) := (k4.cell (p := ⟨w.heap.size + 1 + 1, 0, none⟩) (by show w.heap.size + 1 + 1 < (w.heap.size + 1 + 1 + 1); omega)).trans hYc6
 have hz7 : w7.frozen? ⟨w.heap.size + 1 + 1, 0, none⟩ = false := (k4.frozen (p := ⟨w.heap.size + 1 + 1, 0, none⟩) (by show w.heap.size + 1 + 1 < (w.heap.size + 1 + 1 + 1); omega)).trans (HS6.out.yd.fr 0)
 have PB7 : PcBox w7 P c := PB6.grown k2 hPo
 have HF := Lib.hid (HS6.out.pushOp (.un c.text) k1 k2 k3 k4 (HS6.out.run.of_pre hleaf) HS6.out.bi HS6.out.br (opdP_pre hleaf) hpt hto)
 have HK2 := Lib.hid (And.intro hPv k4)
 obtain ⟨A7, C7, rfl⟩ := own_form k1
 refine hK.out _ _ (fun _ => ⟨hS7, PB7⟩) ?_
 clear hK K hPo hPv k1 k2 k3 k4 hca hza HS6 PB6 hYc6 hszl
 clear hlen
 try simp only [zA, zB, zC, Act.put, zD, zE, zF]
 refine zO 9 fun K hK => ?_
 go_simp
 refine hK.out _ _ (fun _ => ⟨hS7, PB7⟩) ?_
 clear hK K
 try simp only [zA, zB, zC, Act.put, zD, zE, zF]
 refine zO 10 fun K hK => ?_
 go_simp
 refine hK.out _ _ (fun _ => ⟨hS7, PB7⟩) ?_
 clear hK K
 try simp only [zA, zB, zC, Act.put, zD, zE, zF]
 refine zO 11 fun K hK => ?_
 go_simp
 refine hK.out _ _ (fun h => absurd h (by decide)) ?_
 clear hK K
 try simp only [zA, zB, zC, Act.put, zD, zE, zF]
 refine wpT_done (by kernel_rfl) ?_
 rw [show ((ops.map opStr).reverse).length = ops.length by rw [List.length_reverse, List.length_map]] at HF
 have PBF : PcBox (w7.setCell ⟨w.heap.size + 1 + 1, 0, none⟩ (.slice A7 (ops.length + 1) C7)) P c := PB7.far (by show ¬ w.heap.size + 1 + 1 = P; omega) _
 generalize w7.setCell ⟨w.heap.size + 1 + 1, 0, none⟩ (.slice A7 (ops.length + 1) C7) = wF at HF PBF ⊢
 clear hS7 hz7 PB7 HK2 hPl
 clear w6 w7
 simp only [Exit.inBlock, Exit.then]
 refine H1.out _ _ ?_
 clear H1
 go_step
 rename_i K6 h6
 have H6 := Lib.hid h6
 clear h6
 obtain ⟨p0, p1, p2, p3, p4, p5, p6, p7, p8, p9, p10⟩ := id PBF
 go_wp2_with fail
 refine H6.out _ _ ?_
 clear H6
 go_step
 exact hN.out _ _ _ _ _ _ _ _ _ _ _ _ _ _ _ _ _ _ _ _ _ _ _ _ _ _ _ _ _ _ _ _ _ _ _ _ _ _ _ _ _ _ _ _ _ _ _ _ _ _ _ _ _ _ _ _ _ _ _ _ _ _ _ _ _ _ _ _ _ _ _ _ _ _ _ _ _ _ _ _ _ _ _ _ _ _ _ _ _ _ _ _ _ _ _ _ _ _ _ _ _ _ _ _ _ _ _ _ _ _ _ _ _ _ _ _ _ _ _ _ _ _ _ _ _ _ _ _ _ _ _ _ _ _ _ _ _ _ _ _ _ _ _ _ _ _ _ _ _ _ _ _ _ _ _ _ _ _ _ _ _ _ _ _ _ _ _ _ _ _ _ _ _ _ _ _ _ _ _ _ _ _ _ _ _ _ _ _ _ _ _ _ _ _ _ _ _ _ _ _ _ _ _ _ _ _ _ _ _ _ _ _ _ _ _ _ _ _ _ _ _ _ _ _ _ _ _ _ _ _ _ _ _ _ _ _ _ _ _ _ _ _ _ _ _ _ _ hpt HF.out
set_option maxHeartbeats 8000000 in
theorem be_neg (l : Str) (w wr : World) (RES : Yd.Res Ex) (p n : Nat) (ops : List Yd.Op) (vals : List Ex) (ov vv : Value) (xs : List Value) (P : Nat) (c : Pc) (h2000 : l.length ≤ 2000) (Qx : Exit → Act → World → Prop) (hPan : ∀ (e : List PanicEntry) (d : Option Nat) (v : Value) (a : Act) (w : World), Qx (.panic e) (a.put d v) w → Qx (.panic e) a w) (TT : Ex) (EE : Nat) (CC : Int) (AA : Nat) (u2 u3 u12 u13 u14 u15 u16 u17 u18 u19 u20 u21 u22 u23 : Value) (hS : YS w wr (w.heap.size + 1 + 1 + 1) (w.heap.size + 1 + 1) l RES p n true ops vals ov vv xs) (PB : PcBox wr P c) (hP : (w.heap.size + 1 + 1 + 1) ≤ P) (hPo : some P ≠ ov.ownBlock) (hPv : some P ≠ vv.ownBlock) (hN : Hid (∀ (v5 v10 v11 v24 v25 v26 v27 v28 v29 v30 v31 v32 v33 v34 v35 v36 v37 v38 v39 v40 v41 v42 v43 v44 v45 v46 v47 v48 v49 v50 v51 v52 v53 v54 v55 v56 v57 v58 v59 v60 v61 v62 v63 v64 v65 v66 v67 v68 v69 v70 v71 v72 v73 v74 v75 v76 v77 v78 v79 v80 v81 v82 v83 v84 v85 v86 v87 v88 v89 v90 v91 v92 v93 v94 v95 v96 v97 v98 v99 v100 v101 v102 v103 v104 v105 v106 v107 v108 v109 v110 v111 v112 v113 v114 v115 v116 v117 v118 v119 v120 v121 v122 v123 v124 v125 v126 v127 v128 v129 v130 v131 v132 v133 v134 v135 v136 v137 v138 v139 v140 v141 v142 v143 v144 v145 v146 v147 v148 v149 v150 v151 v152 v153 v154 v155 v156 v157 v158 v159 v160 v161 v162 v163 v164 v165 v166 v167 v168 v169 v170 v171 v172 v173 v174 v175 v176 v177 v178 v179 v180 v181 v182 v183 v184 v185 v186 v187 v188 v189 v190 v191 v192 v193 v194 v195 v196 v197 v198 v199 v200 v201 v202 v203 v204 v205 v206 v207 v208 v209 v210 v211 v212 v213 v214 v215 v216 v217 v218 v219 v220 v221 v222 v223 v224 v225 v226 v227 v228 v229 v230 v231 v232 v233 v234 v235 v236 v237 v238 v239 v240 v241 v242 v243 v244 v245 v246 v247 v248 v249 v250 v251 v252 v253 v254 v255 v256 v257 v258 : Value) (w' : World) (p' n' : Nat) (o' : Bool) (ops' : List Yd.Op) (vals' : List Ex) (ov' vv' : Value) (xs' : List Value), p < p' → YS w w' (w.heap.size + 1 + 1 + 1) (w.heap.size + 1 + 1) l RES p' n' o' ops' vals' ov' vv' xs' → Qx (.exit 1) { tmps := #[.string ⟨l.toArray⟩, .int .i64 (p' : Int), u2, u3, .pointer (some ⟨w.heap.size, 0, none⟩), v5, .pointer (some ⟨w.heap.size + 1, 0, none⟩), .pointer (some ⟨w.heap.size + 1 + 1, 0, none⟩), .int .i64 (n' : Int), .bool o', v10, v11, u12, u13, u14, u15, u16, u17, u18, u19, u20, u21, u22, u23, v24, v25, v26, v27, v28, v29, v30, v31, v32, v33, v34, v35, v36, v37, v38, v39, v40, v41, v42, v43, v44, v45, v46, v47, v48, v49, v50, v51, v52, v53, v54, v55, v56, v57, v58, v59, v60, v61, v62, v63, v64, v65, v66, v67, v68, v69, v70, v71, v72, v73, v74, v75, v76, v77, v78, v79, v80, v81, v82, v83, v84, v85, v86, v87, v88, v89, v90, v91, v92, v93, v94, v95, v96, v97, v98, v99, v100, v101, v102, v103, v104, v105, v106, v107, v108, v109, v110, v111, v112, v113, v114, v115, v116, v117, v118, v119, v120, v121, v122, v123, v124, v125, v126, v127, v128, v129, v130, v131, v132, v133, v134, v135, v136, v137, v138, v139, v140, v141, v142, v143, v144, v145, v146, v147, v148, v149, v150, v151, v152, v153, v154, v155, v156, v157, v158, v159, v160, v161, v162, v163, v164, v165, v166, v167, v168, v169, v170, v171, v172, v173, v174, v175, v176, v177, v178, v179, v180, v181, v182, v183, v184, v185, v186, v187, v188, v189, v190, v191, v192, v193, v194, v195, v196, v197, v198, v199, v200, v201, v202, v203, v204, v205, v206, v207, v208, v209, v210, v211, v212, v213, v214, v215, v216, v217, v218, v219, v220, v221, v222, v223, v224, v225, v226, v227, v228, v229, v230, v231, v232, v233, v234, v235, v236, v237, v238, v239, v240, v241, v242, v243, v244, v245, v246, v247, v248, v249, v250, v251, v252, v253, v254, v255, v256, v257, v258], defers := [] } w'))  (u : Str) (hu : c.text = u) (hbad : (c.bad != 0) = false) (hlit : c.lit = false) (hto : c.to_ ≤ l.length) (hpt : p < c.to_) (t1 : (u == [110, 111, 116]) = false) (t2 : (u == [35]) = false) (t3 : (u == [45]) = true) (hleaf : opdP l p = .pre negS c.to_) (u5 u11 u24 u25 u26 u27 u29 u30 u31 u32 u33 u34 u35 u36 u37 u38 u39 u40 u41 u42 u43 u44 u45 u46 u47 u48 u49 u50 u51 u52 u53 u54 u55 u56 u57 u58 u59 u60 u61 u62 u63 u64 u65 u66 u67 u68 u69 u70 u71 u72 u73 u74 u75 u76 u77 u78 u79 u80 u81 u82 u83 u84 u85 u86 u87 u88 u89 u90 u91 u92 u93 u94 u95 u96 u97 u98 u99 u100 u101 u102 u103 u104 u105 u106 u107 u108 u109 u110 u111 u112 u113 u114 u115 u116 u117 u118 u119 u120 u121 u122 u123 u124 u125 u126 u127 u128 u129 u130 u131 u132 u133 u134 u135 u136 u137 u138 u139 u140 u141 u142 u143 u144 u145 u146 u147 u148 u149 u150 u151 u152 u153 u154 u155 u156 u157 u158 u159 u160 u161 u162 u163 u164 u165 u166 u167 u168 u169 u170 u171 u172 u173 u174 u175 u176 u177 u178 u179 u180 u181 u182 u183 u184 u185 u186 u187 u188 u189 u190 u191 u192 u193 u194 u195 u196 u197 u198 u199 u200 u201 u202 u203 u204 u205 u206 u207 u208 u209 u210 u211 u212 u213 u214 u215 u216 u217 u218 u219 u220 u221 u222 u223 u224 u225 u226 u227 u228 u229 u230 u231 u232 u233 u234 u235 u236 u237 u238 u239 u240 u241 u242 u243 u244 u245 u246 u247 u248 u249 u250 u251 u252 u253 u254 u255 u256 u257 u258 : Value) :
  Code.wp Tryz.prog beA Qx { tmps := #[.string ⟨l.toArray⟩, .int .i64 (p : Int), u2, u3, .pointer (some ⟨w.heap.size, 0, none⟩), u5, .pointer (some ⟨w.heap.size + 1, 0, none⟩), .pointer (some ⟨w.heap.size + 1 + 1, 0, none⟩), .int .i64 (n : Int), .bool true, .pointer (some ⟨P, 0, none⟩), u11, u12, u13, u14, u15, u16, u17, u18, u19, u20, u21, u22, u23, u24, u25, u26, u27, .bool true, u29, u30, u31, u32, u33, u34, u35, u36, u37, u38, u39, u40, u41, u42, u43, u44, u45, u46, u47, u48, u49, u50, u51, u52, u53, u54, u55, u56, u57, u58, u59, u60, u61, u62, u63, u64, u65, u66, u67, u68, u69, u70, u71, u72, u73, u74, u75, u76, u77, u78, u79, u80, u81, u82, u83, u84, u85, u86, u87, u88, u89, u90, u91, u92, u93, u94, u95, u96, u97, u98, u99, u100, u101, u102, u103, u104, u105, u106, u107, u108, u109, u110, u111, u112, u113, u114, u115, u116, u117, u118, u119, u120, u121, u122, u123, u124, u125, u126, u127, u128, u129, u130, u131, u132, u133, u134, u135, u136, u137, u138, u139, u140, u141, u142, u143, u144, u145, u146, u147, u148, u149, u150, u151, u152, u153, u154, u155, u156, u157, u158, u159, u160, u161, u162, u163, u164, u165, u166, u167, u168, u169, u170, u171, u172, u173, u174, u175, u176, u177, u178, u179, u180, u181, u182, u183, u184, u185, u186, u187, u188, u189, u190, u191, u192, u193, u194, u195, u196, u197, u198, u199, u200, u201, u202, u203, u204, u205, u206, u207, u208, u209, u210, u211, u212, u213, u214, u215, u216, u217, u218, u219, u220, u221, u222, u223, u224, u225, u226, u227, u228, u229, u230, u231, u232, u233, u234, u235, u236, u237, u238, u239, u240, u241, u242, u243, u244, u245, u246, u247, u248, u249, u250, u251, u252, u253, u254, u255, u256, u257, u258], defers := [] } wr := by
 have h : beA = Code.seq _ _ := rfl
 rw [h]
 clear h
 dsimp only
 have HSS := Lib.hid hS
 obtain ⟨p0, p1, p2, p3, p4, p5, p6, p7, p8, p9, p10⟩ := id PB
 clear hS
 subst hu
 rw [hlit] at p4
 go_step
 rename_i K1 h1
 have H1 := Lib.hid h1
 clear h1
 go_step
 go_step
 rename_i K2 h2
 have H2 := Lib.hid h2
 clear h2
 go_wp2_with fail
 refine H2.out _ _ ?_
 clear H2
 go_step
 go_step
 rename_i K3 h3
 have H3 := Lib.hid h3
 clear h3
 go_wp2_with fail
 refine H3.out _ _ ?_
 clear H3
 go_step
 go_step
 rename_i K5 h5
 have H5 := Lib.hid h5
 clear h5
 go_wp2_with fail
 refine H5.out _ _ ?_
 clear H5
 go_step
 go_step
 rename_i K7 h7
 have H7 := Lib.hid h7
 clear h7
 go_wp2_with fail
 refine H7.out _ _ ?_
 clear H7
 go_step
 have hov : ∃ A N C, ov = .slice A N C := ⟨_, _, _, (own_form HSS.out.yd.own).choose_spec.choose_spec⟩
 obtain ⟨A, N0, C0, rfl⟩ := hov
 have hYc := HSS.out.yd.c0
 have hYf := HSS.out.yd.fr 0
 have hlen : N0 = ops.length := by
  obtain ⟨A', c', e⟩ := own_form HSS.out.yd.own
  injection e with e1 e2 e3
  rw [e2, List.length_reverse, List.length_map]
 subst hlen
 have hrl : ((ops.map opStr).reverse).length = ops.length := by rw [List.length_reverse, List.length_map]
 have hszl : ops.length ≤ 2000 := by have := HSS.out.sz; have := HSS.out.pl; omega
 have hb6 : Below wr.heap.size wr (wr.alloc (.cells #[.string ⟨#[110, 101, 103]⟩] 9)) := (Below.refl _ _).alloc (Nat.le_refl _) _
 have HS6 := Lib.hid (HSS.out.below hb6)
 have hca : (wr.alloc (.cells #[.string ⟨#[110, 101, 103]⟩] 9)).cell? ⟨wr.heap.size, 0, none⟩ = some (.string ⟨#[110, 101, 103]⟩) := by simp [go_sem]
 have hPl : P < wr.heap.size := PB.lt
 have PB6 := PB.keep hb6
 have hYc6 := HS6.out.yd.c0
 have hYf6 := HS6.out.yd.fr 0
 have hown6 := Lib.hid HS6.out.yd.own
 rw [hrl] at hown6
 clear hrl
 have hne1 : ¬ w.heap.size + 1 + 1 = P := by omega
 have hne2 : ¬ P = w.heap.size + 1 + 1 := by omega
 have hne3 : ¬ w.heap.size + 1 + 1 = wr.heap.size := by have := HSS.out.yd.lb; omega
 have hne4 : ¬ wr.heap.size = w.heap.size + 1 + 1 := by have := HSS.out.yd.lb; omega
 have hsrc : ∀ j u, [.string ⟨#[110, 101, 103]⟩][j]? = some u → (wr.alloc (.cells #[.string ⟨#[110, 101, 103]⟩] 9)).cell? ((⟨wr.heap.size, 0, none⟩ : Addr).add j) = some u := by
  intro j u hj
  match j, hj with
  | 0, hj => simp at hj; subst hj; exact hca
  | j + 1, hj => simp at hj
 have HSRC := Lib.hid hsrc
 clear p0 p1 p2 p3 p4 p5 p6 p7 p8 p9 p10 hsrc hca
 go_wp2_with (at_builtin; go_must (refine wpList_app rt_strs rfl (.tmp 87) (.tmp 88) rfl (w.heap.size + 1 + 1 + 1) (.slice A ops.length C0) ops.length (strsOf ((ops.map opStr).reverse)) (by simp [Act.eval]) hown6.out ⟨wr.heap.size, 0, none⟩ 1 1 [.string ⟨#[110, 101, 103]⟩] (by simp [Act.eval]) rfl HSRC.out (by simp [Value.oneCell']) (by unfold maxLen; omega) (by omega) HS6.out.yd.lb ?_; intro v7 w7 k1 k2 k3 k4; obtain ⟨A7, C7, rfl⟩ := own_form k1; have hS7 : w7.cell? ⟨w.heap.size + 1 + 1, 0, none⟩ = some (.slice A ops.length C0) := (k4.cell (p := ⟨w.heap.size + 1 + 1, 0, none⟩) (by show w.heap.size + 1 + 1 < (w.heap.size + 1 + 1 + 1); omega)).trans hYc6; have hz7 : w7.frozen? ⟨w.heap.size + 1 + 1, 0, none⟩ = false := (k4.frozen (p := ⟨w.heap.size + 1 + 1, 0, none⟩) (by show w.heap.size + 1 + 1 < (w.heap.size + 1 + 1 + 1); omega)).trans hYf6))
 have HF := Lib.hid (HS6.out.pushOp (p' := c.to_) (n' := n) (o' := true) (.un negS) (by rw [show ((ops.map opStr).reverse).length = ops.length by rw [List.length_reverse, List.length_map]]; exact k1) k2 k3 k4 (HS6.out.run.of_pre hleaf) HS6.out.bi HS6.out.br (Or.inr (Or.inl rfl)) hpt hto)
 have PBF : PcBox (w7.setCell ⟨w.heap.size + 1 + 1, 0, none⟩ (.slice A7 (ops.length + 1) C7)) P c := (PB6.grown k2 hPo).far (by show ¬ w.heap.size + 1 + 1 = P; omega) _
 generalize w7.setCell ⟨w.heap.size + 1 + 1, 0, none⟩ (.slice A7 (ops.length + 1) C7) = wF at HF PBF ⊢
 clear hS7 hz7 k1 k2 k3 k4 hPl HSS hYc hYf PB hb6 HS6 PB6 hYc6 hYf6 hown6 hne1 hne2 hne3 hne4 HSRC
 refine H1.out _ _ ?_
 clear H1
 go_step
 rename_i K6 h6
 have H6 := Lib.hid h6
 clear h6
 obtain ⟨p0, p1, p2, p3, p4, p5, p6, p7, p8, p9, p10⟩ := id PBF
 go_wp2_with fail
 refine H6.out _ _ ?_
 clear H6
 go_step
 exact hN.out _ _ _ _ _ _ _ _ _ _ _ _ _ _ _ _ _ _ _ _ _ _ _ _ _ _ _ _ _ _ _ _ _ _ _ _ _ _ _ _ _ _ _ _ _ _ _ _ _ _ _ _ _ _ _ _ _ _ _ _ _ _ _ _ _ _ _ _ _ _ _ _ _ _ _ _ _ _ _ _ _ _ _ _ _ _ _ _ _ _ _ _ _ _ _ _ _ _ _ _ _ _ _ _ _ _ _ _ _ _ _ _ _ _ _ _ _ _ _ _ _ _ _ _ _ _ _ _ _ _ _ _ _ _ _ _ _ _ _ _ _ _ _ _ _ _ _ _ _ _ _ _ _ _ _ _ _ _ _ _ _ _ _ _ _ _ _ _ _ _ _ _ _ _ _ _ _ _ _ _ _ _ _ _ _ _ _ _ _ _ _ _ _ _ _ _ _ _ _ _ _ _ _ _ _ _ _ _ _ _ _ _ _ _ _ _ _ _ _ _ _ _ _ _ _ _ _ _ _ _ _ _ _ _ _ _ _ _ _ _ _ _ _ _ _ _ _ hpt HF.out
set_option maxHeartbeats 8000000 in
theorem be_par (l : Str) (w wr : World) (RES : Yd.Res Ex) (p n : Nat) (ops : List Yd.Op) (vals : List Ex) (ov vv : Value) (xs : List Value) (P : Nat) (c : Pc) (h2000 : l.length ≤ 2000) (Qx : Exit → Act → World → Prop) (hPan : ∀ (e : List PanicEntry) (d : Option Nat) (v : Value) (a : Act) (w : World), Qx (.panic e) (a.put d v) w → Qx (.panic e) a w) (TT : Ex) (EE : Nat) (CC : Int) (AA : Nat) (u2 u3 u12 u13 u14 u15 u16 u17 u18 u19 u20 u21 u22 u23 : Value) (hS : YS w wr (w.heap.size + 1 + 1 + 1) (w.heap.size + 1 + 1) l RES p n true ops vals ov vv xs) (PB : PcBox wr P c) (hP : (w.heap.size + 1 + 1 + 1) ≤ P) (hPo : some P ≠ ov.ownBlock) (hPv : some P ≠ vv.ownBlock) (hN : Hid (∀ (v5 v10 v11 v24 v25 v26 v27 v28 v29 v30 v31 v32 v33 v34 v35 v36 v37 v38 v39 v40 v41 v42 v43 v44 v45 v46 v47 v48 v49 v50 v51 v52 v53 v54 v55 v56 v57 v58 v59 v60 v61 v62 v63 v64 v65 v66 v67 v68 v69 v70 v71 v72 v73 v74 v75 v76 v77 v78 v79 v80 v81 v82 v83 v84 v85 v86 v87 v88 v89 v90 v91 v92 v93 v94 v95 v96 v97 v98 v99 v100 v101 v102 v103 v104 v105 v106 v107 v108 v109 v110 v111 v112 v113 v114 v115 v116 v117 v118 v119 v120 v121 v122 v123 v124 v125 v126 v127 v128 v129 v130 v131 v132 v133 v134 v135 v136 v137 v138 v139 v140 v141 v142 v143 v144 v145 v146 v147 v148 v149 v150 v151 v152 v153 v154 v155 v156 v157 v158 v159 v160 v161 v162 v163 v164 v165 v166 v167 v168 v169 v170 v171 v172 v173 v174 v175 v176 v177 v178 v179 v180 v181 v182 v183 v184 v185 v186 v187 v188 v189 v190 v191 v192 v193 v194 v195 v196 v197 v198 v199 v200 v201 v202 v203 v204 v205 v206 v207 v208 v209 v210 v211 v212 v213 v214 v215 v216 v217 v218 v219 v220 v221 v222 v223 v224 v225 v226 v227 v228 v229 v230 v231 v232 v233 v234 v235 v236 v237 v238 v239 v240 v241 v242 v243 v244 v245 v246 v247 v248 v249 v250 v251 v252 v253 v254 v255 v256 v257 v258 : Value) (w' : World) (p' n' : Nat) (o' : Bool) (ops' : List Yd.Op) (vals' : List Ex) (ov' vv' : Value) (xs' : List Value), p < p' → YS w w' (w.heap.size + 1 + 1 + 1) (w.heap.size + 1 + 1) l RES p' n' o' ops' vals' ov' vv' xs' → Qx (.exit 1) { tmps := #[.string ⟨l.toArray⟩, .int .i64 (p' : Int), u2, u3, .pointer (some ⟨w.heap.size, 0, none⟩), v5, .pointer (some ⟨w.heap.size + 1, 0, none⟩), .pointer (some ⟨w.heap.size + 1 + 1, 0, none⟩), .int .i64 (n' : Int), .bool o', v10, v11, u12, u13, u14, u15, u16, u17, u18, u19, u20, u21, u22, u23, v24, v25, v26, v27, v28, v29, v30, v31, v32, v33, v34, v35, v36, v37, v38, v39, v40, v41, v42, v43, v44, v45, v46, v47, v48, v49, v50, v51, v52, v53, v54, v55, v56, v57, v58, v59, v60, v61, v62, v63, v64, v65, v66, v67, v68, v69, v70, v71, v72, v73, v74, v75, v76, v77, v78, v79, v80, v81, v82, v83, v84, v85, v86, v87, v88, v89, v90, v91, v92, v93, v94, v95, v96, v97, v98, v99, v100, v101, v102, v103, v104, v105, v106, v107, v108, v109, v110, v111, v112, v113, v114, v115, v116, v117, v118, v119, v120, v121, v122, v123, v124, v125, v126, v127, v128, v129, v130, v131, v132, v133, v134, v135, v136, v137, v138, v139, v140, v141, v142, v143, v144, v145, v146, v147, v148, v149, v150, v151, v152, v153, v154, v155, v156, v157, v158, v159, v160, v161, v162, v163, v164, v165, v166, v167, v168, v169, v170, v171, v172, v173, v174, v175, v176, v177, v178, v179, v180, v181, v182, v183, v184, v185, v186, v187, v188, v189, v190, v191, v192, v193, v194, v195, v196, v197, v198, v199, v200, v201, v202, v203, v204, v205, v206, v207, v208, v209, v210, v211, v212, v213, v214, v215, v216, v217, v218, v219, v220, v221, v222, v223, v224, v225, v226, v227, v228, v229, v230, v231, v232, v233, v234, v235, v236, v237, v238, v239, v240, v241, v242, v243, v244, v245, v246, v247, v248, v249, v250, v251, v252, v253, v254, v255, v256, v257, v258], defers := [] } w'))  (u : Str) (hu : c.text = u) (hbad : (c.bad != 0) = false) (hlit : c.lit = false) (hto : c.to_ ≤ l.length) (hpt : p < c.to_) (t1 : (u == [110, 111, 116]) = false) (t2 : (u == [35]) = false) (t3 : (u == [45]) = false) (t4 : (u == [40]) = true) (hleaf : opdP l p = .par c.to_) (u5 u11 u24 u25 u26 u27 u29 u30 u31 u32 u33 u34 u35 u36 u37 u38 u39 u40 u41 u42 u43 u44 u45 u46 u47 u48 u49 u50 u51 u52 u53 u54 u55 u56 u57 u58 u59 u60 u61 u62 u63 u64 u65 u66 u67 u68 u69 u70 u71 u72 u73 u74 u75 u76 u77 u78 u79 u80 u81 u82 u83 u84 u85 u86 u87 u88 u89 u90 u91 u92 u93 u94 u95 u96 u97 u98 u99 u100 u101 u102 u103 u104 u105 u106 u107 u108 u109 u110 u111 u112 u113 u114 u115 u116 u117 u118 u119 u120 u121 u122 u123 u124 u125 u126 u127 u128 u129 u130 u131 u132 u133 u134 u135 u136 u137 u138 u139 u140 u141 u142 u143 u144 u145 u146 u147 u148 u149 u150 u151 u152 u153 u154 u155 u156 u157 u158 u159 u160 u161 u162 u163 u164 u165 u166 u167 u168 u169 u170 u171 u172 u173 u174 u175 u176 u177 u178 u179 u180 u181 u182 u183 u184 u185 u186 u187 u188 u189 u190 u191 u192 u193 u194 u195 u196 u197 u198 u199 u200 u201 u202 u203 u204 u205 u206 u207 u208 u209 u210 u211 u212 u213 u214 u215 u216 u217 u218 u219 u220 u221 u222 u223 u224 u225 u226 u227 u228 u229 u230 u231 u232 u233 u234 u235 u236 u237 u238 u239 u240 u241 u242 u243 u244 u245 u246 u247 u248 u249 u250 u251 u252 u253 u254 u255 u256 u257 u258 : Value) :
  Code.wp Tryz.prog beA Qx { tmps := #[.string ⟨l.toArray⟩, .int .i64 (p : Int), u2, u3, .pointer (some ⟨w.heap.size, 0, none⟩), u5, .pointer (some ⟨w.heap.size + 1, 0, none⟩), .pointer (some ⟨w.heap.size + 1 + 1, 0, none⟩), .int .i64 (n : Int), .bool true, .pointer (some ⟨P, 0, none⟩), u11, u12, u13, u14, u15, u16, u17, u18, u19, u20, u21, u22, u23, u24, u25, u26, u27, .bool true, u29, u30, u31, u32, u33, u34, u35, u36, u37, u38, u39, u40, u41, u42, u43, u44, u45, u46, u47, u48, u49, u50, u51, u52, u53, u54, u55, u56, u57, u58, u59, u60, u61, u62, u63, u64, u65, u66, u67, u68, u69, u70, u71, u72, u73, u74, u75, u76, u77, u78, u79, u80, u81, u82, u83, u84, u85, u86, u87, u88, u89, u90, u91, u92, u93, u94, u95, u96, u97, u98, u99, u100, u101, u102, u103, u104, u105, u106, u107, u108, u109, u110, u111, u112, u113, u114, u115, u116, u117, u118, u119, u120, u121, u122, u123, u124, u125, u126, u127, u128, u129, u130, u131, u132, u133, u134, u135, u136, u137, u138, u139, u140, u141, u142, u143, u144, u145, u146, u147, u148, u149, u150, u151, u152, u153, u154, u155, u156, u157, u158, u159, u160, u161, u162, u163, u164, u165, u166, u167, u168, u169, u170, u171, u172, u173, u174, u175, u176, u177, u178, u179, u180, u181, u182, u183, u184, u185, u186, u187, u188, u189, u190, u191, u192, u193, u194, u195, u196, u197, u198, u199, u200, u201, u202, u203, u204, u205, u206, u207, u208, u209, u210, u211, u212, u213, u214, u215, u216, u217, u218, u219, u220, u221, u222, u223, u224, u225, u226, u227, u228, u229, u230, u231, u232, u233, u234, u235, u236, u237, u238, u239, u240, u241, u242, u243, u244, u245, u246, u247, u248, u249, u250, u251, u252, u253, u254, u255, u256, u257, u258], defers := [] } wr := by
 have h : beA = Code.seq _ _ := rfl
 rw [h]
 clear h
 dsimp only
 have HSS := Lib.hid hS
 obtain ⟨p0, p1, p2, p3, p4, p5, p6, p7, p8, p9, p10⟩ := id PB
 clear hS
 subst hu
 rw [hlit] at p4
 go_step
 rename_i K1 h1
 have H1 := Lib.hid h1
 clear h1
 go_step
 go_step
 rename_i K2 h2
 have H2 := Lib.hid h2
 clear h2
 go_wp2_with fail
 refine H2.out _ _ ?_
 clear H2
 go_step
 go_step
 rename_i K3 h3
 have H3 := Lib.hid h3
 clear h3
 go_wp2_with fail
 refine H3.out _ _ ?_
 clear H3
 go_step
 go_step
 rename_i K5 h5
 have H5 := Lib.hid h5
 clear h5
 go_wp2_with fail
 refine H5.out _ _ ?_
 clear H5
 go_step
 go_step
 rename_i K7 h7
 have H7 := Lib.hid h7
 clear h7
 go_wp2_with fail
 refine H7.out _ _ ?_
 clear H7
 go_step
 go_step
 rename_i K8 h8
 have H8 := Lib.hid h8
 clear h8
 go_wp2_with fail
 refine H8.out _ _ ?_
 clear H8
 go_step
 go_step
 rename_i K4 h4
 have H4 := Lib.hid h4
 clear h4
 have hnb : n ≤ 2000 := by have h1 := nbr_le ops; rw [HSS.out.br] at h1; have h2 := HSS.out.sz; have h3 := HSS.out.pl; omega
 obtain ⟨n1, hn1⟩ : ∃ m, n + 1 = m := ⟨_, rfl⟩
 have hov : ∃ A N C, ov = .slice A N C := ⟨_, _, _, (own_form HSS.out.yd.own).choose_spec.choose_spec⟩
 obtain ⟨A, N0, C0, rfl⟩ := hov
 have hYc := HSS.out.yd.c0
 have hYf := HSS.out.yd.fr 0
 have hlen : N0 = ops.length := by
  obtain ⟨A', c', e⟩ := own_form HSS.out.yd.own
  injection e with e1 e2 e3
  rw [e2, List.length_reverse, List.length_map]
 subst hlen
 have hrl : ((ops.map opStr).reverse).length = ops.length := by rw [List.length_reverse, List.length_map]
 have hszl : ops.length ≤ 2000 := by have := HSS.out.sz; have := HSS.out.pl; omega
 have hb6 : Below wr.heap.size wr (wr.alloc (.cells #[.string ⟨#[40]⟩] 9)) := (Below.refl _ _).alloc (Nat.le_refl _) _
 have HS6 := Lib.hid (HSS.out.below hb6)
 have hca : (wr.alloc (.cells #[.string ⟨#[40]⟩] 9)).cell? ⟨wr.heap.size, 0, none⟩ = some (.string ⟨#[40]⟩) := by simp [go_sem]
 have hPl : P < wr.heap.size := PB.lt
 have PB6 := PB.keep hb6
 have hYc6 := HS6.out.yd.c0
 have hYf6 := HS6.out.yd.fr 0
 have hown6 := Lib.hid HS6.out.yd.own
 rw [hrl] at hown6
 clear hrl
 have hne1 : ¬ w.heap.size + 1 + 1 = P := by omega
 have hne2 : ¬ P = w.heap.size + 1 + 1 := by omega
 have hne3 : ¬ w.heap.size + 1 + 1 = wr.heap.size := by have := HSS.out.yd.lb; omega
 have hne4 : ¬ wr.heap.size = w.heap.size + 1 + 1 := by have := HSS.out.yd.lb; omega
 have hsrc : ∀ j u, [.string ⟨#[40]⟩][j]? = some u → (wr.alloc (.cells #[.string ⟨#[40]⟩] 9)).cell? ((⟨wr.heap.size, 0, none⟩ : Addr).add j) = some u := by
  intro j u hj
  match j, hj with
  | 0, hj => simp at hj; subst hj; exact hca
  | j + 1, hj => simp at hj
 have HSRC := Lib.hid hsrc
 clear p0 p1 p2 p3 p4 p5 p6 p7 p8 p9 p10 hsrc hca
 go_wp2_with (at_builtin; go_must (refine wpList_app rt_strs rfl (.tmp 100) (.tmp 101) rfl (w.heap.size + 1 + 1 + 1) (.slice A ops.length C0) ops.length (strsOf ((ops.map opStr).reverse)) (by simp [Act.eval]) hown6.out ⟨wr.heap.size, 0, none⟩ 1 1 [.string ⟨#[40]⟩] (by simp [Act.eval]) rfl HSRC.out (by simp [Value.oneCell']) (by unfold maxLen; omega) (by omega) HS6.out.yd.lb ?_; intro v7 w7 k1 k2 k3 k4; obtain ⟨A7, C7, rfl⟩ := own_form k1; have hS7 : w7.cell? ⟨w.heap.size + 1 + 1, 0, none⟩ = some (.slice A ops.length C0) := (k4.cell (p := ⟨w.heap.size + 1 + 1, 0, none⟩) (by show w.heap.size + 1 + 1 < (w.heap.size + 1 + 1 + 1); omega)).trans hYc6; have hz7 : w7.frozen? ⟨w.heap.size + 1 + 1, 0, none⟩ = false := (k4.frozen (p := ⟨w.heap.size + 1 + 1, 0, none⟩) (by show w.heap.size + 1 + 1 < (w.heap.size + 1 + 1 + 1); omega)).trans hYf6))
 have HF := Lib.hid (HS6.out.pushOp (p' := c.to_) (n' := n1) (o' := true) .br (by rw [show ((ops.map opStr).reverse).length = ops.length by rw [List.length_reverse, List.length_map]]; exact k1) k2 k3 k4 (by have := HS6.out.run.of_par hleaf; rwa [hn1] at this) HS6.out.bi (by show Yd.nBr ops + 1 = n1; rw [HS6.out.br]; exact hn1) trivial hpt hto)
 have PBF : PcBox (w7.setCell ⟨w.heap.size + 1 + 1, 0, none⟩ (.slice A7 (ops.length + 1) C7)) P c := (PB6.grown k2 hPo).far (by show ¬ w.heap.size + 1 + 1 = P; omega) _
 generalize w7.setCell ⟨w.heap.size + 1 + 1, 0, none⟩ (.slice A7 (ops.length + 1) C7) = wF at HF PBF ⊢
 clear hS7 hz7 k1 k2 k3 k4 hPl HSS hYc hYf PB hb6 HS6 PB6 hYc6 hYf6 hown6 hne1 hne2 hne3 hne4 HSRC
 have hn2 : (n : Int) + 1 = (n1 : Int) := by omega
 refine H4.out _ _ ?_
 clear H4
 go_wp2_with (rw [hn2])
 refine H1.out _ _ ?_
 clear H1
 go_step
 rename_i K6 h6
 have H6 := Lib.hid h6
 clear h6
 obtain ⟨p0, p1, p2, p3, p4, p5, p6, p7, p8, p9, p10⟩ := id PBF
 go_wp2_with fail
 refine H6.out _ _ ?_
 clear H6
 go_step
 exact hN.out _ _ _ _ _ _ _ _ _ _ _ _ _ _ _ _ _ _ _ _ _ _ _ _ _ _ _ _ _ _ _ _ _ _ _ _ _ _ _ _ _ _ _ _ _ _ _ _ _ _ _ _ _ _ _ _ _ _ _ _ _ _ _ _ _ _ _ _ _ _ _ _ _ _ _ _ _ _ _ _ _ _ _ _ _ _ _ _ _ _ _ _ _ _ _ _ _ _ _ _ _ _ _ _ _ _ _ _ _ _ _ _ _ _ _ _ _ _ _ _ _ _ _ _ _ _ _ _ _ _ _ _ _ _ _ _ _ _ _ _ _ _ _ _ _ _ _ _ _ _ _ _ _ _ _ _ _ _ _ _ _ _ _ _ _ _ _ _ _ _ _ _ _ _ _ _ _ _ _ _ _ _ _ _ _ _ _ _ _ _ _ _ _ _ _ _ _ _ _ _ _ _ _ _ _ _ _ _ _ _ _ _ _ _ _ _ _ _ _ _ _ _ _ _ _ _ _ _ _ _ _ _ _ _ _ _ _ _ _ _ _ _ _ _ _ _ _ hpt HF.out
set_option maxHeartbeats 8000000 in
theorem be_bad (l : Str) (w wr : World) (RES : Yd.Res Ex) (p n : Nat) (ops : List Yd.Op) (vals : List Ex) (ov vv : Value) (xs : List Value) (P : Nat) (c : Pc) (h2000 : l.length ≤ 2000) (Qx : Exit → Act → World → Prop) (hPan : ∀ (e : List PanicEntry) (d : Option Nat) (v : Value) (a : Act) (w : World), Qx (.panic e) (a.put d v) w → Qx (.panic e) a w) (TT : Ex) (EE : Nat) (CC : Int) (AA : Nat) (u2 u3 u12 u13 u14 u15 u16 u17 u18 u19 u20 u21 u22 u23 : Value) (hS : YS w wr (w.heap.size + 1 + 1 + 1) (w.heap.size + 1 + 1) l RES p n true ops vals ov vv xs) (PB : PcBox wr P c) (hP : (w.heap.size + 1 + 1 + 1) ≤ P) (hPo : some P ≠ ov.ownBlock) (hPv : some P ≠ vv.ownBlock)  (hR : Hid (∀ (v1 v8 v9 v10 v11 v24 v25 v26 v27 v28 v29 v30 v31 v32 v33 v34 v35 v36 v37 v38 v39 v40 v41 v42 v43 v44 v45 v46 v47 v48 v49 v50 v51 v52 v53 v54 v55 v56 v57 v58 v59 v60 v61 v62 v63 v64 v65 v66 v67 v68 v69 v70 v71 v72 v73 v74 v75 v76 v77 v78 v79 v80 v81 v82 v83 v84 v85 v86 v87 v88 v89 v90 v91 v92 v93 v94 v95 v96 v97 v98 v99 v100 v101 v102 v103 v104 v105 v106 v107 v108 v109 v110 v111 v112 v113 v114 v115 v116 v117 v118 v119 v120 v121 v122 v123 v124 v125 v126 v127 v128 v129 v130 v131 v132 v133 v134 v135 v136 v137 v138 v139 v140 v141 v142 v143 v144 v145 v146 v147 v148 v149 v150 v151 v152 v153 v154 v155 v156 v157 v158 v159 v160 v161 v162 v163 v164 v165 v166 v167 v168 v169 v170 v171 v172 v173 v174 v175 v176 v177 v178 v179 v180 v181 v182 v183 v184 v185 v186 v187 v188 v189 v190 v191 v192 v193 v194 v195 v196 v197 v198 v199 v200 v201 v202 v203 v204 v205 v206 v207 v208 v209 v210 v211 v212 v213 v214 v215 v216 v217 v218 v219 v220 v221 v222 v223 v224 v225 v226 v227 v228 v229 v230 v231 v232 v233 v234 v235 v236 v237 v238 v239 v240 v241 v242 v243 v244 v245 v246 v247 v248 v249 v250 v251 v252 v253 v254 v255 v256 v257 v258 : Value) (w' : World) (kv : Value), ExBox w' w.heap.size TT kv → Exs (fun k => w.heap.size ≤ k) w' kv TT.kids → w'.cell? ⟨w.heap.size + 1, 0, none⟩ = some (.int .i64 CC) → w'.cell? ⟨w.heap.size + 1, 1, none⟩ = some (.int .i64 (AA : Int)) → Below w.heap.size w w' → Qx .ret { tmps := #[.string ⟨l.toArray⟩, v1, u2, u3, .pointer (some ⟨w.heap.size, 0, none⟩), .int .i64 (EE : Int), .pointer (some ⟨w.heap.size + 1, 0, none⟩), .pointer (some ⟨w.heap.size + 1 + 1, 0, none⟩), v8, v9, v10, v11, u12, u13, u14, u15, u16, u17, u18, u19, u20, u21, u22, u23, v24, v25, v26, v27, v28, v29, v30, v31, v32, v33, v34, v35, v36, v37, v38, v39, v40, v41, v42, v43, v44, v45, v46, v47, v48, v49, v50, v51, v52, v53, v54, v55, v56, v57, v58, v59, v60, v61, v62, v63, v64, v65, v66, v67, v68, v69, v70, v71, v72, v73, v74, v75, v76, v77, v78, v79, v80, v81, v82, v83, v84, v85, v86, v87, v88, v89, v90, v91, v92, v93, v94, v95, v96, v97, v98, v99, v100, v101, v102, v103, v104, v105, v106, v107, v108, v109, v110, v111, v112, v113, v114, v115, v116, v117, v118, v119, v120, v121, v122, v123, v124, v125, v126, v127, v128, v129, v130, v131, v132, v133, v134, v135, v136, v137, v138, v139, v140, v141, v142, v143, v144, v145, v146, v147, v148, v149, v150, v151, v152, v153, v154, v155, v156, v157, v158, v159, v160, v161, v162, v163, v164, v165, v166, v167, v168, v169, v170, v171, v172, v173, v174, v175, v176, v177, v178, v179, v180, v181, v182, v183, v184, v185, v186, v187, v188, v189, v190, v191, v192, v193, v194, v195, v196, v197, v198, v199, v200, v201, v202, v203, v204, v205, v206, v207, v208, v209, v210, v211, v212, v213, v214, v215, v216, v217, v218, v219, v220, v221, v222, v223, v224, v225, v226, v227, v228, v229, v230, v231, v232, v233, v234, v235, v236, v237, v238, v239, v240, v241, v242, v243, v244, v245, v246, v247, v248, v249, v250, v251, v252, v253, v254, v255, v256, v257, v258], defers := [] } w')) (hbad : (c.bad != 0) = true) (hTT : TT = zeroEx) (hEE : EE = 0) (hCC : CC = c.bad) (hAA : AA = c.at_) (u5 u11 u24 u25 u26 u27 u29 u30 u31 u32 u33 u34 u35 u36 u37 u38 u39 u40 u41 u42 u43 u44 u45 u46 u47 u48 u49 u50 u51 u52 u53 u54 u55 u56 u57 u58 u59 u60 u61 u62 u63 u64 u65 u66 u67 u68 u69 u70 u71 u72 u73 u74 u75 u76 u77 u78 u79 u80 u81 u82 u83 u84 u85 u86 u87 u88 u89 u90 u91 u92 u93 u94 u95 u96 u97 u98 u99 u100 u101 u102 u103 u104 u105 u106 u107 u108 u109 u110 u111 u112 u113 u114 u115 u116 u117 u118 u119 u120 u121 u122 u123 u124 u125 u126 u127 u128 u129 u130 u131 u132 u133 u134 u135 u136 u137 u138 u139 u140 u141 u142 u143 u144 u145 u146 u147 u148 u149 u150 u151 u152 u153 u154 u155 u156 u157 u158 u159 u160 u161 u162 u163 u164 u165 u166 u167 u168 u169 u170 u171 u172 u173 u174 u175 u176 u177 u178 u179 u180 u181 u182 u183 u184 u185 u186 u187 u188 u189 u190 u191 u192 u193 u194 u195 u196 u197 u198 u199 u200 u201 u202 u203 u204 u205 u206 u207 u208 u209 u210 u211 u212 u213 u214 u215 u216 u217 u218 u219 u220 u221 u222 u223 u224 u225 u226 u227 u228 u229 u230 u231 u232 u233 u234 u235 u236 u237 u238 u239 u240 u241 u242 u243 u244 u245 u246 u247 u248 u249 u250 u251 u252 u253 u254 u255 u256 u257 u258 : Value) :
  Code.wp Tryz.prog beA Qx { tmps := #[.string ⟨l.toArray⟩, .int .i64 (p : Int), u2, u3, .pointer (some ⟨w.heap.size, 0, none⟩), u5, .pointer (some ⟨w.heap.size + 1, 0, none⟩), .pointer (some ⟨w.heap.size + 1 + 1, 0, none⟩), .int .i64 (n : Int), .bool true, .pointer (some ⟨P, 0, none⟩), u11, u12, u13, u14, u15, u16, u17, u18, u19, u20, u21, u22, u23, u24, u25, u26, u27, .bool true, u29, u30, u31, u32, u33, u34, u35, u36, u37, u38, u39, u40, u41, u42, u43, u44, u45, u46, u47, u48, u49, u50, u51, u52, u53, u54, u55, u56, u57, u58, u59, u60, u61, u62, u63, u64, u65, u66, u67, u68, u69, u70, u71, u72, u73, u74, u75, u76, u77, u78, u79, u80, u81, u82, u83, u84, u85, u86, u87, u88, u89, u90, u91, u92, u93, u94, u95, u96, u97, u98, u99, u100, u101, u102, u103, u104, u105, u106, u107, u108, u109, u110, u111, u112, u113, u114, u115, u116, u117, u118, u119, u120, u121, u122, u123, u124, u125, u126, u127, u128, u129, u130, u131, u132, u133, u134, u135, u136, u137, u138, u139, u140, u141, u142, u143, u144, u145, u146, u147, u148, u149, u150, u151, u152, u153, u154, u155, u156, u157, u158, u159, u160, u161, u162, u163, u164, u165, u166, u167, u168, u169, u170, u171, u172, u173, u174, u175, u176, u177, u178, u179, u180, u181, u182, u183, u184, u185, u186, u187, u188, u189, u190, u191, u192, u193, u194, u195, u196, u197, u198, u199, u200, u201, u202, u203, u204, u205, u206, u207, u208, u209, u210, u211, u212, u213, u214, u215, u216, u217, u218, u219, u220, u221, u222, u223, u224, u225, u226, u227, u228, u229, u230, u231, u232, u233, u234, u235, u236, u237, u238, u239, u240, u241, u242, u243, u244, u245, u246, u247, u248, u249, u250, u251, u252, u253, u254, u255, u256, u257, u258], defers := [] } wr := by
 have h : beA = Code.seq _ _ := rfl
 rw [h]
 clear h
 dsimp only
 have HSS := Lib.hid hS
 obtain ⟨p0, p1, p2, p3, p4, p5, p6, p7, p8, p9, p10⟩ := id PB
 clear hS
 go_step
 rename_i K1 h1
 have H1 := Lib.hid h1
 clear h1
 go_step
 go_step
 rename_i K2 h2
 have H2 := Lib.hid h2
 clear h2
 go_wp2_with fail
 refine H2.out _ _ ?_
 clear H2
 go_step
 go_step
 rename_i K3 h3
 have H3 := Lib.hid h3
 clear h3
 obtain ⟨x0, x1, x2, x3, x4, x5, x6, x7⟩ := id HSS.out.xb
 have f0 := HSS.out.f0
 have f1 := HSS.out.f1
 have fz := HSS.out.fz
 have hd1 : ¬ w.heap.size = w.heap.size + 1 := by omega
 have hd2 : ¬ w.heap.size + 1 = w.heap.size := by omega
 have hd3 : ¬ w.heap.size = P := by omega
 have hd4 : ¬ w.heap.size + 1 = P := by omega
 go_region
 obtain ⟨TB9, g0, g1, -, hbl, -⟩ := elaid2_facts (w.heap.size) (w.heap.size + 1) wr HSS.out.xb f0 f1 fz hd1 hd2 zeroEx (.slice none 0 0) c.bad (c.at_ : Int)
 have hbN := (hbl _ _ HSS.out.bl (Nat.le_refl _) (by omega)).drew
 simp only [zeroEx, Ex.kind, Ex.name, Ex.vs, Ex.vn, Ex.vt] at TB9 g0 g1 hbN
 clear hbl x0 x1 x2 x3 x4 x5 x6 x7 p0 p1 p2 p3 p4 p5 p6 p7 p8 p9 p10 f0 f1 fz
 generalize ((((((((wr.setCell ⟨w.heap.size, 0, none⟩ (.int .i64 0)).setCell ⟨w.heap.size, 1, none⟩ (.string ⟨#[]⟩)).setCell ⟨w.heap.size, 2, none⟩ (.int .i64 0)).setCell ⟨w.heap.size, 3, none⟩ (.int .i64 0)).setCell ⟨w.heap.size, 4, none⟩ (.string ⟨#[]⟩)).setCell ⟨w.heap.size, 5, none⟩ (.slice none 0 0)).setCell ⟨w.heap.size + 1, 0, none⟩ (.int .i64 c.bad)).setCell ⟨w.heap.size + 1, 1, none⟩ (.int .i64 (c.at_ : Int))) = w9 at TB9 g0 g1 hbN ⊢
 have TB10 : ExBox w9.drew w.heap.size zeroEx (.slice none 0 0) := ⟨TB9.c0, TB9.c1, TB9.c2, TB9.c3, TB9.c4, TB9.c5, TB9.fr, TB9.lt⟩
 have g0' : w9.drew.cell? ⟨w.heap.size + 1, 0, none⟩ = some (.int .i64 c.bad) := g0
 have g1' : w9.drew.cell? ⟨w.heap.size + 1, 1, none⟩ = some (.int .i64 (c.at_ : Int)) := g1
 generalize w9.drew = wF at TB10 g0' g1' hbN ⊢
 simp only [Exit.inBlock, Exit.then]
 refine H3.out _ _ ?_
 clear H3
 go_step
 simp only [Exit.inBlock, Exit.then]
 subst hTT hEE hCC hAA
 exact hR.out _ _ _ _ _ _ _ _ _ _ _ _ _ _ _ _ _ _ _ _ _ _ _ _ _ _ _ _ _ _ _ _ _ _ _ _ _ _ _ _ _ _ _ _ _ _ _ _ _ _ _ _ _ _ _ _ _ _ _ _ _ _ _ _ _ _ _ _ _ _ _ _ _ _ _ _ _ _ _ _ _ _ _ _ _ _ _ _ _ _ _ _ _ _ _ _ _ _ _ _ _ _ _ _ _ _ _ _ _ _ _ _ _ _ _ _ _ _ _ _ _ _ _ _ _ _ _ _ _ _ _ _ _ _ _ _ _ _ _ _ _ _ _ _ _ _ _ _ _ _ _ _ _ _ _ _ _ _ _ _ _ _ _ _ _ _ _ _ _ _ _ _ _ _ _ _ _ _ _ _ _ _ _ _ _ _ _ _ _ _ _ _ _ _ _ _ _ _ _ _ _ _ _ _ _ _ _ _ _ _ _ _ _ _ _ _ _ _ _ _ _ _ _ _ _ _ _ _ _ _ _ _ _ _ _ _ _ _ _ _ wF _ TB10 (no_exs _ _) g0' g1' hbN
set_option maxHeartbeats 8000000 in
theorem be_stuck (l : Str) (w wr : World) (RES : Yd.Res Ex) (p n : Nat) (ops : List Yd.Op) (vals : List Ex) (ov vv : Value) (xs : List Value) (P : Nat) (c : Pc) (h2000 : l.length ≤ 2000) (Qx : Exit → Act → World → Prop) (hPan : ∀ (e : List PanicEntry) (d : Option Nat) (v : Value) (a : Act) (w : World), Qx (.panic e) (a.put d v) w → Qx (.panic e) a w) (TT : Ex) (EE : Nat) (CC : Int) (AA : Nat) (u2 u3 u12 u13 u14 u15 u16 u17 u18 u19 u20 u21 u22 u23 : Value) (hS : YS w wr (w.heap.size + 1 + 1 + 1) (w.heap.size + 1 + 1) l RES p n true ops vals ov vv xs) (PB : PcBox wr P c) (hP : (w.heap.size + 1 + 1 + 1) ≤ P) (hPo : some P ≠ ov.ownBlock) (hPv : some P ≠ vv.ownBlock)  (hR : Hid (∀ (v1 v8 v9 v10 v11 v24 v25 v26 v27 v28 v29 v30 v31 v32 v33 v34 v35 v36 v37 v38 v39 v40 v41 v42 v43 v44 v45 v46 v47 v48 v49 v50 v51 v52 v53 v54 v55 v56 v57 v58 v59 v60 v61 v62 v63 v64 v65 v66 v67 v68 v69 v70 v71 v72 v73 v74 v75 v76 v77 v78 v79 v80 v81 v82 v83 v84 v85 v86 v87 v88 v89 v90 v91 v92 v93 v94 v95 v96 v97 v98 v99 v100 v101 v102 v103 v104 v105 v106 v107 v108 v109 v110 v111 v112 v113 v114 v115 v116 v117 v118 v119 v120 v121 v122 v123 v124 v125 v126 v127 v128 v129 v130 v131 v132 v133 v134 v135 v136 v137 v138 v139 v140 v141 v142 v143 v144 v145 v146 v147 v148 v149 v150 v151 v152 v153 v154 v155 v156 v157 v158 v159 v160 v161 v162 v163 v164 v165 v166 v167 v168 v169 v170 v171 v172 v173 v174 v175 v176 v177 v178 v179 v180 v181 v182 v183 v184 v185 v186 v187 v188 v189 v190 v191 v192 v193 v194 v195 v196 v197 v198 v199 v200 v201 v202 v203 v204 v205 v206 v207 v208 v209 v210 v211 v212 v213 v214 v215 v216 v217 v218 v219 v220 v221 v222 v223 v224 v225 v226 v227 v228 v229 v230 v231 v232 v233 v234 v235 v236 v237 v238 v239 v240 v241 v242 v243 v244 v245 v246 v247 v248 v249 v250 v251 v252 v253 v254 v255 v256 v257 v258 : Value) (w' : World) (kv : Value), ExBox w' w.heap.size TT kv → Exs (fun k => w.heap.size ≤ k) w' kv TT.kids → w'.cell? ⟨w.heap.size + 1, 0, none⟩ = some (.int .i64 CC) → w'.cell? ⟨w.heap.size + 1, 1, none⟩ = some (.int .i64 (AA : Int)) → Below w.heap.size w w' → Qx .ret { tmps := #[.string ⟨l.toArray⟩, v1, u2, u3, .pointer (some ⟨w.heap.size, 0, none⟩), .int .i64 (EE : Int), .pointer (some ⟨w.heap.size + 1, 0, none⟩), .pointer (some ⟨w.heap.size + 1 + 1, 0, none⟩), v8, v9, v10, v11, u12, u13, u14, u15, u16, u17, u18, u19, u20, u21, u22, u23, v24, v25, v26, v27, v28, v29, v30, v31, v32, v33, v34, v35, v36, v37, v38, v39, v40, v41, v42, v43, v44, v45, v46, v47, v48, v49, v50, v51, v52, v53, v54, v55, v56, v57, v58, v59, v60, v61, v62, v63, v64, v65, v66, v67, v68, v69, v70, v71, v72, v73, v74, v75, v76, v77, v78, v79, v80, v81, v82, v83, v84, v85, v86, v87, v88, v89, v90, v91, v92, v93, v94, v95, v96, v97, v98, v99, v100, v101, v102, v103, v104, v105, v106, v107, v108, v109, v110, v111, v112, v113, v114, v115, v116, v117, v118, v119, v120, v121, v122, v123, v124, v125, v126, v127, v128, v129, v130, v131, v132, v133, v134, v135, v136, v137, v138, v139, v140, v141, v142, v143, v144, v145, v146, v147, v148, v149, v150, v151, v152, v153, v154, v155, v156, v157, v158, v159, v160, v161, v162, v163, v164, v165, v166, v167, v168, v169, v170, v171, v172, v173, v174, v175, v176, v177, v178, v179, v180, v181, v182, v183, v184, v185, v186, v187, v188, v189, v190, v191, v192, v193, v194, v195, v196, v197, v198, v199, v200, v201, v202, v203, v204, v205, v206, v207, v208, v209, v210, v211, v212, v213, v214, v215, v216, v217, v218, v219, v220, v221, v222, v223, v224, v225, v226, v227, v228, v229, v230, v231, v232, v233, v234, v235, v236, v237, v238, v239, v240, v241, v242, v243, v244, v245, v246, v247, v248, v249, v250, v251, v252, v253, v254, v255, v256, v257, v258], defers := [] } w')) (u : Str) (hu : c.text = u) (hbad : (c.bad != 0) = false) (hlit : c.lit = false) (t1 : (u == [110, 111, 116]) = false) (t2 : (u == [35]) = false) (t3 : (u == [45]) = false) (t4 : (u == [40]) = false) (hul : u.length ≤ 2000) (hw : c.word = true) (hnm : isName u = false) (hTT : TT = zeroEx) (hEE : EE = 0) (hCC : CC = 3) (hAA : AA = c.at_) (u5 u11 u24 u25 u26 u27 u29 u30 u31 u32 u33 u34 u35 u36 u37 u38 u39 u40 u41 u42 u43 u44 u45 u46 u47 u48 u49 u50 u51 u52 u53 u54 u55 u56 u57 u58 u59 u60 u61 u62 u63 u64 u65 u66 u67 u68 u69 u70 u71 u72 u73 u74 u75 u76 u77 u78 u79 u80 u81 u82 u83 u84 u85 u86 u87 u88 u89 u90 u91 u92 u93 u94 u95 u96 u97 u98 u99 u100 u101 u102 u103 u104 u105 u106 u107 u108 u109 u110 u111 u112 u113 u114 u115 u116 u117 u118 u119 u120 u121 u122 u123 u124 u125 u126 u127 u128 u129 u130 u131 u132 u133 u134 u135 u136 u137 u138 u139 u140 u141 u142 u143 u144 u145 u146 u147 u148 u149 u150 u151 u152 u153 u154 u155 u156 u157 u158 u159 u160 u161 u162 u163 u164 u165 u166 u167 u168 u169 u170 u171 u172 u173 u174 u175 u176 u177 u178 u179 u180 u181 u182 u183 u184 u185 u186 u187 u188 u189 u190 u191 u192 u193 u194 u195 u196 u197 u198 u199 u200 u201 u202 u203 u204 u205 u206 u207 u208 u209 u210 u211 u212 u213 u214 u215 u216 u217 u218 u219 u220 u221 u222 u223 u224 u225 u226 u227 u228 u229 u230 u231 u232 u233 u234 u235 u236 u237 u238 u239 u240 u241 u242 u243 u244 u245 u246 u247 u248 u249 u250 u251 u252 u253 u254 u255 u256 u257 u258 : Value) :
  Code.wp Tryz.prog beA Qx { tmps := #[.string ⟨l.toArray⟩, .int .i64 (p : Int), u2, u3, .pointer (some ⟨w.heap.size, 0, none⟩), u5, .pointer (some ⟨w.heap.size + 1, 0, none⟩), .pointer (some ⟨w.heap.size + 1 + 1, 0, none⟩), .int .i64 (n : Int), .bool true, .pointer (some ⟨P, 0, none⟩), u11, u12, u13, u14, u15, u16, u17, u18, u19, u20, u21, u22, u23, u24, u25, u26, u27, .bool true, u29, u30, u31, u32, u33, u34, u35, u36, u37, u38, u39, u40, u41, u42, u43, u44, u45, u46, u47, u48, u49, u50, u51, u52, u53, u54, u55, u56, u57, u58, u59, u60, u61, u62, u63, u64, u65, u66, u67, u68, u69, u70, u71, u72, u73, u74, u75, u76, u77, u78, u79, u80, u81, u82, u83, u84, u85, u86, u87, u88, u89, u90, u91, u92, u93, u94, u95, u96, u97, u98, u99, u100, u101, u102, u103, u104, u105, u106, u107, u108, u109, u110, u111, u112, u113, u114, u115, u116, u117, u118, u119, u120, u121, u122, u123, u124, u125, u126, u127, u128, u129, u130, u131, u132, u133, u134, u135, u136, u137, u138, u139, u140, u141, u142, u143, u144, u145, u146, u147, u148, u149, u150, u151, u152, u153, u154, u155, u156, u157, u158, u159, u160, u161, u162, u163, u164, u165, u166, u167, u168, u169, u170, u171, u172, u173, u174, u175, u176, u177, u178, u179, u180, u181, u182, u183, u184, u185, u186, u187, u188, u189, u190, u191, u192, u193, u194, u195, u196, u197, u198, u199, u200, u201, u202, u203, u204, u205, u206, u207, u208, u209, u210, u211, u212, u213, u214, u215, u216, u217, u218, u219, u220, u221, u222, u223, u224, u225, u226, u227, u228, u229, u230, u231, u232, u233, u234, u235, u236, u237, u238, u239, u240, u241, u242, u243, u244, u245, u246, u247, u248, u249, u250, u251, u252, u253, u254, u255, u256, u257, u258], defers := [] } wr := by
 have h : beA = Code.seq _ _ := rfl
 rw [h]
 clear h
 dsimp only
 have HSS := Lib.hid hS
 obtain ⟨p0, p1, p2, p3, p4, p5, p6, p7, p8, p9, p10⟩ := id PB
 clear hS
 subst hu
 rw [hlit] at p4
 rw [hw] at p8
 go_step
 rename_i K1 h1
 have H1 := Lib.hid h1
 clear h1
 go_step
 go_step
 rename_i K2 h2
 have H2 := Lib.hid h2
 clear h2
 go_wp2_with fail
 refine H2.out _ _ ?_
 clear H2
 go_step
 go_step
 rename_i K3 h3
 have H3 := Lib.hid h3
 clear h3
 go_wp2_with fail
 refine H3.out _ _ ?_
 clear H3
 go_step
 go_step
 rename_i K5 h5
 have H5 := Lib.hid h5
 clear h5
 go_wp2_with fail
 refine H5.out _ _ ?_
 clear H5
 go_step
 go_step
 rename_i K7 h7
 have H7 := Lib.hid h7
 clear h7
 go_wp2_with fail
 refine H7.out _ _ ?_
 clear H7
 go_step
 go_step
 rename_i K8 h8
 have H8 := Lib.hid h8
 clear h8
 go_wp2_with fail
 refine H8.out _ _ ?_
 clear H8
 go_step
 go_step
 rename_i K9 h9
 have H9 := Lib.hid h9
 clear h9
 go_wp2_with fail
 refine (refIsName_any c.text wr (by omega)).mono ?_
 rw [hnm]
 rintro e wq ⟨rfl, hbq⟩
 have HSQ := Lib.hid (HSS.out.below hbq)
 have PBQ := PB.keep hbq
 clear p0 p1 p2 p3 p4 p5 p6 p7 p8 p9 p10 HSS PB hbq
 have HSS := HSQ
 have PB := PBQ
 clear HSQ PBQ
 obtain ⟨p0, p1, p2, p3, p4, p5, p6, p7, p8, p9, p10⟩ := id PB
 dsimp only
 go_wp2_with fail
 refine H9.out _ _ ?_
 clear H9
 go_step
 go_step
 rename_i K3 h3
 have H3 := Lib.hid h3
 clear h3
 obtain ⟨x0, x1, x2, x3, x4, x5, x6, x7⟩ := id HSS.out.xb
 have f0 := HSS.out.f0
 have f1 := HSS.out.f1
 have fz := HSS.out.fz
 have hd1 : ¬ w.heap.size = w.heap.size + 1 := by omega
 have hd2 : ¬ w.heap.size + 1 = w.heap.size := by omega
 have hd3 : ¬ w.heap.size = P := by omega
 have hd4 : ¬ w.heap.size + 1 = P := by omega
 go_region
 obtain ⟨TB9, g0, g1, -, hbl, -⟩ := elaid2_facts (w.heap.size) (w.heap.size + 1) wq HSS.out.xb f0 f1 fz hd1 hd2 zeroEx (.slice none 0 0) 3 (c.at_ : Int)
 have hbN := (hbl _ _ HSS.out.bl (Nat.le_refl _) (by omega)).drew
 simp only [zeroEx, Ex.kind, Ex.name, Ex.vs, Ex.vn, Ex.vt] at TB9 g0 g1 hbN
 clear hbl x0 x1 x2 x3 x4 x5 x6 x7 p0 p1 p2 p3 p4 p5 p6 p7 p8 p9 p10 f0 f1 fz
 generalize ((((((((wq.setCell ⟨w.heap.size, 0, none⟩ (.int .i64 0)).setCell ⟨w.heap.size, 1, none⟩ (.string ⟨#[]⟩)).setCell ⟨w.heap.size, 2, none⟩ (.int .i64 0)).setCell ⟨w.heap.size, 3, none⟩ (.int .i64 0)).setCell ⟨w.heap.size, 4, none⟩ (.string ⟨#[]⟩)).setCell ⟨w.heap.size, 5, none⟩ (.slice none 0 0)).setCell ⟨w.heap.size + 1, 0, none⟩ (.int .i64 3)).setCell ⟨w.heap.size + 1, 1, none⟩ (.int .i64 (c.at_ : Int))) = w9 at TB9 g0 g1 hbN ⊢
 have TB10 : ExBox w9.drew w.heap.size zeroEx (.slice none 0 0) := ⟨TB9.c0, TB9.c1, TB9.c2, TB9.c3, TB9.c4, TB9.c5, TB9.fr, TB9.lt⟩
 have g0' : w9.drew.cell? ⟨w.heap.size + 1, 0, none⟩ = some (.int .i64 3) := g0
 have g1' : w9.drew.cell? ⟨w.heap.size + 1, 1, none⟩ = some (.int .i64 (c.at_ : Int)) := g1
 generalize w9.drew = wF at TB10 g0' g1' hbN ⊢
 simp only [Exit.inBlock, Exit.then]
 refine H3.out _ _ ?_
 clear H3
 go_step
 simp only [Exit.inBlock, Exit.then]
 subst hTT hEE hCC hAA
 exact hR.out _ _ _ _ _ _ _ _ _ _ _ _ _ _ _ _ _ _ _ _ _ _ _ _ _ _ _ _ _ _ _ _ _ _ _ _ _ _ _ _ _ _ _ _ _ _ _ _ _ _ _ _ _ _ _ _ _ _ _ _ _ _ _ _ _ _ _ _ _ _ _ _ _ _ _ _ _ _ _ _ _ _ _ _ _ _ _ _ _ _ _ _ _ _ _ _ _ _ _ _ _ _ _ _ _ _ _ _ _ _ _ _ _ _ _ _ _ _ _ _ _ _ _ _ _ _ _ _ _ _ _ _ _ _ _ _ _ _ _ _ _ _ _ _ _ _ _ _ _ _ _ _ _ _ _ _ _ _ _ _ _ _ _ _ _ _ _ _ _ _ _ _ _ _ _ _ _ _ _ _ _ _ _ _ _ _ _ _ _ _ _ _ _ _ _ _ _ _ _ _ _ _ _ _ _ _ _ _ _ _ _ _ _ _ _ _ _ _ _ _ _ _ _ _ _ _ _ _ _ _ _ _ _ _ _ _ _ _ _ _ wF _ TB10 (no_exs _ _) g0' g1' hbN
set_option maxHeartbeats 8000000 in
theorem be_stuck0 (l : Str) (w wr : World) (RES : Yd.Res Ex) (p n : Nat) (ops : List Yd.Op) (vals : List Ex) (ov vv : Value) (xs : List Value) (P : Nat) (c : Pc) (h2000 : l.length ≤ 2000) (Qx : Exit → Act → World → Prop) (hPan : ∀ (e : List PanicEntry) (d : Option Nat) (v : Value) (a : Act) (w : World), Qx (.panic e) (a.put d v) w → Qx (.panic e) a w) (TT : Ex) (EE : Nat) (CC : Int) (AA : Nat) (u2 u3 u12 u13 u14 u15 u16 u17 u18 u19 u20 u21 u22 u23 : Value) (hS : YS w wr (w.heap.size + 1 + 1 + 1) (w.heap.size + 1 + 1) l RES p n true ops vals ov vv xs) (PB : PcBox wr P c) (hP : (w.heap.size + 1 + 1 + 1) ≤ P) (hPo : some P ≠ ov.ownBlock) (hPv : some P ≠ vv.ownBlock)  (hR : Hid (∀ (v1 v8 v9 v10 v11 v24 v25 v26 v27 v28 v29 v30 v31 v32 v33 v34 v35 v36 v37 v38 v39 v40 v41 v42 v43 v44 v45 v46 v47 v48 v49 v50 v51 v52 v53 v54 v55 v56 v57 v58 v59 v60 v61 v62 v63 v64 v65 v66 v67 v68 v69 v70 v71 v72 v73 v74 v75 v76 v77 v78 v79 v80 v81 v82 v83 v84 v85 v86 v87 v88 v89 v90 v91 v92 v93 v94 v95 v96 v97 v98 v99 v100 v101 v102 v103 v104 v105 v106 v107 v108 v109 v110 v111 v112 v113 v114 v115 v116 v117 v118 v119 v120 v121 v122 v123 v124 v125 v126 v127 v128 v129 v130 v131 v132 v133 v134 v135 v136 v137 v138 v139 v140 v141 v142 v143 v144 v145 v146 v147 v148 v149 v150 v151 v152 v153 v154 v155 v156 v157 v158 v159 v160 v161 v162 v163 v164 v165 v166 v167 v168 v169 v170 v171 v172 v173 v174 v175 v176 v177 v178 v179 v180 v181 v182 v183 v184 v185 v186 v187 v188 v189 v190 v191 v192 v193 v194 v195 v196 v197 v198 v199 v200 v201 v202 v203 v204 v205 v206 v207 v208 v209 v210 v211 v212 v213 v214 v215 v216 v217 v218 v219 v220 v221 v222 v223 v224 v225 v226 v227 v228 v229 v230 v231 v232 v233 v234 v235 v236 v237 v238 v239 v240 v241 v242 v243 v244 v245 v246 v247 v248 v249 v250 v251 v252 v253 v254 v255 v256 v257 v258 : Value) (w' : World) (kv : Value), ExBox w' w.heap.size TT kv → Exs (fun k => w.heap.size ≤ k) w' kv TT.kids → w'.cell? ⟨w.heap.size + 1, 0, none⟩ = some (.int .i64 CC) → w'.cell? ⟨w.heap.size + 1, 1, none⟩ = some (.int .i64 (AA : Int)) → Below w.heap.size w w' → Qx .ret { tmps := #[.string ⟨l.toArray⟩, v1, u2, u3, .pointer (some ⟨w.heap.size, 0, none⟩), .int .i64 (EE : Int), .pointer (some ⟨w.heap.size + 1, 0, none⟩), .pointer (some ⟨w.heap.size + 1 + 1, 0, none⟩), v8, v9, v10, v11, u12, u13, u14, u15, u16, u17, u18, u19, u20, u21, u22, u23, v24, v25, v26, v27, v28, v29, v30, v31, v32, v33, v34, v35, v36, v37, v38, v39, v40, v41, v42, v43, v44, v45, v46, v47, v48, v49, v50, v51, v52, v53, v54, v55, v56, v57, v58, v59, v60, v61, v62, v63, v64, v65, v66, v67, v68, v69, v70, v71, v72, v73, v74, v75, v76, v77, v78, v79, v80, v81, v82, v83, v84, v85, v86, v87, v88, v89, v90, v91, v92, v93, v94, v95, v96, v97, v98, v99, v100, v101, v102, v103, v104, v105, v106, v107, v108, v109, v110, v111, v112, v113, v114, v115, v116, v117, v118, v119, v120, v121, v122, v123, v124, v125, v126, v127, v128, v129, v130, v131, v132, v133, v134, v135, v136, v137, v138, v139, v140, v141, v142, v143, v144, v145, v146, v147, v148, v149, v150, v151, v152, v153, v154, v155, v156, v157, v158, v159, v160, v161, v162, v163, v164, v165, v166, v167, v168, v169, v170, v171, v172, v173, v174, v175, v176, v177, v178, v179, v180, v181, v182, v183, v184, v185, v186, v187, v188, v189, v190, v191, v192, v193, v194, v195, v196, v197, v198, v199, v200, v201, v202, v203, v204, v205, v206, v207, v208, v209, v210, v211, v212, v213, v214, v215, v216, v217, v218, v219, v220, v221, v222, v223, v224, v225, v226, v227, v228, v229, v230, v231, v232, v233, v234, v235, v236, v237, v238, v239, v240, v241, v242, v243, v244, v245, v246, v247, v248, v249, v250, v251, v252, v253, v254, v255, v256, v257, v258], defers := [] } w')) (u : Str) (hu : c.text = u) (hbad : (c.bad != 0) = false) (hlit : c.lit = false) (t1 : (u == [110, 111, 116]) = false) (t2 : (u == [35]) = false) (t3 : (u == [45]) = false) (t4 : (u == [40]) = false) (hw : c.word = false) (hTT : TT = zeroEx) (hEE : EE = 0) (hCC : CC = 3) (hAA : AA = c.at_) (u5 u11 u24 u25 u26 u27 u29 u30 u31 u32 u33 u34 u35 u36 u37 u38 u39 u40 u41 u42 u43 u44 u45 u46 u47 u48 u49 u50 u51 u52 u53 u54 u55 u56 u57 u58 u59 u60 u61 u62 u63 u64 u65 u66 u67 u68 u69 u70 u71 u72 u73 u74 u75 u76 u77 u78 u79 u80 u81 u82 u83 u84 u85 u86 u87 u88 u89 u90 u91 u92 u93 u94 u95 u96 u97 u98 u99 u100 u101 u102 u103 u104 u105 u106 u107 u108 u109 u110 u111 u112 u113 u114 u115 u116 u117 u118 u119 u120 u121 u122 u123 u124 u125 u126 u127 u128 u129 u130 u131 u132 u133 u134 u135 u136 u137 u138 u139 u140 u141 u142 u143 u144 u145 u146 u147 u148 u149 u150 u151 u152 u153 u154 u155 u156 u157 u158 u159 u160 u161 u162 u163 u164 u165 u166 u167 u168 u169 u170 u171 u172 u173 u174 u175 u176 u177 u178 u179 u180 u181 u182 u183 u184 u185 u186 u187 u188 u189 u190 u191 u192 u193 u194 u195 u196 u197 u198 u199 u200 u201 u202 u203 u204 u205 u206 u207 u208 u209 u210 u211 u212 u213 u214 u215 u216 u217 u218 u219 u220 u221 u222 u223 u224 u225 u226 u227 u228 u229 u230 u231 u232 u233 u234 u235 u236 u237 u238 u239 u240 u241 u242 u243 u244 u245 u246 u247 u248 u249 u250 u251 u252 u253 u254 u255 u256 u257 u258 : Value) :
  Code.wp Tryz.prog beA Qx { tmps := #[.string ⟨l.toArray⟩, .int .i64 (p : Int), u2, u3, .pointer (some ⟨w.heap.size, 0, none⟩), u5, .pointer (some ⟨w.heap.size + 1, 0, none⟩), .pointer (some ⟨w.heap.size + 1 + 1, 0, none⟩), .int .i64 (n : Int), .bool true, .pointer (some ⟨P, 0, none⟩), u11, u12, u13, u14, u15, u16, u17, u18, u19, u20, u21, u22, u23, u24, u25, u26, u27, .bool true, u29, u30, u31, u32, u33, u34, u35, u36, u37, u38, u39, u40, u41, u42, u43, u44, u45, u46, u47, u48, u49, u50, u51, u52, u53, u54, u55, u56, u57, u58, u59, u60, u61, u62, u63, u64, u65, u66, u67, u68, u69, u70, u71, u72, u73, u74, u75, u76, u77, u78, u79, u80, u81, u82, u83, u84, u85, u86, u87, u88, u89, u90, u91, u92, u93, u94, u95, u96, u97, u98, u99, u100, u101, u102, u103, u104, u105, u106, u107, u108, u109, u110, u111, u112, u113, u114, u115, u116, u117, u118, u119, u120, u121, u122, u123, u124, u125, u126, u127, u128, u129, u130, u131, u132, u133, u134, u135, u136, u137, u138, u139, u140, u141, u142, u143, u144, u145, u146, u147, u148, u149, u150, u151, u152, u153, u154, u155, u156, u157, u158, u159, u160, u161, u162, u163, u164, u165, u166, u167, u168, u169, u170, u171, u172, u173, u174, u175, u176, u177, u178, u179, u180, u181, u182, u183, u184, u185, u186, u187, u188, u189, u190, u191, u192, u193, u194, u195, u196, u197, u198, u199, u200, u201, u202, u203, u204, u205, u206, u207, u208, u209, u210, u211, u212, u213, u214, u215, u216, u217, u218, u219, u220, u221, u222, u223, u224, u225, u226, u227, u228, u229, u230, u231, u232, u233, u234, u235, u236, u237, u238, u239, u240, u241, u242, u243, u244, u245, u246, u247, u248, u249, u250, u251, u252, u253, u254, u255, u256, u257, u258], defers := [] } wr := by
 have h : beA = Code.seq _ _ := rfl
 rw [h]
 clear h
 dsimp only
 have HSS := Lib.hid hS
 obtain ⟨p0, p1, p2, p3, p4, p5, p6, p7, p8, p9, p10⟩ := id PB
 clear hS
 subst hu
 rw [hlit] at p4
 rw [hw] at p8
 go_step
 rename_i K1 h1
 have H1 := Lib.hid h1
 clear h1
 go_step
 go_step
 rename_i K2 h2
 have H2 := Lib.hid h2
 clear h2
 go_wp2_with fail
 refine H2.out _ _ ?_
 clear H2
 go_step
 go_step
 rename_i K3 h3
 have H3 := Lib.hid h3
 clear h3
 go_wp2_with fail
 refine H3.out _ _ ?_
 clear H3
 go_step
 go_step
 rename_i K5 h5
 have H5 := Lib.hid h5
 clear h5
 go_wp2_with fail
 refine H5.out _ _ ?_
 clear H5
 go_step
 go_step
 rename_i K7 h7
 have H7 := Lib.hid h7
 clear h7
 go_wp2_with fail
 refine H7.out _ _ ?_
 clear H7
 go_step
 go_step
 rename_i K8 h8
 have H8 := Lib.hid h8
 clear h8
 go_wp2_with fail
 refine H8.out _ _ ?_
 clear H8
 go_step
 go_step
 rename_i K9 h9
 have H9 := Lib.hid h9
 clear h9
 go_wp2_with fail
 refine H9.out _ _ ?_
 clear H9
 go_step
 go_step
 rename_i K3 h3
 have H3 := Lib.hid h3
 clear h3
 obtain ⟨x0, x1, x2, x3, x4, x5, x6, x7⟩ := id HSS.out.xb
 have f0 := HSS.out.f0
 have f1 := HSS.out.f1
 have fz := HSS.out.fz
 have hd1 : ¬ w.heap.size = w.heap.size + 1 := by omega
 have hd2 : ¬ w.heap.size + 1 = w.heap.size := by omega
 have hd3 : ¬ w.heap.size = P := by omega
 have hd4 : ¬ w.heap.size + 1 = P := by omega
 go_region
 obtain ⟨TB9, g0, g1, -, hbl, -⟩ := elaid2_facts (w.heap.size) (w.heap.size + 1) wr HSS.out.xb f0 f1 fz hd1 hd2 zeroEx (.slice none 0 0) 3 (c.at_ : Int)
 have hbN := (hbl _ _ HSS.out.bl (Nat.le_refl _) (by omega)).drew
 simp only [zeroEx, Ex.kind, Ex.name, Ex.vs, Ex.vn, Ex.vt] at TB9 g0 g1 hbN
 clear hbl x0 x1 x2 x3 x4 x5 x6 x7 p0 p1 p2 p3 p4 p5 p6 p7 p8 p9 p10 f0 f1 fz
 generalize ((((((((wr.setCell ⟨w.heap.size, 0, none⟩ (.int .i64 0)).setCell ⟨w.heap.size, 1, none⟩ (.string ⟨#[]⟩)).setCell ⟨w.heap.size, 2, none⟩ (.int .i64 0)).setCell ⟨w.heap.size, 3, none⟩ (.int .i64 0)).setCell ⟨w.heap.size, 4, none⟩ (.string ⟨#[]⟩)).setCell ⟨w.heap.size, 5, none⟩ (.slice none 0 0)).setCell ⟨w.heap.size + 1, 0, none⟩ (.int .i64 3)).setCell ⟨w.heap.size + 1, 1, none⟩ (.int .i64 (c.at_ : Int))) = w9 at TB9 g0 g1 hbN ⊢
 have TB10 : ExBox w9.drew w.heap.size zeroEx (.slice none 0 0) := ⟨TB9.c0, TB9.c1, TB9.c2, TB9.c3, TB9.c4, TB9.c5, TB9.fr, TB9.lt⟩
 have g0' : w9.drew.cell? ⟨w.heap.size + 1, 0, none⟩ = some (.int .i64 3) := g0
 have g1' : w9.drew.cell? ⟨w.heap.size + 1, 1, none⟩ = some (.int .i64 (c.at_ : Int)) := g1
 generalize w9.drew = wF at TB10 g0' g1' hbN ⊢
 simp only [Exit.inBlock, Exit.then]
 refine H3.out _ _ ?_
 clear H3
 go_step
 simp only [Exit.inBlock, Exit.then]
 subst hTT hEE hCC hAA
 exact hR.out _ _ _ _ _ _ _ _ _ _ _ _ _ _ _ _ _ _ _ _ _ _ _ _ _ _ _ _ _ _ _ _ _ _ _ _ _ _ _ _ _ _ _ _ _ _ _ _ _ _ _ _ _ _ _ _ _ _ _ _ _ _ _ _ _ _ _ _ _ _ _ _ _ _ _ _ _ _ _ _ _ _ _ _ _ _ _ _ _ _ _ _ _ _ _ _ _ _ _ _ _ _ _ _ _ _ _ _ _ _ _ _ _ _ _ _ _ _ _ _ _ _ _ _ _ _ _ _ _ _ _ _ _ _ _ _ _ _ _ _ _ _ _ _ _ _ _ _ _ _ _ _ _ _ _ _ _ _ _ _ _ _ _ _ _ _ _ _ _ _ _ _ _ _ _ _ _ _ _ _ _ _ _ _ _ _ _ _ _ _ _ _ _ _ _ _ _ _ _ _ _ _ _ _ _ _ _ _ _ _ _ _ _ _ _ _ _ _ _ _ _ _ _ _ _ _ _ _ _ _ _ _ _ _ _ _ _ _ _ _ wF _ TB10 (no_exs _ _) g0' g1' hbN
end Go.Proofs.YtpidjanngbaiiaaGreatDoor
