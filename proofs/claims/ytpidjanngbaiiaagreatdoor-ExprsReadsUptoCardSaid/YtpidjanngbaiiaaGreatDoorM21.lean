/-
  BeginExpr: its rounds where an operand may stand.
  BeginExpr: one operator off the yard.
-/
import Derived.Test.YtpidjanngbaiiaaGreatDoorM18
namespace Go.Proofs.YtpidjanngbaiiaaGreatDoor
open Go.RowKit Go.Proofs

set_option maxRecDepth 100000
set_option maxHeartbeats 8000000 in
theorem be_name (l : Str) (w wr : World) (RES : Yd.Res Ex) (p n : Nat) (ops : List Yd.Op) (vals : List Ex) (ov vv : Value) (xs : List Value) (P : Nat) (c : Pc) (h2000 : l.length ≤ 2000) (Qx : Exit → Act → World → Prop) (hPan : ∀ (e : List PanicEntry) (d : Option Nat) (v : Value) (a : Act) (w : World), Qx (.panic e) (a.put d v) w → Qx (.panic e) a w) (TT : Ex) (EE : Nat) (CC : Int) (AA : Nat) (u2 u3 u12 u13 u14 u15 u16 u17 u18 u19 u20 u21 u22 u23 : Value) (hS : YS w wr (w.heap.size + 1 + 1 + 1) (w.heap.size + 1 + 1) l RES p n true ops vals ov vv xs) (PB : PcBox wr P c) (hP : (w.heap.size + 1 + 1 + 1) ≤ P) (hPo : some P ≠ ov.ownBlock) (hPv : some P ≠ vv.ownBlock) (hN : Hid (∀ (v5 v10 v11 v24 v25 v26 v27 v28 v29 v30 v31 v32 v33 v34 v35 v36 v37 v38 v39 v40 v41 v42 v43 v44 v45 v46 v47 v48 v49 v50 v51 v52 v53 v54 v55 v56 v57 v58 v59 v60 v61 v62 v63 v64 v65 v66 v67 v68 v69 v70 v71 v72 v73 v74 v75 v76 v77 v78 v79 v80 v81 v82 v83 v84 v85 v86 v87 v88 v89 v90 v91 v92 v93 v94 v95 v96 v97 v98 v99 v100 v101 v102 v103 v104 v105 v106 v107 v108 v109 v110 v111 v112 v113 v114 v115 v116 v117 v118 v119 v120 v121 v122 v123 v124 v125 v126 v127 v128 v129 v130 v131 v132 v133 v134 v135 v136 v137 v138 v139 v140 v141 v142 v143 v144 v145 v146 v147 v148 v149 v150 v151 v152 v153 v154 v155 v156 v157 v158 v159 v160 v161 v162 v163 v164 v165 v166 v167 v168 v169 v170 v171 v172 v173 v174 v175 v176 v177 v178 v179 v180 v181 v182 v183 v184 v185 v186 v187 v188 v189 v190 v191 v192 v193 v194 v195 v196 v197 v198 v199 v200 v201 v202 v203 v204 v205 v206 v207 v208 v209 v210 v211 v212 v213 v214 v215 v216 v217 v218 v219 v220 v221 v222 v223 v224 v225 v226 v227 v228 v229 v230 v231 v232 v233 v234 v235 v236 v237 v238 v239 v240 v241 v242 v243 v244 v245 v246 v247 v248 v249 v250 v251 v252 v253 v254 v255 v256 v257 v258 : Value) (w' : World) (p' n' : Nat) (o' : Bool) (ops' : List Yd.Op) (vals' : List Ex) (ov' vv' : Value) (xs' : List Value), p < p' → YS w w' (w.heap.size + 1 + 1 + 1) (w.heap.size + 1 + 1) l RES p' n' o' ops' vals' ov' vv' xs' → Qx (.exit 1) { tmps := #[.string ⟨l.toArray⟩, .int .i64 (p' : Int), u2, u3, .pointer (some ⟨w.heap.size, 0, none⟩), v5, .pointer (some ⟨w.heap.size + 1, 0, none⟩), .pointer (some ⟨w.heap.size + 1 + 1, 0, none⟩), .int .i64 (n' : Int), .bool o', v10, v11, u12, u13, u14, u15, u16, u17, u18, u19, u20, u21, u22, u23, v24, v25, v26, v27, v28, v29, v30, v31, v32, v33, v34, v35, v36, v37, v38, v39, v40, v41, v42, v43, v44, v45, v46, v47, v48, v49, v50, v51, v52, v53, v54, v55, v56, v57, v58, v59, v60, v61, v62, v63, v64, v65, v66, v67, v68, v69, v70, v71, v72, v73, v74, v75, v76, v77, v78, v79, v80, v81, v82, v83, v84, v85, v86, v87, v88, v89, v90, v91, v92, v93, v94, v95, v96, v97, v98, v99, v100, v101, v102, v103, v104, v105, v106, v107, v108, v109, v110, v111, v112, v113, v114, v115, v116, v117, v118, v119, v120, v121, v122, v123, v124, v125, v126, v127, v128, v129, v130, v131, v132, v133, v134, v135, v136, v137, v138, v139, v140, v141, v142, v143, v144, v145, v146, v147, v148, v149, v150, v151, v152, v153, v154, v155, v156, v157, v158, v159, v160, v161, v162, v163, v164, v165, v166, v167, v168, v169, v170, v171, v172, v173, v174, v175, v176, v177, v178, v179, v180, v181, v182, v183, v184, v185, v186, v187, v188, v189, v190, v191, v192, v193, v194, v195, v196, v197, v198, v199, v200, v201, v202, v203, v204, v205, v206, v207, v208, v209, v210, v211, v212, v213, v214, v215, v216, v217, v218, v219, v220, v221, v222, v223, v224, v225, v226, v227, v228, v229, v230, v231, v232, v233, v234, v235, v236, v237, v238, v239, v240, v241, v242, v243, v244, v245, v246, v247, v248, v249, v250, v251, v252, v253, v254, v255, v256, v257, v258], defers := [] } w'))  (u : Str) (hu : c.text = u) (hbad : (c.bad != 0) = false) (hlit : c.lit = false) (t1 : (u == [110, 111, 116]) = false) (t2 : (u == [35]) = false) (t3 : (u == [45]) = false) (t4 : (u == [40]) = false) (hul : u.length ≤ 2000) (hw : c.word = true) (hnm : isName u = true) (hto : c.to_ ≤ l.length) (hpt : p < c.to_) (hleaf : opdP l p = .leaf (.mk 2 u 0 0 [] []) c.to_) (u5 u11 u24 u25 u26 u27 u29 u30 u31 u32 u33 u34 u35 u36 u37 u38 u39 u40 u41 u42 u43 u44 u45 u46 u47 u48 u49 u50 u51 u52 u53 u54 u55 u56 u57 u58 u59 u60 u61 u62 u63 u64 u65 u66 u67 u68 u69 u70 u71 u72 u73 u74 u75 u76 u77 u78 u79 u80 u81 u82 u83 u84 u85 u86 u87 u88 u89 u90 u91 u92 u93 u94 u95 u96 u97 u98 u99 u100 u101 u102 u103 u104 u105 u106 u107 u108 u109 u110 u111 u112 u113 u114 u115 u116 u117 u118 u119 u120 u121 u122 u123 u124 u125 u126 u127 u128 u129 u130 u131 u132 u133 u134 u135 u136 u137 u138 u139 u140 u141 u142 u143 u144 u145 u146 u147 u148 u149 u150 u151 u152 u153 u154 u155 u156 u157 u158 u159 u160 u161 u162 u163 u164 u165 u166 u167 u168 u169 u170 u171 u172 u173 u174 u175 u176 u177 u178 u179 u180 u181 u182 u183 u184 u185 u186 u187 u188 u189 u190 u191 u192 u193 u194 u195 u196 u197 u198 u199 u200 u201 u202 u203 u204 u205 u206 u207 u208 u209 u210 u211 u212 u213 u214 u215 u216 u217 u218 u219 u220 u221 u222 u223 u224 u225 u226 u227 u228 u229 u230 u231 u232 u233 u234 u235 u236 u237 u238 u239 u240 u241 u242 u243 u244 u245 u246 u247 u248 u249 u250 u251 u252 u253 u254 u255 u256 u257 u258 : Value) :
  Code.wp Tryz.prog beA Qx { tmps := #[.string ⟨l.toArray⟩, .int .i64 (p : Int), u2, u3, .pointer (some ⟨w.heap.size, 0, none⟩), u5, .pointer (some ⟨w.heap.size + 1, 0, none⟩), .pointer (some ⟨w.heap.size + 1 + 1, 0, none⟩), .int .i64 (n : Int), .bool true, .pointer (some ⟨P, 0, none⟩), u11, u12, u13, u14, u15, u16, u17, u18, u19, u20, u21, u22, u23, u24, u25, u26, u27, .bool true, u29, u30, u31, u32, u33, u34, u35, u36, u37, u38, u39, u40, u41, u42, u43, u44, u45, u46, u47, u48, u49, u50, u51, u52, u53, u54, u55, u56, u57, u58, u59, u60, u61, u62, u63, u64, u65, u66, u67, u68, u69, u70, u71, u72, u73, u74, u75, u76, u77, u78, u79, u80, u81, u82, u83, u84, u85, u86, u87, u88, u89, u90, u91, u92, u93, u94, u95, u96, u97, u98, u99, u100, u101, u102, u103, u104, u105, u106, u107, u108, u109, u110, u111, u112, u113, u114, u115, u116, u117, u118, u119, u120, u121, u122, u123, u124, u125, u126, u127, u128, u129, u130, u131, u132, u133, u134, u135, u136, u137, u138, u139, u140, u141, u142, u143, u144, u145, u146, u147, u148, u149, u150, u151, u152, u153, u154, u155, u156, u157, u158, u159, u160, u161, u162, u163, u164, u165, u166, u167, u168, u169, u170, u171, u172, u173, u174, u175, u176, u177, u178, u179, u180, u181, u182, u183, u184, u185, u186, u187, u188, u189, u190, u191, u192, u193, u194, u195, u196, u197, u198, u199, u200, u201, u202, u203, u204, u205, u206, u207, u208, u209, u210, u211, u212, u213, u214, u215, u216, u217, u218, u219, u220, u221, u222, u223, u224, u225, u226, u227, u228, u229, u230, u231, u232, u233, u234, u235, u236, u237, u238, u239, u240, u241, u242, u243, u244, u245, u246, u247, u248, u249, u250, u251, u252, u253, u254, u255, u256, u257, u258], defers := [] } wr := by
 have h : beA = Code.seq _ _ := rfl
 rw [h]
 clear h
 dsimp only
 have HSS := Lib.hid hS
 obtain ⟨p0, p1, p2, p3, p4, p5, p6, p7, p8, p9, p10⟩ := id PB
 clear hS
 subst hu
 rw [hlit] at p4
 rw [hw] at p8
 go_step
 rename_i K1 h1
 have H1 := Lib.hid h1
 clear h1
 go_step
 go_step
 rename_i K2 h2
 have H2 := Lib.hid h2
 clear h2
 go_wp2_with fail
 refine H2.out _ _ ?_
 clear H2
 go_step
 go_step
 rename_i K3 h3
 have H3 := Lib.hid h3
 clear h3
 go_wp2_with fail
 refine H3.out _ _ ?_
 clear H3
 go_step
 go_step
 rename_i K5 h5
 have H5 := Lib.hid h5
 clear h5
 go_wp2_with fail
 refine H5.out _ _ ?_
 clear H5
 go_step
 go_step
 rename_i K7 h7
 have H7 := Lib.hid h7
 clear h7
 go_wp2_with fail
 refine H7.out _ _ ?_
 clear H7
 go_step
 go_step
 rename_i K8 h8
 have H8 := Lib.hid h8
 clear h8
 go_wp2_with fail
 refine H8.out _ _ ?_
 clear H8
 go_step
 go_step
 rename_i K9 h9
 have H9 := Lib.hid h9
 clear h9
 go_wp2_with fail
 refine (refIsName_any c.text wr (by omega)).mono ?_
 rw [hnm]
 rintro e wq ⟨rfl, hbq⟩
 have HSQ := Lib.hid (HSS.out.below hbq)
 have PBQ := PB.keep hbq
 clear p0 p1 p2 p3 p4 p5 p6 p7 p8 p9 p10 HSS PB hbq
 have HSS := HSQ
 have PB := PBQ
 clear HSQ PBQ
 obtain ⟨p0, p1, p2, p3, p4, p5, p6, p7, p8, p9, p10⟩ := id PB
 dsimp only
 go_wp2_with fail
 refine H9.out _ _ ?_
 clear H9
 go_step
 go_step
 rename_i K4 h4
 have H4 := Lib.hid h4
 clear h4
 have hov : ∃ A N C, vv = .slice A N C := ⟨_, _, _, (own_form HSS.out.yd.vown).choose_spec.choose_spec⟩
 obtain ⟨A, N0, C0, rfl⟩ := hov
 obtain ⟨M, hM⟩ : ∃ m, vals.length = m := ⟨_, rfl⟩
 have hlen : N0 = M := by
  obtain ⟨A', c', e⟩ := own_form HSS.out.yd.vown
  injection e with e1 e2 e3
  rw [e2, List.length_reverse, hM]
 subst hlen
 have hMl : N0 ≤ 2000 := by have := HSS.out.sz; have := HSS.out.pl; omega
 have HM := Lib.hid hM
 clear hM
 have hYc := HSS.out.yd.c1
 have HSd : Hid (wq.drew.cell? ⟨w.heap.size + 1 + 1, 1, none⟩ = some (.slice A N0 C0) ∧ PcBox wq.drew P c) := Lib.hid ⟨hYc, PB.c0, PB.c1, PB.c2, PB.c3, PB.c4, PB.c5, PB.c6, PB.c7, PB.c8, PB.fr, PB.lt⟩
 refine wp_region_T 10 (fun w' => w'.cell? ⟨w.heap.size + 1 + 1, 1, none⟩ = some (.slice A N0 C0) ∧ PcBox w' P c) (by kernel_rfl) ?_
 refine wpT_takeT (i := 0) (v := ?_) rfl (by kernel_rfl) (by kernel_rfl) (by kernel_rfl) (by kernel_rfl) (by kernel_rfl) (fun _ _ _ h => hPan _ _ _ _ _ h) (Or.inl ⟨by rfl, ?_⟩) HSd.out ?_
 rotate_left
 ·(intro wq hSw; obtain ⟨_,_,_,_,_,_,_,_,_,_,_,_⟩ := hSw; go_simp; all_goals (first | (with_reducible rfl) | (intro hh; omega) | (rw [if_pos (by omega)]; done) | (rw [if_neg (by omega)]; done) | skip))
 try simp only [zA, zB, zC, Act.put, zD, zE, zF]
 refine wpT_takeT (i := 1) (v := ?_) rfl (by kernel_rfl) (by kernel_rfl) (by kernel_rfl) (by kernel_rfl) (by kernel_rfl) (fun _ _ _ h => hPan _ _ _ _ _ h) (Or.inl ⟨by rfl, ?_⟩) HSd.out ?_
 rotate_left
 ·(intro wq hSw; obtain ⟨_,_,_,_,_,_,_,_,_,_,_,_⟩ := hSw; go_simp; all_goals (first | (with_reducible rfl) | (intro hh; omega) | (rw [if_pos (by omega)]; done) | (rw [if_neg (by omega)]; done) | skip))
 try simp only [zA, zB, zC, Act.put, zD, zE, zF]
 refine wpT_takeT (i := 2) (v := ?_) rfl (by kernel_rfl) (by kernel_rfl) (by kernel_rfl) (by kernel_rfl) (by kernel_rfl) (fun _ _ _ h => hPan _ _ _ _ _ h) (Or.inl ⟨by rfl, ?_⟩) HSd.out ?_
 rotate_left
 ·(intro wq hSw; obtain ⟨_,_,_,_,_,_,_,_,_,_,_,_⟩ := hSw; go_simp; all_goals (first | (with_reducible rfl) | (intro hh; omega) | (rw [if_pos (by omega)]; done) | (rw [if_neg (by omega)]; done) | skip))
 try simp only [zA, zB, zC, Act.put, zD, zE, zF]
 refine wpT_takeT (i := 3) (v := ?_) rfl (by kernel_rfl) (by kernel_rfl) (by kernel_rfl) (by kernel_rfl) (by kernel_rfl) (fun _ _ _ h => hPan _ _ _ _ _ h) (Or.inl ⟨by rfl, ?_⟩) HSd.out ?_
 rotate_left
 ·(intro wq hSw; obtain ⟨_,_,_,_,_,_,_,_,_,_,_,_⟩ := hSw; go_simp; all_goals (first | (with_reducible rfl) | (intro hh; omega) | (rw [if_pos (by omega)]; done) | (rw [if_neg (by omega)]; done) | skip))
 try simp only [zA, zB, zC, Act.put, zD, zE, zF]
 refine wpT_takeT (i := 4) (v := ?_) rfl (by kernel_rfl) (by kernel_rfl) (by kernel_rfl) (by kernel_rfl) (by kernel_rfl) (fun _ _ _ h => hPan _ _ _ _ _ h) (Or.inl ⟨by rfl, ?_⟩) HSd.out ?_
 rotate_left
 ·(intro wq hSw; obtain ⟨_,_,_,_,_,_,_,_,_,_,_,_⟩ := hSw; go_simp; all_goals (first | (with_reducible rfl) | (intro hh; omega) | (rw [if_pos (by omega)]; done) | (rw [if_neg (by omega)]; done) | skip))
 try simp only [zA, zB, zC, Act.put, zD, zE, zF]
 refine wpT_takeT (i := 5) (v := ?_) rfl (by kernel_rfl) (by kernel_rfl) (by kernel_rfl) (by kernel_rfl) (by kernel_rfl) (fun _ _ _ h => hPan _ _ _ _ _ h) (Or.inl ⟨by rfl, ?_⟩) HSd.out ?_
 rotate_left
 ·(intro wq hSw; obtain ⟨_,_,_,_,_,_,_,_,_,_,_,_⟩ := hSw; go_simp; all_goals (first | (with_reducible rfl) | (intro hh; omega) | (rw [if_pos (by omega)]; done) | (rw [if_neg (by omega)]; done) | skip))
 try simp only [zA, zB, zC, Act.put, zD, zE, zF]
 refine wpT_takeT (i := 6) (v := ?_) rfl (by kernel_rfl) (by kernel_rfl) (by kernel_rfl) (by kernel_rfl) (by kernel_rfl) (fun _ _ _ h => hPan _ _ _ _ _ h) (Or.inl ⟨by rfl, ?_⟩) HSd.out ?_
 rotate_left
 ·(intro wq hSw; obtain ⟨_,_,_,_,_,_,_,_,_,_,_,_⟩ := hSw; go_simp; all_goals (first | (with_reducible rfl) | (intro hh; omega) | (rw [if_pos (by omega)]; done) | (rw [if_neg (by omega)]; done) | skip))
 try simp only [zA, zB, zC, Act.put, zD, zE, zF]
 refine wpT_takeT (i := 7) (v := ?_) rfl (by kernel_rfl) (by kernel_rfl) (by kernel_rfl) (by kernel_rfl) (by kernel_rfl) (fun _ _ _ h => hPan _ _ _ _ _ h) (Or.inl ⟨by rfl, ?_⟩) HSd.out ?_
 rotate_left
 ·(intro wq hSw; obtain ⟨_,_,_,_,_,_,_,_,_,_,_,_⟩ := hSw; go_simp; all_goals (first | (with_reducible rfl) | (intro hh; omega) | (rw [if_pos (by omega)]; done) | (rw [if_neg (by omega)]; done) | skip))
 try simp only [zA, zB, zC, Act.put, zD, zE, zF]
 refine zO 8 fun K hK => ?_
 go_simp
 have hb6 : Below wq.heap.size wq (wq.alloc (.cells #[.int .i64 0, .string ⟨#[]⟩, .int .i64 0, .int .i64 0, .string ⟨#[]⟩, .slice none 0 0] 52)).drew := ((Below.refl _ _).alloc (Nat.le_refl _) _).drew
 have KE := new_exbox wq 52
 have HS6 := Lib.hid (HSS.out.below hb6)
 have PB6 := PB.keep hb6
 have hYc6 := HS6.out.yd.c1
 have hz6 : wq.heap.size < (wq.alloc (.cells #[.int .i64 0, .string ⟨#[]⟩, .int .i64 0, .int .i64 0, .string ⟨#[]⟩, .slice none 0 0] 52)).drew.heap.size := by simp
 have hsrc : ∀ j u, [.int .i64 0, .string ⟨#[]⟩, .int .i64 0, .int .i64 0, .string ⟨#[]⟩, .slice none 0 0][j]? = some u → (wq.alloc (.cells #[.int .i64 0, .string ⟨#[]⟩, .int .i64 0, .int .i64 0, .string ⟨#[]⟩, .slice none 0 0] 52)).drew.cell? ((⟨wq.heap.size, 0, none⟩ : Addr).add j) = some u := by
  intro j u hj
  rw [Go.WideShapes.add_plain, Nat.zero_add]
  match j, hj with
  | 0, hj => simp at hj; subst hj; exact KE.c0
  | 1, hj => simp at hj; subst hj; exact KE.c1
  | 2, hj => simp at hj; subst hj; exact KE.c2
  | 3, hj => simp at hj; subst hj; exact KE.c3
  | 4, hj => simp at hj; subst hj; exact KE.c4
  | 5, hj => simp at hj; subst hj; exact KE.c5
  | j + 6, hj => simp at hj
 generalize (wq.alloc (.cells #[.int .i64 0, .string ⟨#[]⟩, .int .i64 0, .int .i64 0, .string ⟨#[]⟩, .slice none 0 0] 52)).drew = w6 at HS6 PB6 hYc6 hz6 hsrc ⊢
 clear hb6 HSd HSS hYc PB KE p0 p1 p2 p3 p4 p5 p6 p7 p8 p9 p10
 refine hK.out _ _ (fun _ => ⟨hYc6, PB6⟩) ?_
 clear hK K
 try simp only [zA, zB, zC, Act.put, zD, zE, zF]
 refine zO 9 fun K hK => ?_
 refine step_app rt_exs rfl (.tmp 118) (.tmp 123) rfl (w.heap.size + 1 + 1 + 1) (.slice A N0 C0) N0 xs rfl (by have h := HS6.out.yd.vown; rwa [List.length_reverse, HM.out] at h) ⟨wq.heap.size, 0, none⟩ 1 1 [.int .i64 0, .string ⟨#[]⟩, .int .i64 0, .int .i64 0, .string ⟨#[]⟩, .slice none 0 0] rfl rfl hsrc (by simp [Value.oneCell']) (by unfold maxLen; omega) (by omega) HS6.out.yd.lb (fun v7 w7 k1 k2 k3 k4 => ?_)
 obtain ⟨g, C7, rfl, hC7⟩ := own_some k1 (Nat.succ_pos _)
 have hix : (N0 : Int) < (N0 : Int) + 1 := by omega
 have hgb : (w.heap.size + 1 + 1 + 1) ≤ g := (k1.lt g rfl).1
 have hxl : xs.length = N0 * 6 := by have h := HS6.out.yd.vown.1; rwa [List.length_reverse, HM.out] at h
 have r0 : w7.cell? ⟨g, N0 * 6, none⟩ = some (.int .i64 0) := own_at k1 (by rw [List.getElem?_append_right (by omega), show N0 * 6 - xs.length = 0 by omega]; rfl)
 have r1 : w7.cell? ⟨g, N0 * 6 + 1, none⟩ = some (.string ⟨#[]⟩) := own_at k1 (by rw [List.getElem?_append_right (by omega), show N0 * 6 + 1 - xs.length = 1 by omega]; rfl)
 have r2 : w7.cell? ⟨g, N0 * 6 + 2, none⟩ = some (.int .i64 0) := own_at k1 (by rw [List.getElem?_append_right (by omega), show N0 * 6 + 2 - xs.length = 2 by omega]; rfl)
 have r3 : w7.cell? ⟨g, N0 * 6 + 3, none⟩ = some (.int .i64 0) := own_at k1 (by rw [List.getElem?_append_right (by omega), show N0 * 6 + 3 - xs.length = 3 by omega]; rfl)
 have r4 : w7.cell? ⟨g, N0 * 6 + 4, none⟩ = some (.string ⟨#[]⟩) := own_at k1 (by rw [List.getElem?_append_right (by omega), show N0 * 6 + 4 - xs.length = 4 by omega]; rfl)
 have r5 : w7.cell? ⟨g, N0 * 6 + 5, none⟩ = some (.slice none 0 0) := own_at k1 (by rw [List.getElem?_append_right (by omega), show N0 * 6 + 5 - xs.length = 5 by omega]; rfl)
 have rf : ∀ j, j < 6 → w7.frozen? ⟨g, N0 * 6 + j, none⟩ = false := fun j hj => (own_put k1 (N0 * 6 + j) (by omega) (.int .i64 0)).1
 have rf0 : w7.frozen? ⟨g, N0 * 6, none⟩ = false := rf 0 (by decide)
 have rf1 : w7.frozen? ⟨g, N0 * 6 + 1, none⟩ = false := rf 1 (by decide)
 have rf2 : w7.frozen? ⟨g, N0 * 6 + 2, none⟩ = false := rf 2 (by decide)
 have rf3 : w7.frozen? ⟨g, N0 * 6 + 3, none⟩ = false := rf 3 (by decide)
 have rf4 : w7.frozen? ⟨g, N0 * 6 + 4, none⟩ = false := rf 4 (by decide)
 have rf5 : w7.frozen? ⟨g, N0 * 6 + 5, none⟩ = false := rf 5 (by decide)
 have hYc7 : w7.cell? ⟨w.heap.size + 1 + 1, 1, none⟩ = some (.slice A N0 C0) := (k4.cell (p := ⟨w.heap.size + 1 + 1, 1, none⟩) (by show w.heap.size + 1 + 1 < (w.heap.size + 1 + 1 + 1); omega)).trans hYc6
 have hYf7 : w7.frozen? ⟨w.heap.size + 1 + 1, 1, none⟩ = false := (k4.frozen (p := ⟨w.heap.size + 1 + 1, 1, none⟩) (by show w.heap.size + 1 + 1 < (w.heap.size + 1 + 1 + 1); omega)).trans (HS6.out.yd.fr 1)
 have PB7 : PcBox w7 P c := PB6.grown k2 hPv
 have hYg1 : ¬ w.heap.size + 1 + 1 = g := by omega
 have hYg2 : ¬ g = w.heap.size + 1 + 1 := by omega
 have hPg : ¬ g = P := by
  intro e
  rcases k3 with h | h
  ·exact hPv (by rw [← e]; exact h)
  ·have h1 : g = w6.heap.size := by injection h
   have := PB6.lt
   omega
 have hvb : (Value.slice (some ⟨g, 0, none⟩) (N0 + 1) C7).ownBlock = (Value.slice A N0 C0).ownBlock ∨ ∃ m, (Value.slice (some ⟨g, 0, none⟩) (N0 + 1) C7).ownBlock = some m ∧ w6.heap.size ≤ m := by
  rcases k3 with h | h
  ·exact Or.inl h
  ·exact Or.inr ⟨_, h, Nat.le_refl _⟩
 have hgs : ∀ k, k < w6.heap.size → some k ≠ (Value.slice A N0 C0).ownBlock → k ≠ g := by
  intro k hk hne e
  rcases k3 with h | h
  ·exact hne (by rw [e]; exact h)
  ·have h1 : g = w6.heap.size := by injection h
   omega
 have hfill := own_fill hxl k1 (.int .i64 2) (.string ⟨c.text.toArray⟩) (.int .i64 0) (.int .i64 0) (.string ⟨([] : Str).toArray⟩) (.slice none 0 0)
 have hs8 : Same (fun k => k ≠ g) w7 ((((((w7.setCell ⟨g, N0 * 6, none⟩ (.int .i64 2)).setCell ⟨g, N0 * 6 + 1, none⟩ (.string ⟨c.text.toArray⟩)).setCell ⟨g, N0 * 6 + 2, none⟩ (.int .i64 0)).setCell ⟨g, N0 * 6 + 3, none⟩ (.int .i64 0)).setCell ⟨g, N0 * 6 + 4, none⟩ (.string ⟨([] : Str).toArray⟩)).setCell ⟨g, N0 * 6 + 5, none⟩ (.slice none 0 0)) := (((((Same.set (fun h => h rfl)).trans (by simp only [World.size_setCell]; exact Nat.le_refl _) (Same.set (fun h => h rfl))).trans (by simp only [World.size_setCell]; exact Nat.le_refl _) (Same.set (fun h => h rfl))).trans (by simp only [World.size_setCell]; exact Nat.le_refl _) (Same.set (fun h => h rfl))).trans (by simp only [World.size_setCell]; exact Nat.le_refl _) (Same.set (fun h => h rfl))).trans (by simp only [World.size_setCell]; exact Nat.le_refl _) (Same.set (fun h => h rfl))
 have hb8 : Below (w.heap.size + 1 + 1 + 1) w6 ((((((w7.setCell ⟨g, N0 * 6, none⟩ (.int .i64 2)).setCell ⟨g, N0 * 6 + 1, none⟩ (.string ⟨c.text.toArray⟩)).setCell ⟨g, N0 * 6 + 2, none⟩ (.int .i64 0)).setCell ⟨g, N0 * 6 + 3, none⟩ (.int .i64 0)).setCell ⟨g, N0 * 6 + 4, none⟩ (.string ⟨([] : Str).toArray⟩)).setCell ⟨g, N0 * 6 + 5, none⟩ (.slice none 0 0)) := (((((k4.setCell hgb _).setCell hgb _).setCell hgb _).setCell hgb _).setCell hgb _).setCell hgb _
 have HF := Lib.hid (HS6.out.pushVal (p' := c.to_) (o' := false) (.mk 2 c.text 0 0 [] []) rfl (by rw [HM.out]; exact hfill) hb8.size (fun k hk hne => (hs8 k (hgs k hk hne) (Nat.lt_of_lt_of_le hk k2.size)).trans (k2.block k hk hne)) hvb hb8 (HS6.out.run.of_leaf hleaf) (by have h := HS6.out.bi; simp only [List.length_cons]; simpa using h) hpt hto)
 have PBF : PcBox (((((((w7.setCell ⟨g, N0 * 6, none⟩ (.int .i64 2)).setCell ⟨g, N0 * 6 + 1, none⟩ (.string ⟨c.text.toArray⟩)).setCell ⟨g, N0 * 6 + 2, none⟩ (.int .i64 0)).setCell ⟨g, N0 * 6 + 3, none⟩ (.int .i64 0)).setCell ⟨g, N0 * 6 + 4, none⟩ (.string ⟨([] : Str).toArray⟩)).setCell ⟨g, N0 * 6 + 5, none⟩ (.slice none 0 0)).setCell ⟨w.heap.size + 1 + 1, 1, none⟩ (.slice (some ⟨g, 0, none⟩) (N0 + 1) C7)) P c := ((((((PB7.far hPg _).far hPg _).far hPg _).far hPg _).far hPg _).far hPg _).far (by show ¬ w.heap.size + 1 + 1 = P; omega) _
 clear hfill hs8 hb8 hgs hvb k1 k2 k3 k4 hsrc hz6 HS6 PB6 hYc6 hxl HM rf hPo hPv
 refine hK.out _ _ (fun _ => ⟨hYc7, PB7⟩) ?_
 clear hK K
 try simp only [zA, zB, zC, Act.put, zD, zE, zF]
 refine wpT_two (i := 10) (j := 12) rfl rfl (by kernel_rfl) (fun K hK => ?_) (fun K hK => ?_)
 ·go_simp
  refine hK.out _ _ (fun h => absurd h (by decide)) ?_
  clear hK K
  try simp only [zA, zB, zC, Act.put, zD, zE, zF]
  refine wpT_two (i := 11) (j := 12) rfl rfl (by kernel_rfl) (fun K hK => ?_) (fun K hK => ?_)
  ·go_simp
   refine hK.out _ _ (fun h => absurd h (by decide)) ?_
   clear hK K
   try simp only [zA, zB, zC, Act.put, zD, zE, zF]
   refine zO 12 fun K hK => ?_
   go_simp
   refine hK.out _ _ (fun h => absurd h (by decide)) ?_
   clear hK K
   try simp only [zA, zB, zC, Act.put, zD, zE, zF]
   refine zO 13 fun K hK => ?_
   go_simp
   refine hK.out _ _ (fun h => absurd h (by decide)) ?_
   clear hK K
   try simp only [zA, zB, zC, Act.put, zD, zE, zF]
   refine zO 14 fun K hK => ?_
   go_simp
   refine hK.out _ _ (fun h => absurd h (by decide)) ?_
   clear hK K
   try simp only [zA, zB, zC, Act.put, zD, zE, zF]
   refine wpT_done (by kernel_rfl) ?_
   generalize (((((((w7.setCell ⟨g, N0 * 6, none⟩ (.int .i64 2)).setCell ⟨g, N0 * 6 + 1, none⟩ (.string ⟨c.text.toArray⟩)).setCell ⟨g, N0 * 6 + 2, none⟩ (.int .i64 0)).setCell ⟨g, N0 * 6 + 3, none⟩ (.int .i64 0)).setCell ⟨g, N0 * 6 + 4, none⟩ (.string ⟨([] : Str).toArray⟩)).setCell ⟨g, N0 * 6 + 5, none⟩ (.slice none 0 0)).setCell ⟨w.heap.size + 1 + 1, 1, none⟩ (.slice (some ⟨g, 0, none⟩) (N0 + 1) C7)) = wF at HF PBF ⊢
   simp only [Exit.inBlock, Exit.then]
   refine H4.out _ _ ?_
   go_wp2_with fail
   refine H1.out _ _ ?_
   go_step
   rename_i K6 h6
   have H6 := Lib.hid h6
   clear h6
   obtain ⟨p0, p1, p2, p3, p4, p5, p6, p7, p8, p9, p10⟩ := id PBF
   go_wp2_with fail
   refine H6.out _ _ ?_
   go_step
   exact hN.out _ _ _ _ _ _ _ _ _ _ _ _ _ _ _ _ _ _ _ _ _ _ _ _ _ _ _ _ _ _ _ _ _ _ _ _ _ _ _ _ _ _ _ _ _ _ _ _ _ _ _ _ _ _ _ _ _ _ _ _ _ _ _ _ _ _ _ _ _ _ _ _ _ _ _ _ _ _ _ _ _ _ _ _ _ _ _ _ _ _ _ _ _ _ _ _ _ _ _ _ _ _ _ _ _ _ _ _ _ _ _ _ _ _ _ _ _ _ _ _ _ _ _ _ _ _ _ _ _ _ _ _ _ _ _ _ _ _ _ _ _ _ _ _ _ _ _ _ _ _ _ _ _ _ _ _ _ _ _ _ _ _ _ _ _ _ _ _ _ _ _ _ _ _ _ _ _ _ _ _ _ _ _ _ _ _ _ _ _ _ _ _ _ _ _ _ _ _ _ _ _ _ _ _ _ _ _ _ _ _ _ _ _ _ _ _ _ _ _ _ _ _ _ _ _ _ _ _ _ _ _ _ _ _ _ _ _ _ _ _ _ _ _ _ _ _ _ hpt HF.out
  ·go_simp
   refine hK.out _ _ (fun h => absurd h (by decide)) ?_
   clear hK K
   try simp only [zA, zB, zC, Act.put, zD, zE, zF]
   refine wpT_two (i := 11) (j := 13) rfl rfl (by kernel_rfl) (fun K hK => ?_) (fun K hK => ?_)
   ·go_simp
    refine hK.out _ _ (fun h => absurd h (by decide)) ?_
    clear hK K
    try simp only [zA, zB, zC, Act.put, zD, zE, zF]
    refine zO 13 fun K hK => ?_
    go_simp
    refine hK.out _ _ (fun h => absurd h (by decide)) ?_
    clear hK K
    try simp only [zA, zB, zC, Act.put, zD, zE, zF]
    refine zO 14 fun K hK => ?_
    go_simp
    refine hK.out _ _ (fun h => absurd h (by decide)) ?_
    clear hK K
    try simp only [zA, zB, zC, Act.put, zD, zE, zF]
    refine wpT_done (by kernel_rfl) ?_
    generalize (((((((w7.setCell ⟨g, N0 * 6, none⟩ (.int .i64 2)).setCell ⟨g, N0 * 6 + 1, none⟩ (.string ⟨c.text.toArray⟩)).setCell ⟨g, N0 * 6 + 2, none⟩ (.int .i64 0)).setCell ⟨g, N0 * 6 + 3, none⟩ (.int .i64 0)).setCell ⟨g, N0 * 6 + 4, none⟩ (.string ⟨([] : Str).toArray⟩)).setCell ⟨g, N0 * 6 + 5, none⟩ (.slice none 0 0)).setCell ⟨w.heap.size + 1 + 1, 1, none⟩ (.slice (some ⟨g, 0, none⟩) (N0 + 1) C7)) = wF at HF PBF ⊢
    simp only [Exit.inBlock, Exit.then]
    refine H4.out _ _ ?_
    go_wp2_with fail
    refine H1.out _ _ ?_
    go_step
    rename_i K6 h6
    have H6 := Lib.hid h6
    clear h6
    obtain ⟨p0, p1, p2, p3, p4, p5, p6, p7, p8, p9, p10⟩ := id PBF
    go_wp2_with fail
    refine H6.out _ _ ?_
    go_step
    exact hN.out _ _ _ _ _ _ _ _ _ _ _ _ _ _ _ _ _ _ _ _ _ _ _ _ _ _ _ _ _ _ _ _ _ _ _ _ _ _ _ _ _ _ _ _ _ _ _ _ _ _ _ _ _ _ _ _ _ _ _ _ _ _ _ _ _ _ _ _ _ _ _ _ _ _ _ _ _ _ _ _ _ _ _ _ _ _ _ _ _ _ _ _ _ _ _ _ _ _ _ _ _ _ _ _ _ _ _ _ _ _ _ _ _ _ _ _ _ _ _ _ _ _ _ _ _ _ _ _ _ _ _ _ _ _ _ _ _ _ _ _ _ _ _ _ _ _ _ _ _ _ _ _ _ _ _ _ _ _ _ _ _ _ _ _ _ _ _ _ _ _ _ _ _ _ _ _ _ _ _ _ _ _ _ _ _ _ _ _ _ _ _ _ _ _ _ _ _ _ _ _ _ _ _ _ _ _ _ _ _ _ _ _ _ _ _ _ _ _ _ _ _ _ _ _ _ _ _ _ _ _ _ _ _ _ _ _ _ _ _ _ _ _ _ _ _ _ _ hpt HF.out
   ·go_simp
    refine hK.out _ _ (fun h => absurd h (by decide)) ?_
    clear hK K
    try simp only [zA, zB, zC, Act.put, zD, zE, zF]
    refine wpT_two (i := 11) (j := 14) rfl rfl (by kernel_rfl) (fun K hK => ?_) (fun K hK => ?_)
    ·go_simp
     refine hK.out _ _ (fun h => absurd h (by decide)) ?_
     clear hK K
     try simp only [zA, zB, zC, Act.put, zD, zE, zF]
     refine zO 14 fun K hK => ?_
     go_simp
     refine hK.out _ _ (fun h => absurd h (by decide)) ?_
     clear hK K
     try simp only [zA, zB, zC, Act.put, zD, zE, zF]
     refine wpT_done (by kernel_rfl) ?_
     generalize (((((((w7.setCell ⟨g, N0 * 6, none⟩ (.int .i64 2)).setCell ⟨g, N0 * 6 + 1, none⟩ (.string ⟨c.text.toArray⟩)).setCell ⟨g, N0 * 6 + 2, none⟩ (.int .i64 0)).setCell ⟨g, N0 * 6 + 3, none⟩ (.int .i64 0)).setCell ⟨g, N0 * 6 + 4, none⟩ (.string ⟨([] : Str).toArray⟩)).setCell ⟨g, N0 * 6 + 5, none⟩ (.slice none 0 0)).setCell ⟨w.heap.size + 1 + 1, 1, none⟩ (.slice (some ⟨g, 0, none⟩) (N0 + 1) C7)) = wF at HF PBF ⊢
     simp only [Exit.inBlock, Exit.then]
     refine H4.out _ _ ?_
     go_wp2_with fail
     refine H1.out _ _ ?_
     go_step
     rename_i K6 h6
     have H6 := Lib.hid h6
     clear h6
     obtain ⟨p0, p1, p2, p3, p4, p5, p6, p7, p8, p9, p10⟩ := id PBF
     go_wp2_with fail
     refine H6.out _ _ ?_
     go_step
     exact hN.out _ _ _ _ _ _ _ _ _ _ _ _ _ _ _ _ _ _ _ _ _ _ _ _ _ _ _ _ _ _ _ _ _ _ _ _ _ _ _ _ _ _ _ _ _ _ _ _ _ _ _ _ _ _ _ _ _ _ _ _ _ _ _ _ _ _ _ _ _ _ _ _ _ _ _ _ _ _ _ _ _ _ _ _ _ _ _ _ _ _ _ _ _ _ _ _ _ _ _ _ _ _ _ _ _ _ _ _ _ _ _ _ _ _ _ _ _ _ _ _ _ _ _ _ _ _ _ _ _ _ _ _ _ _ _ _ _ _ _ _ _ _ _ _ _ _ _ _ _ _ _ _ _ _ _ _ _ _ _ _ _ _ _ _ _ _ _ _ _ _ _ _ _ _ _ _ _ _ _ _ _ _ _ _ _ _ _ _ _ _ _ _ _ _ _ _ _ _ _ _ _ _ _ _ _ _ _ _ _ _ _ _ _ _ _ _ _ _ _ _ _ _ _ _ _ _ _ _ _ _ _ _ _ _ _ _ _ _ _ _ _ _ _ _ _ _ _ hpt HF.out
    ·go_simp
     refine hK.out _ _ (fun h => absurd h (by decide)) ?_
     clear hK K
     try simp only [zA, zB, zC, Act.put, zD, zE, zF]
     refine zO 11 fun K hK => ?_
     go_simp
     refine hK.out _ _ (fun h => absurd h (by decide)) ?_
     clear hK K
     try simp only [zA, zB, zC, Act.put, zD, zE, zF]
     refine wpT_done (by kernel_rfl) ?_
     rw [show (((((((w7.setCell ⟨w.heap.size + 1 + 1, 1, none⟩ (.slice (some ⟨g, 0, none⟩) (N0 + 1) C7)).setCell ⟨g, N0 * 6, none⟩ (.int .i64 2)).setCell ⟨g, N0 * 6 + 1, none⟩ (.string ⟨c.text.toArray⟩)).setCell ⟨g, N0 * 6 + 2, none⟩ (.int .i64 0)).setCell ⟨g, N0 * 6 + 3, none⟩ (.int .i64 0)).setCell ⟨g, N0 * 6 + 4, none⟩ (.string ⟨([] : Str).toArray⟩)).setCell ⟨g, N0 * 6 + 5, none⟩ (.slice none 0 0)) = (((((((w7.setCell ⟨g, N0 * 6, none⟩ (.int .i64 2)).setCell ⟨g, N0 * 6 + 1, none⟩ (.string ⟨c.text.toArray⟩)).setCell ⟨g, N0 * 6 + 2, none⟩ (.int .i64 0)).setCell ⟨g, N0 * 6 + 3, none⟩ (.int .i64 0)).setCell ⟨g, N0 * 6 + 4, none⟩ (.string ⟨([] : Str).toArray⟩)).setCell ⟨g, N0 * 6 + 5, none⟩ (.slice none 0 0)).setCell ⟨w.heap.size + 1 + 1, 1, none⟩ (.slice (some ⟨g, 0, none⟩) (N0 + 1) C7)) by rw [set_comm _ (a := ⟨w.heap.size + 1 + 1, 1, none⟩) hYg1, set_comm _ (a := ⟨w.heap.size + 1 + 1, 1, none⟩) hYg1, set_comm _ (a := ⟨w.heap.size + 1 + 1, 1, none⟩) hYg1, set_comm _ (a := ⟨w.heap.size + 1 + 1, 1, none⟩) hYg1, set_comm _ (a := ⟨w.heap.size + 1 + 1, 1, none⟩) hYg1, set_comm _ (a := ⟨w.heap.size + 1 + 1, 1, none⟩) hYg1]]
     generalize (((((((w7.setCell ⟨g, N0 * 6, none⟩ (.int .i64 2)).setCell ⟨g, N0 * 6 + 1, none⟩ (.string ⟨c.text.toArray⟩)).setCell ⟨g, N0 * 6 + 2, none⟩ (.int .i64 0)).setCell ⟨g, N0 * 6 + 3, none⟩ (.int .i64 0)).setCell ⟨g, N0 * 6 + 4, none⟩ (.string ⟨([] : Str).toArray⟩)).setCell ⟨g, N0 * 6 + 5, none⟩ (.slice none 0 0)).setCell ⟨w.heap.size + 1 + 1, 1, none⟩ (.slice (some ⟨g, 0, none⟩) (N0 + 1) C7)) = wF at HF PBF ⊢
     simp only [Exit.inBlock, Exit.then]
     refine H4.out _ _ ?_
     go_wp2_with fail
     refine H1.out _ _ ?_
     go_step
     rename_i K6 h6
     have H6 := Lib.hid h6
     clear h6
     obtain ⟨p0, p1, p2, p3, p4, p5, p6, p7, p8, p9, p10⟩ := id PBF
     go_wp2_with fail
     refine H6.out _ _ ?_
     go_step
     exact hN.out _ _ _ _ _ _ _ _ _ _ _ _ _ _ _ _ _ _ _ _ _ _ _ _ _ _ _ _ _ _ _ _ _ _ _ _ _ _ _ _ _ _ _ _ _ _ _ _ _ _ _ _ _ _ _ _ _ _ _ _ _ _ _ _ _ _ _ _ _ _ _ _ _ _ _ _ _ _ _ _ _ _ _ _ _ _ _ _ _ _ _ _ _ _ _ _ _ _ _ _ _ _ _ _ _ _ _ _ _ _ _ _ _ _ _ _ _ _ _ _ _ _ _ _ _ _ _ _ _ _ _ _ _ _ _ _ _ _ _ _ _ _ _ _ _ _ _ _ _ _ _ _ _ _ _ _ _ _ _ _ _ _ _ _ _ _ _ _ _ _ _ _ _ _ _ _ _ _ _ _ _ _ _ _ _ _ _ _ _ _ _ _ _ _ _ _ _ _ _ _ _ _ _ _ _ _ _ _ _ _ _ _ _ _ _ _ _ _ _ _ _ _ _ _ _ _ _ _ _ _ _ _ _ _ _ _ _ _ _ _ _ _ _ _ _ _ _ hpt HF.out
 ·go_simp
  refine hK.out _ _ (fun h => absurd h (by decide)) ?_
  clear hK K
  try simp only [zA, zB, zC, Act.put, zD, zE, zF]
  refine wpT_two (i := 10) (j := 13) rfl rfl (by kernel_rfl) (fun K hK => ?_) (fun K hK => ?_)
  ·go_simp
   refine hK.out _ _ (fun h => absurd h (by decide)) ?_
   clear hK K
   try simp only [zA, zB, zC, Act.put, zD, zE, zF]
   refine wpT_two (i := 11) (j := 13) rfl rfl (by kernel_rfl) (fun K hK => ?_) (fun K hK => ?_)
   ·go_simp
    refine hK.out _ _ (fun h => absurd h (by decide)) ?_
    clear hK K
    try simp only [zA, zB, zC, Act.put, zD, zE, zF]
    refine zO 13 fun K hK => ?_
    go_simp
    refine hK.out _ _ (fun h => absurd h (by decide)) ?_
    clear hK K
    try simp only [zA, zB, zC, Act.put, zD, zE, zF]
    refine zO 14 fun K hK => ?_
    go_simp
    refine hK.out _ _ (fun h => absurd h (by decide)) ?_
    clear hK K
    try simp only [zA, zB, zC, Act.put, zD, zE, zF]
    refine wpT_done (by kernel_rfl) ?_
    generalize (((((((w7.setCell ⟨g, N0 * 6, none⟩ (.int .i64 2)).setCell ⟨g, N0 * 6 + 1, none⟩ (.string ⟨c.text.toArray⟩)).setCell ⟨g, N0 * 6 + 2, none⟩ (.int .i64 0)).setCell ⟨g, N0 * 6 + 3, none⟩ (.int .i64 0)).setCell ⟨g, N0 * 6 + 4, none⟩ (.string ⟨([] : Str).toArray⟩)).setCell ⟨g, N0 * 6 + 5, none⟩ (.slice none 0 0)).setCell ⟨w.heap.size + 1 + 1, 1, none⟩ (.slice (some ⟨g, 0, none⟩) (N0 + 1) C7)) = wF at HF PBF ⊢
    simp only [Exit.inBlock, Exit.then]
    refine H4.out _ _ ?_
    go_wp2_with fail
    refine H1.out _ _ ?_
    go_step
    rename_i K6 h6
    have H6 := Lib.hid h6
    clear h6
    obtain ⟨p0, p1, p2, p3, p4, p5, p6, p7, p8, p9, p10⟩ := id PBF
    go_wp2_with fail
    refine H6.out _ _ ?_
    go_step
    exact hN.out _ _ _ _ _ _ _ _ _ _ _ _ _ _ _ _ _ _ _ _ _ _ _ _ _ _ _ _ _ _ _ _ _ _ _ _ _ _ _ _ _ _ _ _ _ _ _ _ _ _ _ _ _ _ _ _ _ _ _ _ _ _ _ _ _ _ _ _ _ _ _ _ _ _ _ _ _ _ _ _ _ _ _ _ _ _ _ _ _ _ _ _ _ _ _ _ _ _ _ _ _ _ _ _ _ _ _ _ _ _ _ _ _ _ _ _ _ _ _ _ _ _ _ _ _ _ _ _ _ _ _ _ _ _ _ _ _ _ _ _ _ _ _ _ _ _ _ _ _ _ _ _ _ _ _ _ _ _ _ _ _ _ _ _ _ _ _ _ _ _ _ _ _ _ _ _ _ _ _ _ _ _ _ _ _ _ _ _ _ _ _ _ _ _ _ _ _ _ _ _ _ _ _ _ _ _ _ _ _ _ _ _ _ _ _ _ _ _ _ _ _ _ _ _ _ _ _ _ _ _ _ _ _ _ _ _ _ _ _ _ _ _ _ _ _ _ _ hpt HF.out
   ·go_simp
    refine hK.out _ _ (fun h => absurd h (by decide)) ?_
    clear hK K
    try simp only [zA, zB, zC, Act.put, zD, zE, zF]
    refine wpT_two (i := 11) (j := 14) rfl rfl (by kernel_rfl) (fun K hK => ?_) (fun K hK => ?_)
    ·go_simp
     refine hK.out _ _ (fun h => absurd h (by decide)) ?_
     clear hK K
     try simp only [zA, zB, zC, Act.put, zD, zE, zF]
     refine zO 14 fun K hK => ?_
     go_simp
     refine hK.out _ _ (fun h => absurd h (by decide)) ?_
     clear hK K
     try simp only [zA, zB, zC, Act.put, zD, zE, zF]
     refine wpT_done (by kernel_rfl) ?_
     generalize (((((((w7.setCell ⟨g, N0 * 6, none⟩ (.int .i64 2)).setCell ⟨g, N0 * 6 + 1, none⟩ (.string ⟨c.text.toArray⟩)).setCell ⟨g, N0 * 6 + 2, none⟩ (.int .i64 0)).setCell ⟨g, N0 * 6 + 3, none⟩ (.int .i64 0)).setCell ⟨g, N0 * 6 + 4, none⟩ (.string ⟨([] : Str).toArray⟩)).setCell ⟨g, N0 * 6 + 5, none⟩ (.slice none 0 0)).setCell ⟨w.heap.size + 1 + 1, 1, none⟩ (.slice (some ⟨g, 0, none⟩) (N0 + 1) C7)) = wF at HF PBF ⊢
     simp only [Exit.inBlock, Exit.then]
     refine H4.out _ _ ?_
     go_wp2_with fail
     refine H1.out _ _ ?_
     go_step
     rename_i K6 h6
     have H6 := Lib.hid h6
     clear h6
     obtain ⟨p0, p1, p2, p3, p4, p5, p6, p7, p8, p9, p10⟩ := id PBF
     go_wp2_with fail
     refine H6.out _ _ ?_
     go_step
     exact hN.out _ _ _ _ _ _ _ _ _ _ _ _ _ _ _ _ _ _ _ _ _ _ _ _ _ _ _ _ _ _ _ _ _ _ _ _ _ _ _ _ _ _ _ _ _ _ _ _ _ _ _ _ _ _ _ _ _ _ _ _ _ _ _ _ _ _ _ _ _ _ _ _ _ _ _ _ _ _ _ _ _ _ _ _ _ _ _ _ _ _ _ _ _ _ _ _ _ _ _ _ _ _ _ _ _ _ _ _ _ _ _ _ _ _ _ _ _ _ _ _ _ _ _ _ _ _ _ _ _ _ _ _ _ _ _ _ _ _ _ _ _ _ _ _ _ _ _ _ _ _ _ _ _ _ _ _ _ _ _ _ _ _ _ _ _ _ _ _ _ _ _ _ _ _ _ _ _ _ _ _ _ _ _ _ _ _ _ _ _ _ _ _ _ _ _ _ _ _ _ _ _ _ _ _ _ _ _ _ _ _ _ _ _ _ _ _ _ _ _ _ _ _ _ _ _ _ _ _ _ _ _ _ _ _ _ _ _ _ _ _ _ _ _ _ _ _ _ hpt HF.out
    ·go_simp
     refine hK.out _ _ (fun h => absurd h (by decide)) ?_
     clear hK K
     try simp only [zA, zB, zC, Act.put, zD, zE, zF]
     refine zO 11 fun K hK => ?_
     go_simp
     refine hK.out _ _ (fun h => absurd h (by decide)) ?_
     clear hK K
     try simp only [zA, zB, zC, Act.put, zD, zE, zF]
     refine wpT_done (by kernel_rfl) ?_
     rw [show (((((((w7.setCell ⟨w.heap.size + 1 + 1, 1, none⟩ (.slice (some ⟨g, 0, none⟩) (N0 + 1) C7)).setCell ⟨g, N0 * 6, none⟩ (.int .i64 2)).setCell ⟨g, N0 * 6 + 1, none⟩ (.string ⟨c.text.toArray⟩)).setCell ⟨g, N0 * 6 + 2, none⟩ (.int .i64 0)).setCell ⟨g, N0 * 6 + 3, none⟩ (.int .i64 0)).setCell ⟨g, N0 * 6 + 4, none⟩ (.string ⟨([] : Str).toArray⟩)).setCell ⟨g, N0 * 6 + 5, none⟩ (.slice none 0 0)) = (((((((w7.setCell ⟨g, N0 * 6, none⟩ (.int .i64 2)).setCell ⟨g, N0 * 6 + 1, none⟩ (.string ⟨c.text.toArray⟩)).setCell ⟨g, N0 * 6 + 2, none⟩ (.int .i64 0)).setCell ⟨g, N0 * 6 + 3, none⟩ (.int .i64 0)).setCell ⟨g, N0 * 6 + 4, none⟩ (.string ⟨([] : Str).toArray⟩)).setCell ⟨g, N0 * 6 + 5, none⟩ (.slice none 0 0)).setCell ⟨w.heap.size + 1 + 1, 1, none⟩ (.slice (some ⟨g, 0, none⟩) (N0 + 1) C7)) by rw [set_comm _ (a := ⟨w.heap.size + 1 + 1, 1, none⟩) hYg1, set_comm _ (a := ⟨w.heap.size + 1 + 1, 1, none⟩) hYg1, set_comm _ (a := ⟨w.heap.size + 1 + 1, 1, none⟩) hYg1, set_comm _ (a := ⟨w.heap.size + 1 + 1, 1, none⟩) hYg1, set_comm _ (a := ⟨w.heap.size + 1 + 1, 1, none⟩) hYg1, set_comm _ (a := ⟨w.heap.size + 1 + 1, 1, none⟩) hYg1]]
     generalize (((((((w7.setCell ⟨g, N0 * 6, none⟩ (.int .i64 2)).setCell ⟨g, N0 * 6 + 1, none⟩ (.string ⟨c.text.toArray⟩)).setCell ⟨g, N0 * 6 + 2, none⟩ (.int .i64 0)).setCell ⟨g, N0 * 6 + 3, none⟩ (.int .i64 0)).setCell ⟨g, N0 * 6 + 4, none⟩ (.string ⟨([] : Str).toArray⟩)).setCell ⟨g, N0 * 6 + 5, none⟩ (.slice none 0 0)).setCell ⟨w.heap.size + 1 + 1, 1, none⟩ (.slice (some ⟨g, 0, none⟩) (N0 + 1) C7)) = wF at HF PBF ⊢
     simp only [Exit.inBlock, Exit.then]
     refine H4.out _ _ ?_
     go_wp2_with fail
     refine H1.out _ _ ?_
     go_step
     rename_i K6 h6
     have H6 := Lib.hid h6
     clear h6
     obtain ⟨p0, p1, p2, p3, p4, p5, p6, p7, p8, p9, p10⟩ := id PBF
     go_wp2_with fail
     refine H6.out _ _ ?_
     go_step
     exact hN.out _ _ _ _ _ _ _ _ _ _ _ _ _ _ _ _ _ _ _ _ _ _ _ _ _ _ _ _ _ _ _ _ _ _ _ _ _ _ _ _ _ _ _ _ _ _ _ _ _ _ _ _ _ _ _ _ _ _ _ _ _ _ _ _ _ _ _ _ _ _ _ _ _ _ _ _ _ _ _ _ _ _ _ _ _ _ _ _ _ _ _ _ _ _ _ _ _ _ _ _ _ _ _ _ _ _ _ _ _ _ _ _ _ _ _ _ _ _ _ _ _ _ _ _ _ _ _ _ _ _ _ _ _ _ _ _ _ _ _ _ _ _ _ _ _ _ _ _ _ _ _ _ _ _ _ _ _ _ _ _ _ _ _ _ _ _ _ _ _ _ _ _ _ _ _ _ _ _ _ _ _ _ _ _ _ _ _ _ _ _ _ _ _ _ _ _ _ _ _ _ _ _ _ _ _ _ _ _ _ _ _ _ _ _ _ _ _ _ _ _ _ _ _ _ _ _ _ _ _ _ _ _ _ _ _ _ _ _ _ _ _ _ _ _ _ _ _ hpt HF.out
  ·go_simp
   refine hK.out _ _ (fun h => absurd h (by decide)) ?_
   clear hK K
   try simp only [zA, zB, zC, Act.put, zD, zE, zF]
   refine wpT_two (i := 10) (j := 14) rfl rfl (by kernel_rfl) (fun K hK => ?_) (fun K hK => ?_)
   ·go_simp
    refine hK.out _ _ (fun h => absurd h (by decide)) ?_
    clear hK K
    try simp only [zA, zB, zC, Act.put, zD, zE, zF]
    refine wpT_two (i := 11) (j := 14) rfl rfl (by kernel_rfl) (fun K hK => ?_) (fun K hK => ?_)
    ·go_simp
     refine hK.out _ _ (fun h => absurd h (by decide)) ?_
     clear hK K
     try simp only [zA, zB, zC, Act.put, zD, zE, zF]
     refine zO 14 fun K hK => ?_
     go_simp
     refine hK.out _ _ (fun h => absurd h (by decide)) ?_
     clear hK K
     try simp only [zA, zB, zC, Act.put, zD, zE, zF]
     refine wpT_done (by kernel_rfl) ?_
     generalize (((((((w7.setCell ⟨g, N0 * 6, none⟩ (.int .i64 2)).setCell ⟨g, N0 * 6 + 1, none⟩ (.string ⟨c.text.toArray⟩)).setCell ⟨g, N0 * 6 + 2, none⟩ (.int .i64 0)).setCell ⟨g, N0 * 6 + 3, none⟩ (.int .i64 0)).setCell ⟨g, N0 * 6 + 4, none⟩ (.string ⟨([] : Str).toArray⟩)).setCell ⟨g, N0 * 6 + 5, none⟩ (.slice none 0 0)).setCell ⟨w.heap.size + 1 + 1, 1, none⟩ (.slice (some ⟨g, 0, none⟩) (N0 + 1) C7)) = wF at HF PBF ⊢
     simp only [Exit.inBlock, Exit.then]
     refine H4.out _ _ ?_
     go_wp2_with fail
     refine H1.out _ _ ?_
     go_step
     rename_i K6 h6
     have H6 := Lib.hid h6
     clear h6
     obtain ⟨p0, p1, p2, p3, p4, p5, p6, p7, p8, p9, p10⟩ := id PBF
     go_wp2_with fail
     refine H6.out _ _ ?_
     go_step
     exact hN.out _ _ _ _ _ _ _ _ _ _ _ _ _ _ _ _ _ _ _ _ _ _ _ _ _ _ _ _ _ _ _ _ _ _ _ _ _ _ _ _ _ _ _ _ _ _ _ _ _ _ _ _ _ _ _ _ _ _ _ _ _ _ _ _ _ _ _ _ _ _ _ _ _ _ _ _ _ _ _ _ _ _ _ _ _ _ _ _ _ _ _ _ _ _ _ _ _ _ _ _ _ _ _ _ _ _ _ _ _ _ _ _ _ _ _ _ _ _ _ _ _ _ _ _ _ _ _ _ _ _ _ _ _ _ _ _ _ _ _ _ _ _ _ _ _ _ _ _ _ _ _ _ _ _ _ _ _ _ _ _ _ _ _ _ _ _ _ _ _ _ _ _ _ _ _ _ _ _ _ _ _ _ _ _ _ _ _ _ _ _ _ _ _ _ _ _ _ _ _ _ _ _ _ _ _ _ _ _ _ _ _ _ _ _ _ _ _ _ _ _ _ _ _ _ _ _ _ _ _ _ _ _ _ _ _ _ _ _ _ _ _ _ _ _ _ _ _ hpt HF.out
    ·go_simp
     refine hK.out _ _ (fun h => absurd h (by decide)) ?_
     clear hK K
     try simp only [zA, zB, zC, Act.put, zD, zE, zF]
     refine zO 11 fun K hK => ?_
     go_simp
     refine hK.out _ _ (fun h => absurd h (by decide)) ?_
     clear hK K
     try simp only [zA, zB, zC, Act.put, zD, zE, zF]
     refine wpT_done (by kernel_rfl) ?_
     rw [show (((((((w7.setCell ⟨w.heap.size + 1 + 1, 1, none⟩ (.slice (some ⟨g, 0, none⟩) (N0 + 1) C7)).setCell ⟨g, N0 * 6, none⟩ (.int .i64 2)).setCell ⟨g, N0 * 6 + 1, none⟩ (.string ⟨c.text.toArray⟩)).setCell ⟨g, N0 * 6 + 2, none⟩ (.int .i64 0)).setCell ⟨g, N0 * 6 + 3, none⟩ (.int .i64 0)).setCell ⟨g, N0 * 6 + 4, none⟩ (.string ⟨([] : Str).toArray⟩)).setCell ⟨g, N0 * 6 + 5, none⟩ (.slice none 0 0)) = (((((((w7.setCell ⟨g, N0 * 6, none⟩ (.int .i64 2)).setCell ⟨g, N0 * 6 + 1, none⟩ (.string ⟨c.text.toArray⟩)).setCell ⟨g, N0 * 6 + 2, none⟩ (.int .i64 0)).setCell ⟨g, N0 * 6 + 3, none⟩ (.int .i64 0)).setCell ⟨g, N0 * 6 + 4, none⟩ (.string ⟨([] : Str).toArray⟩)).setCell ⟨g, N0 * 6 + 5, none⟩ (.slice none 0 0)).setCell ⟨w.heap.size + 1 + 1, 1, none⟩ (.slice (some ⟨g, 0, none⟩) (N0 + 1) C7)) by rw [set_comm _ (a := ⟨w.heap.size + 1 + 1, 1, none⟩) hYg1, set_comm _ (a := ⟨w.heap.size + 1 + 1, 1, none⟩) hYg1, set_comm _ (a := ⟨w.heap.size + 1 + 1, 1, none⟩) hYg1, set_comm _ (a := ⟨w.heap.size + 1 + 1, 1, none⟩) hYg1, set_comm _ (a := ⟨w.heap.size + 1 + 1, 1, none⟩) hYg1, set_comm _ (a := ⟨w.heap.size + 1 + 1, 1, none⟩) hYg1]]
     generalize (((((((w7.setCell ⟨g, N0 * 6, none⟩ (.int .i64 2)).setCell ⟨g, N0 * 6 + 1, none⟩ (.string ⟨c.text.toArray⟩)).setCell ⟨g, N0 * 6 + 2, none⟩ (.int .i64 0)).setCell ⟨g, N0 * 6 + 3, none⟩ (.int .i64 0)).setCell ⟨g, N0 * 6 + 4, none⟩ (.string ⟨([] : Str).toArray⟩)).setCell ⟨g, N0 * 6 + 5, none⟩ (.slice none 0 0)).setCell ⟨w.heap.size + 1 + 1, 1, none⟩ (.slice (some ⟨g, 0, none⟩) (N0 + 1) C7)) = wF at HF PBF ⊢
     simp only [Exit.inBlock, Exit.then]
     refine H4.out _ _ ?_
     go_wp2_with fail
     refine H1.out _ _ ?_
     go_step
     rename_i K6 h6
     have H6 := Lib.hid h6
     clear h6
     obtain ⟨p0, p1, p2, p3, p4, p5, p6, p7, p8, p9, p10⟩ := id PBF
     go_wp2_with fail
     refine H6.out _ _ ?_
     go_step
     exact hN.out _ _ _ _ _ _ _ _ _ _ _ _ _ _ _ _ _ _ _ _ _ _ _ _ _ _ _ _ _ _ _ _ _ _ _ _ _ _ _ _ _ _ _ _ _ _ _ _ _ _ _ _ _ _ _ _ _ _ _ _ _ _ _ _ _ _ _ _ _ _ _ _ _ _ _ _ _ _ _ _ _ _ _ _ _ _ _ _ _ _ _ _ _ _ _ _ _ _ _ _ _ _ _ _ _ _ _ _ _ _ _ _ _ _ _ _ _ _ _ _ _ _ _ _ _ _ _ _ _ _ _ _ _ _ _ _ _ _ _ _ _ _ _ _ _ _ _ _ _ _ _ _ _ _ _ _ _ _ _ _ _ _ _ _ _ _ _ _ _ _ _ _ _ _ _ _ _ _ _ _ _ _ _ _ _ _ _ _ _ _ _ _ _ _ _ _ _ _ _ _ _ _ _ _ _ _ _ _ _ _ _ _ _ _ _ _ _ _ _ _ _ _ _ _ _ _ _ _ _ _ _ _ _ _ _ _ _ _ _ _ _ _ _ _ _ _ _ hpt HF.out
   ·go_simp
    refine hK.out _ _ (fun h => absurd h (by decide)) ?_
    clear hK K
    try simp only [zA, zB, zC, Act.put, zD, zE, zF]
    refine zO 10 fun K hK => ?_
    go_simp
    refine hK.out _ _ (fun h => absurd h (by decide)) ?_
    clear hK K
    try simp only [zA, zB, zC, Act.put, zD, zE, zF]
    refine zO 11 fun K hK => ?_
    go_simp
    refine hK.out _ _ (fun h => absurd h (by decide)) ?_
    clear hK K
    try simp only [zA, zB, zC, Act.put, zD, zE, zF]
    refine wpT_done (by kernel_rfl) ?_
    rw [show (((((((w7.setCell ⟨w.heap.size + 1 + 1, 1, none⟩ (.slice (some ⟨g, 0, none⟩) (N0 + 1) C7)).setCell ⟨g, N0 * 6, none⟩ (.int .i64 2)).setCell ⟨g, N0 * 6 + 1, none⟩ (.string ⟨c.text.toArray⟩)).setCell ⟨g, N0 * 6 + 2, none⟩ (.int .i64 0)).setCell ⟨g, N0 * 6 + 3, none⟩ (.int .i64 0)).setCell ⟨g, N0 * 6 + 4, none⟩ (.string ⟨([] : Str).toArray⟩)).setCell ⟨g, N0 * 6 + 5, none⟩ (.slice none 0 0)) = (((((((w7.setCell ⟨g, N0 * 6, none⟩ (.int .i64 2)).setCell ⟨g, N0 * 6 + 1, none⟩ (.string ⟨c.text.toArray⟩)).setCell ⟨g, N0 * 6 + 2, none⟩ (.int .i64 0)).setCell ⟨g, N0 * 6 + 3, none⟩ (.int .i64 0)).setCell ⟨g, N0 * 6 + 4, none⟩ (.string ⟨([] : Str).toArray⟩)).setCell ⟨g, N0 * 6 + 5, none⟩ (.slice none 0 0)).setCell ⟨w.heap.size + 1 + 1, 1, none⟩ (.slice (some ⟨g, 0, none⟩) (N0 + 1) C7)) by rw [set_comm _ (a := ⟨w.heap.size + 1 + 1, 1, none⟩) hYg1, set_comm _ (a := ⟨w.heap.size + 1 + 1, 1, none⟩) hYg1, set_comm _ (a := ⟨w.heap.size + 1 + 1, 1, none⟩) hYg1, set_comm _ (a := ⟨w.heap.size + 1 + 1, 1, none⟩) hYg1, set_comm _ (a := ⟨w.heap.size + 1 + 1, 1, none⟩) hYg1, set_comm _ (a := ⟨w.heap.size + 1 + 1, 1, none⟩) hYg1]]
    generalize (((((((w7.setCell ⟨g, N0 * 6, none⟩ (.int .i64 2)).setCell ⟨g, N0 * 6 + 1, none⟩ (.string ⟨c.text.toArray⟩)).setCell ⟨g, N0 * 6 + 2, none⟩ (.int .i64 0)).setCell ⟨g, N0 * 6 + 3, none⟩ (.int .i64 0)).setCell ⟨g, N0 * 6 + 4, none⟩ (.string ⟨([] : Str).toArray⟩)).setCell ⟨g, N0 * 6 + 5, none⟩ (.slice none 0 0)).setCell ⟨w.heap.size + 1 + 1, 1, none⟩ (.slice (some ⟨g, 0, none⟩) (N0 + 1) C7)) = wF at HF PBF ⊢
    simp only [Exit.inBlock, Exit.then]
    refine H4.out _ _ ?_
    go_wp2_with fail
    refine H1.out _ _ ?_
    go_step
    rename_i K6 h6
    have H6 := Lib.hid h6
    clear h6
    obtain ⟨p0, p1, p2, p3, p4, p5, p6, p7, p8, p9, p10⟩ := id PBF
    go_wp2_with fail
    refine H6.out _ _ ?_
    go_step
    exact hN.out _ _ _ _ _ _ _ _ _ _ _ _ _ _ _ _ _ _ _ _ _ _ _ _ _ _ _ _ _ _ _ _ _ _ _ _ _ _ _ _ _ _ _ _ _ _ _ _ _ _ _ _ _ _ _ _ _ _ _ _ _ _ _ _ _ _ _ _ _ _ _ _ _ _ _ _ _ _ _ _ _ _ _ _ _ _ _ _ _ _ _ _ _ _ _ _ _ _ _ _ _ _ _ _ _ _ _ _ _ _ _ _ _ _ _ _ _ _ _ _ _ _ _ _ _ _ _ _ _ _ _ _ _ _ _ _ _ _ _ _ _ _ _ _ _ _ _ _ _ _ _ _ _ _ _ _ _ _ _ _ _ _ _ _ _ _ _ _ _ _ _ _ _ _ _ _ _ _ _ _ _ _ _ _ _ _ _ _ _ _ _ _ _ _ _ _ _ _ _ _ _ _ _ _ _ _ _ _ _ _ _ _ _ _ _ _ _ _ _ _ _ _ _ _ _ _ _ _ _ _ _ _ _ _ _ _ _ _ _ _ _ _ _ _ _ _ _ hpt HF.out
set_option maxRecDepth 100000
theorem PcBox.same {w w' : World} {b : Nat} {c : Pc} (h : PcBox w b c) (hb : w'.heap[b]? = w.heap[b]?) (hs : w.heap.size ≤ w'.heap.size) : PcBox w' b c := by
 have hc : ∀ j, w'.cell? ⟨b, j, none⟩ = w.cell? ⟨b, j, none⟩ := fun j => World.cell?_of_block (a := ⟨b, j, none⟩) hb
 exact ⟨(hc 0).trans h.c0, (hc 1).trans h.c1, (hc 2).trans h.c2, (hc 3).trans h.c3, (hc 4).trans h.c4, (hc 5).trans h.c5, (hc 6).trans h.c6, (hc 7).trans h.c7, (hc 8).trans h.c8, fun j => (World.frozen?_of_block (a := ⟨b, j, none⟩) hb).trans (h.fr j), Nat.lt_of_lt_of_le h.lt hs⟩
structure YW (w wr : World) (n P : Nat) (c : Pc) (ops : List Yd.Op) (vals : List Ex) (ov vv : Value) (xs : List Value) : Prop where
 bi : Yd.nBi ops + 1 = vals.length
 br : Yd.nBr ops = n
 ok : ∀ o ∈ ops, OpOk o
 sz : ops.length + vals.length ≤ 2000
 yd : Yard wr (w.heap.size + 1 + 1 + 1) (w.heap.size + 1 + 1) ov vv ((ops.map opStr).reverse) xs vals.reverse
 xb : ExBox wr w.heap.size zeroEx (.slice none 0 0)
 f0 : wr.cell? ⟨w.heap.size + 1, 0, none⟩ = some (.int .i64 0)
 f1 : wr.cell? ⟨w.heap.size + 1, 1, none⟩ = some (.int .i64 0)
 fz : ∀ j, wr.frozen? ⟨w.heap.size + 1, j, none⟩ = false
 bl : Below w.heap.size w wr
 pb : PcBox wr P c
 hP : w.heap.size + 1 + 1 + 1 ≤ P
 po : some P ≠ ov.ownBlock
 pv : some P ≠ vv.ownBlock
theorem YW.step {w wr w' : World} {n P : Nat} {c : Pc} {o : Yd.Op} {ops : List Yd.Op} {vals vals' : List Ex} {ov vv ov' vv' : Value} {xs xs' : List Value} (h : YW w wr n P c (o :: ops) vals ov vv xs) (hb : o ≠ .br) (hbi : Yd.nBi ops + 1 = vals'.length) (hl : vals'.length ≤ vals.length)
  (yd : Yard w' (w.heap.size + 1 + 1 + 1) (w.heap.size + 1 + 1) ov' vv' ((ops.map opStr).reverse) xs' vals'.reverse) (st : YStep wr w' (w.heap.size + 1 + 1) ov vv ov' vv') : YW w w' n P c ops vals' ov' vv' xs' := by
 have hPl := h.pb.lt
 have hPh := h.hP
 have hbr : Yd.nBr ops = n := by
  have := h.br
  cases o with
  | br => exact absurd rfl hb
  | un u => exact this
  | bi o k => exact this
 refine ⟨hbi, hbr, fun x hx => h.ok x (List.mem_cons_of_mem _ hx), by have := h.sz; simp only [List.length_cons] at this; omega, yd, h.xb.keep st.bl (by omega), (st.bl.cell (p := ⟨w.heap.size + 1, 0, none⟩) (by show w.heap.size + 1 < _; omega)).trans h.f0, (st.bl.cell (p := ⟨w.heap.size + 1, 1, none⟩) (by show w.heap.size + 1 < _; omega)).trans h.f1, fun j => (st.bl.frozen (p := ⟨w.heap.size + 1, j, none⟩) (by show w.heap.size + 1 < _; omega)).trans (h.fz j), h.bl.trans (st.bl.mono (by omega)), h.pb.same (st.sm P hPl (by omega) h.po h.pv) st.bl.size, h.hP, ?_, ?_⟩
 ·rcases st.o with e | ⟨m, e, hm⟩
  ·rw [e]; exact h.po
  ·rw [e]; intro e2; have := Option.some.inj e2; omega
 ·rcases st.v with e | ⟨m, e, hm⟩
  ·rw [e]; exact h.pv
  ·rw [e]; intro e2; have := Option.some.inj e2; omega
theorem YW.reduce {w wr : World} {n P : Nat} {c : Pc} {o : Yd.Op} {ops : List Yd.Op} {vals : List Ex} {ov vv : Value} {xs : List Value} (h : YW w wr n P c (o :: ops) vals ov vv xs) (hb : o ≠ .br) :
  Calls Tryz.prog 59 #[.pointer (some ⟨w.heap.size + 1 + 1, 0, none⟩)] wr fun e w' => e = .returned (.tuple #[]) ∧ ∃ ov' vv' xs', YW w w' n P c ops (Yd.red1 unX biX o vals) ov' vv' xs' := by
 have hok := h.ok o (List.mem_cons_self ..)
 have hsz := h.sz
 have hbi := h.bi
 have hyd := h.yd
 simp only [List.length_cons] at hsz
 rw [List.map_cons, List.reverse_cons] at hyd
 have hlo := lone_op hok hb
 have hrl := Yd.red1_len (un := unX) (bi := biX) hb hbi.symm
 cases o with
 | br => exact absurd rfl hb
 | un u =>
  cases vals with
  | nil => simp only [Yd.nBi, List.length_nil] at hbi; omega
  | cons x r =>
   rw [List.reverse_cons] at hyd
   refine (reduce_any wr _ _ ov vv _ _ xs r.reverse [x] hyd 1 rfl (Nat.le_refl _) (by omega) hlo (by rw [List.length_reverse, List.length_map]; omega) (by rw [List.length_reverse]; simp only [List.length_cons] at hsz; omega)).mono ?_
   rintro e w' ⟨rfl, ov', vv', xs', hY', st⟩
   exact ⟨rfl, ov', vv', xs', h.step hb hrl.symm (by simp [Yd.red1]) (by show Yard _ _ _ _ _ _ _ (unX u x :: r).reverse; rw [List.reverse_cons]; exact hY') st⟩
 | bi s k =>
  match vals, hbi, hyd, hsz, hrl with
  | [], hbi, _, _, _ => simp only [Yd.nBi, List.length_nil] at hbi; omega
  | [x], hbi, _, _, _ => simp only [Yd.nBi, List.length_cons, List.length_nil] at hbi; omega
  | y :: x :: r, hbi, hyd, hsz, hrl =>
   rw [List.reverse_cons, List.reverse_cons, List.append_assoc] at hyd
   refine (reduce_any wr _ _ ov vv _ _ xs r.reverse [x, y] hyd 2 rfl (by omega) (Nat.le_refl _) hlo (by rw [List.length_reverse, List.length_map]; omega) (by rw [List.length_reverse]; simp only [List.length_cons] at hsz; omega)).mono ?_
   rintro e w' ⟨rfl, ov', vv', xs', hY', st⟩
   exact ⟨rfl, ov', vv', xs', h.step hb hrl.symm (by simp [Yd.red1]) (by show Yard _ _ _ _ _ _ _ (biX s x y :: r).reverse; rw [List.reverse_cons]; exact hY') st⟩
end Go.Proofs.YtpidjanngbaiiaaGreatDoor
