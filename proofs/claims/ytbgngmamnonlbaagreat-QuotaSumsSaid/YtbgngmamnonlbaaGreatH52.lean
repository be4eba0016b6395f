/- Several texts in one: SmR, SmT. -/
import Derived.Test.YtbgngmamnonlbaaGreatH50
import Derived.Test.YtbgngmamnonlbaaGreatH51
namespace Go.Proofs.YtbgngmamnonlbaaGreat
open Go.RowKit
set_option linter.unusedSimpArgs false
set_option linter.unusedVariables false
set_option maxRecDepth 100000
theorem spell232 (T : Array Value) (h : T.size = 232) : ∃ f : Nat → Value, (∀ k, f k = T.getD k undef) ∧ T = #[f 0, f 1, f 2, f 3, f 4, f 5, f 6, f 7, f 8, f 9, f 10, f 11, f 12, f 13, f 14, f 15, f 16, f 17, f 18, f 19, f 20, f 21, f 22, f 23, f 24, f 25, f 26, f 27, f 28, f 29, f 30, f 31, f 32, f 33, f 34, f 35, f 36, f 37, f 38, f 39, f 40, f 41, f 42, f 43, f 44, f 45, f 46, f 47, f 48, f 49, f 50, f 51, f 52, f 53, f 54, f 55, f 56, f 57, f 58, f 59, f 60, f 61, f 62, f 63, f 64, f 65, f 66, f 67, f 68, f 69, f 70, f 71, f 72, f 73, f 74, f 75, f 76, f 77, f 78, f 79, f 80, f 81, f 82, f 83, f 84, f 85, f 86, f 87, f 88, f 89, f 90, f 91, f 92, f 93, f 94, f 95, f 96, f 97, f 98, f 99, f 100, f 101, f 102, f 103, f 104, f 105, f 106, f 107, f 108, f 109, f 110, f 111, f 112, f 113, f 114, f 115, f 116, f 117, f 118, f 119, f 120, f 121, f 122, f 123, f 124, f 125, f 126, f 127, f 128, f 129, f 130, f 131, f 132, f 133, f 134, f 135, f 136, f 137, f 138, f 139, f 140, f 141, f 142, f 143, f 144, f 145, f 146, f 147, f 148, f 149, f 150, f 151, f 152, f 153, f 154, f 155, f 156, f 157, f 158, f 159, f 160, f 161, f 162, f 163, f 164, f 165, f 166, f 167, f 168, f 169, f 170, f 171, f 172, f 173, f 174, f 175, f 176, f 177, f 178, f 179, f 180, f 181, f 182, f 183, f 184, f 185, f 186, f 187, f 188, f 189, f 190, f 191, f 192, f 193, f 194, f 195, f 196, f 197, f 198, f 199, f 200, f 201, f 202, f 203, f 204, f 205, f 206, f 207, f 208, f 209, f 210, f 211, f 212, f 213, f 214, f 215, f 216, f 217, f 218, f 219, f 220, f 221, f 222, f 223, f 224, f 225, f 226, f 227, f 228, f 229, f 230, f 231] := ⟨fun k => T.getD k undef, fun _ => rfl, (spell 232 T h).trans (by kernel_rfl)⟩
noncomputable def sm21a_rows (b1 o1 n cc g9 t j : Nat) (pp : Int) : List SRow := [
 ⟨Op.move (Operand.tmp 15), some 94, none, [], fun v _ => v = .int .i64 (t : Int)⟩,
 ⟨Op.binOp BinOp.lss 3 (Operand.tmp 94) (Operand.const (Value.int IntKind.i64 0)) 3, some 95, none, [0], fun v _ => v = .bool false⟩,
 ⟨Op.move (Operand.tmp 95), some 96, none, [1], fun v _ => v = .bool false⟩,
 ⟨Op.move (Operand.tmp 15), some 97, some (2, false), [2], fun v _ => v = .int .i64 (t : Int)⟩,
 ⟨Op.move (Operand.tmp 5), some 98, some (2, false), [2], fun v _ => v = .slice (some ⟨b1, o1, none⟩) n cc⟩,
 ⟨Op.call { callee := Callee.builtin Builtin.len, args := #[Operand.tmp 98], argTypes := #[27] }, some 99, some (2, false), [4, 2], fun v _ => v = .int .i64 (n : Int)⟩,
 ⟨Op.binOp BinOp.geq 3 (Operand.tmp 97) (Operand.tmp 99) 3, some 100, some (2, false), [3, 5, 2], fun v _ => v = .bool false⟩,
 ⟨Op.pick (Operand.tmp 96) (Operand.const (Value.bool true)) (Operand.tmp 100), some 101, none, [2, 6], fun v _ => v = .bool false⟩,
 ⟨Op.move (Operand.tmp 101), some 102, none, [7, 2], fun v _ => v = .bool false⟩,
 ⟨Op.move (Operand.tmp 5), some 103, some (8, false), [8], fun v _ => v = .slice (some ⟨b1, o1, none⟩) n cc⟩,
 ⟨Op.move (Operand.tmp 15), some 104, some (8, false), [8], fun v _ => v = .int .i64 (t : Int)⟩,
 ⟨Op.indexAddr 27 (Operand.tmp 103) (Operand.tmp 104), some 105, some (8, false), [9, 10, 8], fun v _ => v = .pointer (some ⟨b1, o1 + t, none⟩)⟩,
 ⟨Op.load 3 (Operand.tmp 105), some 106, some (8, false), [11, 8], fun v _ => v = .int .i64 pp⟩,
 ⟨Op.binOp BinOp.eql 3 (Operand.tmp 106) (Operand.const (Value.int IntKind.i64 0)) 3, some 107, some (8, false), [12, 8], fun v _ => v = .bool false⟩,
 ⟨Op.pick (Operand.tmp 102) (Operand.const (Value.bool true)) (Operand.tmp 107), some 108, none, [8, 13], fun v _ => v = .bool false⟩,
 ⟨Op.move (Operand.tmp 108), some 109, none, [14, 8], fun v _ => v = .bool false⟩,
 ⟨Op.move (Operand.tmp 14), some 110, some (15, false), [15], fun v _ => v = .int .i64 (j : Int)⟩,
 ⟨Op.binOp BinOp.gtr 3 (Operand.tmp 110) (Operand.const (Value.int IntKind.i64 0)) 3, some 111, some (15, false), [16, 15], fun v _ => v = .bool false⟩,
 ⟨Op.move (Operand.tmp 111), some 112, some (15, false), [17, 15, 15], fun v _ => v = .bool false⟩,
 ⟨Op.move (Operand.tmp 15), some 113, some (18, true), [18], fun v _ => v = undef⟩,
 ⟨Op.fieldAddr 54 (Operand.tmp 9) 1, some 114, some (18, true), [18], fun v _ => v = undef⟩,
 ⟨Op.load 27 (Operand.tmp 114), some 115, some (18, true), [20, 18], fun v _ => v = undef⟩,
 ⟨Op.move (Operand.tmp 14), some 116, some (18, true), [18], fun v _ => v = undef⟩,
 ⟨Op.binOp BinOp.sub 3 (Operand.tmp 116) (Operand.const (Value.int IntKind.i64 1)) 3, some 117, some (18, true), [22, 18], fun v _ => v = undef⟩,
 ⟨Op.indexAddr 27 (Operand.tmp 115) (Operand.tmp 117), some 118, some (18, true), [21, 23, 18], fun v _ => v = undef⟩,
 ⟨Op.load 3 (Operand.tmp 118), some 119, some (18, true), [24, 18], fun v _ => v = undef⟩,
 ⟨Op.binOp BinOp.leq 3 (Operand.tmp 113) (Operand.tmp 119) 3, some 120, some (18, true), [19, 25, 18], fun v _ => v = undef⟩,
 ⟨Op.pick (Operand.tmp 112) (Operand.tmp 120) (Operand.const (Value.bool false)), some 121, some (15, false), [18, 26, 15], fun v _ => v = .bool false⟩,
 ⟨Op.pick (Operand.tmp 109) (Operand.const (Value.bool true)) (Operand.tmp 121), some 122, none, [15, 27], fun v _ => v = .bool false⟩]
noncomputable def sm21a_base (b1 o1 n cc g9 t j : Nat) (pp : Int) (v0 v1 v2 v3 v4 v6 v7 v8 v10 v11 v12 v13 v16 v17 v18 v19 v20 v21 v22 v23 v24 v25 v26 v27 v28 v29 v30 v31 v32 v33 v34 v35 v36 v37 v38 v39 v40 v41 v42 v43 v44 v45 v46 v47 v48 v49 v50 v51 v52 v53 v54 v55 v56 v57 v58 v59 v60 v61 v62 v63 v64 v65 v66 v67 v68 v69 v70 v71 v72 v73 v74 v75 v76 v77 v78 v79 v80 v81 v82 v83 v84 v85 v86 v87 v88 v89 v90 v91 v92 v93 v123 v124 v125 v126 v127 v128 v129 v130 v131 v132 v133 v134 v135 v136 v137 v138 v139 v140 v141 v142 v143 v144 v145 v146 v147 v148 v149 v150 v151 v152 v153 v154 v155 v156 v157 v158 v159 v160 v161 v162 v163 v164 v165 v166 v167 v168 v169 v170 v171 v172 v173 v174 v175 v176 v177 v178 v179 v180 v181 v182 v183 v184 v185 v186 v187 v188 v189 v190 v191 v192 v193 v194 v195 v196 v197 v198 v199 v200 v201 v202 v203 v204 v205 v206 v207 v208 v209 v210 v211 v212 v213 v214 v215 v216 v217 v218 v219 v220 v221 v222 v223 v224 v225 v226 v227 v228 v229 v230 v231 : Value) : List (Nat × Value) := [(5, .slice (some ⟨b1, o1, none⟩) n cc), (9, .pointer (some ⟨g9, 0, none⟩)), (14, .int .i64 (j : Int)), (15, .int .i64 (t : Int)), (0, v0), (1, v1), (2, v2), (3, v3), (4, v4), (6, v6), (7, v7), (8, v8), (10, v10), (11, v11), (12, v12), (13, v13), (16, v16), (17, v17), (18, v18), (19, v19), (20, v20), (21, v21), (22, v22), (23, v23), (24, v24), (25, v25), (26, v26), (27, v27), (28, v28), (29, v29), (30, v30), (31, v31), (32, v32), (33, v33), (34, v34), (35, v35), (36, v36), (37, v37), (38, v38), (39, v39), (40, v40), (41, v41), (42, v42), (43, v43), (44, v44), (45, v45), (46, v46), (47, v47), (48, v48), (49, v49), (50, v50), (51, v51), (52, v52), (53, v53), (54, v54), (55, v55), (56, v56), (57, v57), (58, v58), (59, v59), (60, v60), (61, v61), (62, v62), (63, v63), (64, v64), (65, v65), (66, v66), (67, v67), (68, v68), (69, v69), (70, v70), (71, v71), (72, v72), (73, v73), (74, v74), (75, v75), (76, v76), (77, v77), (78, v78), (79, v79), (80, v80), (81, v81), (82, v82), (83, v83), (84, v84), (85, v85), (86, v86), (87, v87), (88, v88), (89, v89), (90, v90), (91, v91), (92, v92), (93, v93), (123, v123), (124, v124), (125, v125), (126, v126), (127, v127), (128, v128), (129, v129), (130, v130), (131, v131), (132, v132), (133, v133), (134, v134), (135, v135), (136, v136), (137, v137), (138, v138), (139, v139), (140, v140), (141, v141), (142, v142), (143, v143), (144, v144), (145, v145), (146, v146), (147, v147), (148, v148), (149, v149), (150, v150), (151, v151), (152, v152), (153, v153), (154, v154), (155, v155), (156, v156), (157, v157), (158, v158), (159, v159), (160, v160), (161, v161), (162, v162), (163, v163), (164, v164), (165, v165), (166, v166), (167, v167), (168, v168), (169, v169), (170, v170), (171, v171), (172, v172), (173, v173), (174, v174), (175, v175), (176, v176), (177, v177), (178, v178), (179, v179), (180, v180), (181, v181), (182, v182), (183, v183), (184, v184), (185, v185), (186, v186), (187, v187), (188, v188), (189, v189), (190, v190), (191, v191), (192, v192), (193, v193), (194, v194), (195, v195), (196, v196), (197, v197), (198, v198), (199, v199), (200, v200), (201, v201), (202, v202), (203, v203), (204, v204), (205, v205), (206, v206), (207, v207), (208, v208), (209, v209), (210, v210), (211, v211), (212, v212), (213, v213), (214, v214), (215, v215), (216, v216), (217, v217), (218, v218), (219, v219), (220, v220), (221, v221), (222, v222), (223, v223), (224, v224), (225, v225), (226, v226), (227, v227), (228, v228), (229, v229), (230, v230), (231, v231)]
set_option maxRecDepth 100000 in
set_option maxHeartbeats 4000000 in
theorem sm21a_steps (V : World) (b1 o1 n cc g9 t j : Nat) (pp : Int) (v0 v1 v2 v3 v4 v6 v7 v8 v10 v11 v12 v13 v16 v17 v18 v19 v20 v21 v22 v23 v24 v25 v26 v27 v28 v29 v30 v31 v32 v33 v34 v35 v36 v37 v38 v39 v40 v41 v42 v43 v44 v45 v46 v47 v48 v49 v50 v51 v52 v53 v54 v55 v56 v57 v58 v59 v60 v61 v62 v63 v64 v65 v66 v67 v68 v69 v70 v71 v72 v73 v74 v75 v76 v77 v78 v79 v80 v81 v82 v83 v84 v85 v86 v87 v88 v89 v90 v91 v92 v93 v123 v124 v125 v126 v127 v128 v129 v130 v131 v132 v133 v134 v135 v136 v137 v138 v139 v140 v141 v142 v143 v144 v145 v146 v147 v148 v149 v150 v151 v152 v153 v154 v155 v156 v157 v158 v159 v160 v161 v162 v163 v164 v165 v166 v167 v168 v169 v170 v171 v172 v173 v174 v175 v176 v177 v178 v179 v180 v181 v182 v183 v184 v185 v186 v187 v188 v189 v190 v191 v192 v193 v194 v195 v196 v197 v198 v199 v200 v201 v202 v203 v204 v205 v206 v207 v208 v209 v210 v211 v212 v213 v214 v215 v216 v217 v218 v219 v220 v221 v222 v223 v224 v225 v226 v227 v228 v229 v230 v231 : Value) (ht0 : ¬ (t : Int) < 0) (ht00 : (0 : Int) ≤ (t : Int)) (htl : ¬ (n : Int) ≤ (t : Int)) (htl2 : (t : Int) < (n : Int)) (hpb : (pp == 0) = false) (HC1 : ∀ w', Lat V w' → w'.cell? ⟨b1, o1 + t, none⟩ = some (.int .i64 pp)) (hz : j = 0) :
  AllStepsN Tryz.prog (sm21a_rows b1 o1 n cc g9 t j pp) (sm21a_base b1 o1 n cc g9 t j pp v0 v1 v2 v3 v4 v6 v7 v8 v10 v11 v12 v13 v16 v17 v18 v19 v20 v21 v22 v23 v24 v25 v26 v27 v28 v29 v30 v31 v32 v33 v34 v35 v36 v37 v38 v39 v40 v41 v42 v43 v44 v45 v46 v47 v48 v49 v50 v51 v52 v53 v54 v55 v56 v57 v58 v59 v60 v61 v62 v63 v64 v65 v66 v67 v68 v69 v70 v71 v72 v73 v74 v75 v76 v77 v78 v79 v80 v81 v82 v83 v84 v85 v86 v87 v88 v89 v90 v91 v92 v93 v123 v124 v125 v126 v127 v128 v129 v130 v131 v132 v133 v134 v135 v136 v137 v138 v139 v140 v141 v142 v143 v144 v145 v146 v147 v148 v149 v150 v151 v152 v153 v154 v155 v156 v157 v158 v159 v160 v161 v162 v163 v164 v165 v166 v167 v168 v169 v170 v171 v172 v173 v174 v175 v176 v177 v178 v179 v180 v181 v182 v183 v184 v185 v186 v187 v188 v189 v190 v191 v192 v193 v194 v195 v196 v197 v198 v199 v200 v201 v202 v203 v204 v205 v206 v207 v208 v209 v210 v211 v212 v213 v214 v215 v216 v217 v218 v219 v220 v221 v222 v223 v224 v225 v226 v227 v228 v229 v230 v231) V (sm21a_rows b1 o1 n cc g9 t j pp) := by
 refine n1 ?_ (eb 15) (fun ev w hl ec e1 d ty p af g => ?_)
 refine n1 ?_ (ed 0) (fun ev w hl ec e1 d ty p af g => ?_)
 refine n1 ?_ (ed 1) (fun ev w hl ec e1 d ty p af g => ?_)
 refine n1 ?_ (eb 15) (fun ev w hl ec e1 d ty p af g => ?_)
 refine n1 ?_ (eb 5) (fun ev w hl ec e1 d ty p af g => ?_)
 refine n1 ?_ (ed 4) (fun ev w hl ec e1 d ty p af g => ?_)
 refine n2 ?_ (ed 3) (ed 5) (fun ev w hl ec e1 e2 d ty p af g => ?_)
 refine n2 ?_ (ed 2) (ed 6) (fun ev w hl ec e1 e2 d ty p af g => ?_)
 refine n1 ?_ (ed 7) (fun ev w hl ec e1 d ty p af g => ?_)
 refine n1 ?_ (eb 5) (fun ev w hl ec e1 d ty p af g => ?_)
 refine n1 ?_ (eb 15) (fun ev w hl ec e1 d ty p af g => ?_)
 refine n2 ?_ (ed 9) (ed 10) (fun ev w hl ec e1 e2 d ty p af g => ?_)
 refine n1 ?_ (ed 11) (fun ev w hl ec e1 d ty p af g => by unfold execOp; simp only [e1, ec]; have hc := HC1 w hl; go_simp)
 refine n1 ?_ (ed 12) (fun ev w hl ec e1 d ty p af g => ?_)
 refine n2 ?_ (ed 8) (ed 13) (fun ev w hl ec e1 e2 d ty p af g => ?_)
 refine n1 ?_ (ed 14) (fun ev w hl ec e1 d ty p af g => ?_)
 refine n1 ?_ (eb 14) (fun ev w hl ec e1 d ty p af g => ?_)
 refine n1 ?_ (ed 16) (fun ev w hl ec e1 d ty p af g => ?_)
 refine n1 ?_ (ed 17) (fun ev w hl ec e1 d ty p af g => ?_)
 refine nk ?_
 refine nk ?_
 refine nk ?_
 refine nk ?_
 refine nk ?_
 refine nk ?_
 refine nk ?_
 refine nk ?_
 refine n1 ?_ (ed 18) (fun ev w hl ec e1 d ty p af g => ?_)
 refine n2 ?_ (ed 15) (ed 27) (fun ev w hl ec e1 e2 d ty p af g => ?_)
 ·exact AllStepsN.none
 all_goals (unfold execOp; first | simp only [e1, e2, ec] | simp only [e1, ec] | simp only [ec])
 all_goals go_simp
noncomputable def sm21b_rows (b1 o1 n cc g9 t j : Nat) (pp : Int) (b2 o2 mt ct i t2 : Nat) : List SRow := [
 ⟨Op.move (Operand.tmp 15), some 94, none, [], fun v _ => v = .int .i64 (t : Int)⟩,
 ⟨Op.binOp BinOp.lss 3 (Operand.tmp 94) (Operand.const (Value.int IntKind.i64 0)) 3, some 95, none, [0], fun v _ => v = .bool false⟩,
 ⟨Op.move (Operand.tmp 95), some 96, none, [1], fun v _ => v = .bool false⟩,
 ⟨Op.move (Operand.tmp 15), some 97, some (2, false), [2], fun v _ => v = .int .i64 (t : Int)⟩,
 ⟨Op.move (Operand.tmp 5), some 98, some (2, false), [2], fun v _ => v = .slice (some ⟨b1, o1, none⟩) n cc⟩,
 ⟨Op.call { callee := Callee.builtin Builtin.len, args := #[Operand.tmp 98], argTypes := #[27] }, some 99, some (2, false), [4, 2], fun v _ => v = .int .i64 (n : Int)⟩,
 ⟨Op.binOp BinOp.geq 3 (Operand.tmp 97) (Operand.tmp 99) 3, some 100, some (2, false), [3, 5, 2], fun v _ => v = .bool false⟩,
 ⟨Op.pick (Operand.tmp 96) (Operand.const (Value.bool true)) (Operand.tmp 100), some 101, none, [2, 6], fun v _ => v = .bool false⟩,
 ⟨Op.move (Operand.tmp 101), some 102, none, [7, 2], fun v _ => v = .bool false⟩,
 ⟨Op.move (Operand.tmp 5), some 103, some (8, false), [8], fun v _ => v = .slice (some ⟨b1, o1, none⟩) n cc⟩,
 ⟨Op.move (Operand.tmp 15), some 104, some (8, false), [8], fun v _ => v = .int .i64 (t : Int)⟩,
 ⟨Op.indexAddr 27 (Operand.tmp 103) (Operand.tmp 104), some 105, some (8, false), [9, 10, 8], fun v _ => v = .pointer (some ⟨b1, o1 + t, none⟩)⟩,
 ⟨Op.load 3 (Operand.tmp 105), some 106, some (8, false), [11, 8], fun v _ => v = .int .i64 pp⟩,
 ⟨Op.binOp BinOp.eql 3 (Operand.tmp 106) (Operand.const (Value.int IntKind.i64 0)) 3, some 107, some (8, false), [12, 8], fun v _ => v = .bool false⟩,
 ⟨Op.pick (Operand.tmp 102) (Operand.const (Value.bool true)) (Operand.tmp 107), some 108, none, [8, 13], fun v _ => v = .bool false⟩,
 ⟨Op.move (Operand.tmp 108), some 109, none, [14, 8], fun v _ => v = .bool false⟩,
 ⟨Op.move (Operand.tmp 14), some 110, some (15, false), [15], fun v _ => v = .int .i64 (j : Int)⟩,
 ⟨Op.binOp BinOp.gtr 3 (Operand.tmp 110) (Operand.const (Value.int IntKind.i64 0)) 3, some 111, some (15, false), [16, 15], fun v _ => v = .bool true⟩,
 ⟨Op.move (Operand.tmp 111), some 112, some (15, false), [17, 15, 15], fun v _ => v = .bool true⟩,
 ⟨Op.move (Operand.tmp 15), some 113, some (18, true), [18], fun v _ => v = .int .i64 (t : Int)⟩,
 ⟨Op.fieldAddr 54 (Operand.tmp 9) 1, some 114, some (18, true), [18], fun v _ => v = .pointer (some ⟨g9, 1, none⟩)⟩,
 ⟨Op.load 27 (Operand.tmp 114), some 115, some (18, true), [20, 18], fun v _ => v = .slice (some ⟨b2, o2, none⟩) mt ct⟩,
 ⟨Op.move (Operand.tmp 14), some 116, some (18, true), [18], fun v _ => v = .int .i64 (j : Int)⟩,
 ⟨Op.binOp BinOp.sub 3 (Operand.tmp 116) (Operand.const (Value.int IntKind.i64 1)) 3, some 117, some (18, true), [22, 18], fun v _ => v = .int .i64 (i : Int)⟩,
 ⟨Op.indexAddr 27 (Operand.tmp 115) (Operand.tmp 117), some 118, some (18, true), [21, 23, 18], fun v _ => v = .pointer (some ⟨b2, o2 + i, none⟩)⟩,
 ⟨Op.load 3 (Operand.tmp 118), some 119, some (18, true), [24, 18], fun v _ => v = .int .i64 (t2 : Int)⟩,
 ⟨Op.binOp BinOp.leq 3 (Operand.tmp 113) (Operand.tmp 119) 3, some 120, some (18, true), [19, 25, 18], fun v _ => v = .bool false⟩,
 ⟨Op.pick (Operand.tmp 112) (Operand.tmp 120) (Operand.const (Value.bool false)), some 121, some (15, false), [18, 26, 15], fun v _ => v = .bool false⟩,
 ⟨Op.pick (Operand.tmp 109) (Operand.const (Value.bool true)) (Operand.tmp 121), some 122, none, [15, 27], fun v _ => v = .bool false⟩]
noncomputable def sm21b_base (b1 o1 n cc g9 t j : Nat) (pp : Int) (b2 o2 mt ct i t2 : Nat) (v0 v1 v2 v3 v4 v6 v7 v8 v10 v11 v12 v13 v16 v17 v18 v19 v20 v21 v22 v23 v24 v25 v26 v27 v28 v29 v30 v31 v32 v33 v34 v35 v36 v37 v38 v39 v40 v41 v42 v43 v44 v45 v46 v47 v48 v49 v50 v51 v52 v53 v54 v55 v56 v57 v58 v59 v60 v61 v62 v63 v64 v65 v66 v67 v68 v69 v70 v71 v72 v73 v74 v75 v76 v77 v78 v79 v80 v81 v82 v83 v84 v85 v86 v87 v88 v89 v90 v91 v92 v93 v123 v124 v125 v126 v127 v128 v129 v130 v131 v132 v133 v134 v135 v136 v137 v138 v139 v140 v141 v142 v143 v144 v145 v146 v147 v148 v149 v150 v151 v152 v153 v154 v155 v156 v157 v158 v159 v160 v161 v162 v163 v164 v165 v166 v167 v168 v169 v170 v171 v172 v173 v174 v175 v176 v177 v178 v179 v180 v181 v182 v183 v184 v185 v186 v187 v188 v189 v190 v191 v192 v193 v194 v195 v196 v197 v198 v199 v200 v201 v202 v203 v204 v205 v206 v207 v208 v209 v210 v211 v212 v213 v214 v215 v216 v217 v218 v219 v220 v221 v222 v223 v224 v225 v226 v227 v228 v229 v230 v231 : Value) : List (Nat × Value) := [(5, .slice (some ⟨b1, o1, none⟩) n cc), (9, .pointer (some ⟨g9, 0, none⟩)), (14, .int .i64 (j : Int)), (15, .int .i64 (t : Int)), (0, v0), (1, v1), (2, v2), (3, v3), (4, v4), (6, v6), (7, v7), (8, v8), (10, v10), (11, v11), (12, v12), (13, v13), (16, v16), (17, v17), (18, v18), (19, v19), (20, v20), (21, v21), (22, v22), (23, v23), (24, v24), (25, v25), (26, v26), (27, v27), (28, v28), (29, v29), (30, v30), (31, v31), (32, v32), (33, v33), (34, v34), (35, v35), (36, v36), (37, v37), (38, v38), (39, v39), (40, v40), (41, v41), (42, v42), (43, v43), (44, v44), (45, v45), (46, v46), (47, v47), (48, v48), (49, v49), (50, v50), (51, v51), (52, v52), (53, v53), (54, v54), (55, v55), (56, v56), (57, v57), (58, v58), (59, v59), (60, v60), (61, v61), (62, v62), (63, v63), (64, v64), (65, v65), (66, v66), (67, v67), (68, v68), (69, v69), (70, v70), (71, v71), (72, v72), (73, v73), (74, v74), (75, v75), (76, v76), (77, v77), (78, v78), (79, v79), (80, v80), (81, v81), (82, v82), (83, v83), (84, v84), (85, v85), (86, v86), (87, v87), (88, v88), (89, v89), (90, v90), (91, v91), (92, v92), (93, v93), (123, v123), (124, v124), (125, v125), (126, v126), (127, v127), (128, v128), (129, v129), (130, v130), (131, v131), (132, v132), (133, v133), (134, v134), (135, v135), (136, v136), (137, v137), (138, v138), (139, v139), (140, v140), (141, v141), (142, v142), (143, v143), (144, v144), (145, v145), (146, v146), (147, v147), (148, v148), (149, v149), (150, v150), (151, v151), (152, v152), (153, v153), (154, v154), (155, v155), (156, v156), (157, v157), (158, v158), (159, v159), (160, v160), (161, v161), (162, v162), (163, v163), (164, v164), (165, v165), (166, v166), (167, v167), (168, v168), (169, v169), (170, v170), (171, v171), (172, v172), (173, v173), (174, v174), (175, v175), (176, v176), (177, v177), (178, v178), (179, v179), (180, v180), (181, v181), (182, v182), (183, v183), (184, v184), (185, v185), (186, v186), (187, v187), (188, v188), (189, v189), (190, v190), (191, v191), (192, v192), (193, v193), (194, v194), (195, v195), (196, v196), (197, v197), (198, v198), (199, v199), (200, v200), (201, v201), (202, v202), (203, v203), (204, v204), (205, v205), (206, v206), (207, v207), (208, v208), (209, v209), (210, v210), (211, v211), (212, v212), (213, v213), (214, v214), (215, v215), (216, v216), (217, v217), (218, v218), (219, v219), (220, v220), (221, v221), (222, v222), (223, v223), (224, v224), (225, v225), (226, v226), (227, v227), (228, v228), (229, v229), (230, v230), (231, v231)]
set_option maxRecDepth 100000 in
set_option maxHeartbeats 4000000 in
theorem sm21b_steps (V : World) (b1 o1 n cc g9 t j : Nat) (pp : Int) (b2 o2 mt ct i t2 : Nat) (v0 v1 v2 v3 v4 v6 v7 v8 v10 v11 v12 v13 v16 v17 v18 v19 v20 v21 v22 v23 v24 v25 v26 v27 v28 v29 v30 v31 v32 v33 v34 v35 v36 v37 v38 v39 v40 v41 v42 v43 v44 v45 v46 v47 v48 v49 v50 v51 v52 v53 v54 v55 v56 v57 v58 v59 v60 v61 v62 v63 v64 v65 v66 v67 v68 v69 v70 v71 v72 v73 v74 v75 v76 v77 v78 v79 v80 v81 v82 v83 v84 v85 v86 v87 v88 v89 v90 v91 v92 v93 v123 v124 v125 v126 v127 v128 v129 v130 v131 v132 v133 v134 v135 v136 v137 v138 v139 v140 v141 v142 v143 v144 v145 v146 v147 v148 v149 v150 v151 v152 v153 v154 v155 v156 v157 v158 v159 v160 v161 v162 v163 v164 v165 v166 v167 v168 v169 v170 v171 v172 v173 v174 v175 v176 v177 v178 v179 v180 v181 v182 v183 v184 v185 v186 v187 v188 v189 v190 v191 v192 v193 v194 v195 v196 v197 v198 v199 v200 v201 v202 v203 v204 v205 v206 v207 v208 v209 v210 v211 v212 v213 v214 v215 v216 v217 v218 v219 v220 v221 v222 v223 v224 v225 v226 v227 v228 v229 v230 v231 : Value) (ht0 : ¬ (t : Int) < 0) (ht00 : (0 : Int) ≤ (t : Int)) (htl : ¬ (n : Int) ≤ (t : Int)) (htl2 : (t : Int) < (n : Int)) (hpb : (pp == 0) = false) (HC1 : ∀ w', Lat V w' → w'.cell? ⟨b1, o1 + t, none⟩ = some (.int .i64 pp)) (hz : 0 < j) (w1 : wrap64 ((j : Int) - 1) = (i : Int)) (w2 : IntKind.i64.wrap ((j : Int) - 1) = (i : Int)) (hi0 : (0 : Int) ≤ (i : Int)) (hil : (i : Int) < (mt : Int)) (hle : ¬ (t : Int) ≤ (t2 : Int)) (HC9 : ∀ w', Lat V w' → w'.cell? ⟨g9, 1, none⟩ = some (.slice (some ⟨b2, o2, none⟩) mt ct)) (HC2 : ∀ w', Lat V w' → w'.cell? ⟨b2, o2 + i, none⟩ = some (.int .i64 (t2 : Int))) :
  AllStepsN Tryz.prog (sm21b_rows b1 o1 n cc g9 t j pp b2 o2 mt ct i t2) (sm21b_base b1 o1 n cc g9 t j pp b2 o2 mt ct i t2 v0 v1 v2 v3 v4 v6 v7 v8 v10 v11 v12 v13 v16 v17 v18 v19 v20 v21 v22 v23 v24 v25 v26 v27 v28 v29 v30 v31 v32 v33 v34 v35 v36 v37 v38 v39 v40 v41 v42 v43 v44 v45 v46 v47 v48 v49 v50 v51 v52 v53 v54 v55 v56 v57 v58 v59 v60 v61 v62 v63 v64 v65 v66 v67 v68 v69 v70 v71 v72 v73 v74 v75 v76 v77 v78 v79 v80 v81 v82 v83 v84 v85 v86 v87 v88 v89 v90 v91 v92 v93 v123 v124 v125 v126 v127 v128 v129 v130 v131 v132 v133 v134 v135 v136 v137 v138 v139 v140 v141 v142 v143 v144 v145 v146 v147 v148 v149 v150 v151 v152 v153 v154 v155 v156 v157 v158 v159 v160 v161 v162 v163 v164 v165 v166 v167 v168 v169 v170 v171 v172 v173 v174 v175 v176 v177 v178 v179 v180 v181 v182 v183 v184 v185 v186 v187 v188 v189 v190 v191 v192 v193 v194 v195 v196 v197 v198 v199 v200 v201 v202 v203 v204 v205 v206 v207 v208 v209 v210 v211 v212 v213 v214 v215 v216 v217 v218 v219 v220 v221 v222 v223 v224 v225 v226 v227 v228 v229 v230 v231) V (sm21b_rows b1 o1 n cc g9 t j pp b2 o2 mt ct i t2) := by
 refine n1 ?_ (eb 15) (fun ev w hl ec e1 d ty p af g => ?_)
 refine n1 ?_ (ed 0) (fun ev w hl ec e1 d ty p af g => ?_)
 refine n1 ?_ (ed 1) (fun ev w hl ec e1 d ty p af g => ?_)
 refine n1 ?_ (eb 15) (fun ev w hl ec e1 d ty p af g => ?_)
 refine n1 ?_ (eb 5) (fun ev w hl ec e1 d ty p af g => ?_)
 refine n1 ?_ (ed 4) (fun ev w hl ec e1 d ty p af g => ?_)
 refine n2 ?_ (ed 3) (ed 5) (fun ev w hl ec e1 e2 d ty p af g => ?_)
 refine n2 ?_ (ed 2) (ed 6) (fun ev w hl ec e1 e2 d ty p af g => ?_)
 refine n1 ?_ (ed 7) (fun ev w hl ec e1 d ty p af g => ?_)
 refine n1 ?_ (eb 5) (fun ev w hl ec e1 d ty p af g => ?_)
 refine n1 ?_ (eb 15) (fun ev w hl ec e1 d ty p af g => ?_)
 refine n2 ?_ (ed 9) (ed 10) (fun ev w hl ec e1 e2 d ty p af g => ?_)
 refine n1 ?_ (ed 11) (fun ev w hl ec e1 d ty p af g => by unfold execOp; simp only [e1, ec]; have hc := HC1 w hl; go_simp)
 refine n1 ?_ (ed 12) (fun ev w hl ec e1 d ty p af g => ?_)
 refine n2 ?_ (ed 8) (ed 13) (fun ev w hl ec e1 e2 d ty p af g => ?_)
 refine n1 ?_ (ed 14) (fun ev w hl ec e1 d ty p af g => ?_)
 refine n1 ?_ (eb 14) (fun ev w hl ec e1 d ty p af g => ?_)
 refine n1 ?_ (ed 16) (fun ev w hl ec e1 d ty p af g => ?_)
 refine n1 ?_ (ed 17) (fun ev w hl ec e1 d ty p af g => ?_)
 refine n1 ?_ (eb 15) (fun ev w hl ec e1 d ty p af g => ?_)
 refine n1 ?_ (eb 9) (fun ev w hl ec e1 d ty p af g => ?_)
 refine n1 ?_ (ed 20) (fun ev w hl ec e1 d ty p af g => by unfold execOp; simp only [e1, ec]; have hc := HC9 w hl; go_simp)
 refine n1 ?_ (eb 14) (fun ev w hl ec e1 d ty p af g => ?_)
 refine n1 ?_ (ed 22) (fun ev w hl ec e1 d ty p af g => ?_)
 refine n2 ?_ (ed 21) (ed 23) (fun ev w hl ec e1 e2 d ty p af g => ?_)
 refine n1 ?_ (ed 24) (fun ev w hl ec e1 d ty p af g => by unfold execOp; simp only [e1, ec]; have hc := HC2 w hl; go_simp)
 refine n2 ?_ (ed 19) (ed 25) (fun ev w hl ec e1 e2 d ty p af g => ?_)
 refine n2 ?_ (ed 18) (ed 26) (fun ev w hl ec e1 e2 d ty p af g => ?_)
 refine n2 ?_ (ed 15) (ed 27) (fun ev w hl ec e1 e2 d ty p af g => ?_)
 ·exact AllStepsN.none
 all_goals (unfold execOp; first | simp only [e1, e2, ec] | simp only [e1, ec] | simp only [ec])
 all_goals go_simp
end Go.Proofs.YtbgngmamnonlbaaGreat
namespace Go.Proofs.YtbgngmamnonlbaaGreat
open Go.RowKit
set_option linter.unusedSimpArgs false
set_option linter.unusedVariables false
set_option maxRecDepth 100000
noncomputable def sm24a_rows (g9 mt : Nat) (h o : Int) (A2 : Option Addr) (ct : Nat) : List SRow := [
 ⟨Op.move (Operand.tmp 11), some 124, none, [], fun v _ => v = .int .i64 h⟩,
 ⟨Op.move (Operand.tmp 7), some 125, none, [], fun v _ => v = .int .i64 h⟩,
 ⟨Op.binOp BinOp.neq 3 (Operand.tmp 124) (Operand.tmp 125) 3, some 126, none, [0, 1], fun v _ => v = .bool false⟩,
 ⟨Op.move (Operand.tmp 126), some 127, none, [2], fun v _ => v = .bool false⟩,
 ⟨Op.fieldAddr 54 (Operand.tmp 9) 1, some 128, some (3, false), [3], fun v _ => v = .pointer (some ⟨g9, 1, none⟩)⟩,
 ⟨Op.load 27 (Operand.tmp 128), some 129, some (3, false), [4, 3], fun v _ => v = .slice A2 mt ct⟩,
 ⟨Op.call { callee := Callee.builtin Builtin.len, args := #[Operand.tmp 129], argTypes := #[27] }, some 130, some (3, false), [5, 3], fun v _ => v = .int .i64 (mt : Int)⟩,
 ⟨Op.binOp BinOp.gtr 3 (Operand.tmp 130) (Operand.const (Value.int IntKind.i64 0)) 3, some 131, some (3, false), [6, 3], fun v _ => v = .bool true⟩,
 ⟨Op.move (Operand.tmp 131), some 132, some (3, false), [7, 3, 3], fun v _ => v = .bool true⟩,
 ⟨Op.fieldAddr 54 (Operand.tmp 9) 2, some 133, some (8, true), [8], fun v _ => v = .pointer (some ⟨g9, 2, none⟩)⟩,
 ⟨Op.load 3 (Operand.tmp 133), some 134, some (8, true), [9, 8], fun v _ => v = .int .i64 o⟩,
 ⟨Op.binOp BinOp.lss 3 (Operand.tmp 134) (Operand.const (Value.int IntKind.i64 1)) 3, some 135, some (8, true), [10, 8], fun v _ => v = .bool false⟩,
 ⟨Op.move (Operand.tmp 135), some 136, some (8, true), [11, 8, 8], fun v _ => v = .bool false⟩,
 ⟨Op.fieldAddr 54 (Operand.tmp 9) 2, some 137, some (12, false), [12], fun v _ => v = .pointer (some ⟨g9, 2, none⟩)⟩,
 ⟨Op.load 3 (Operand.tmp 137), some 138, some (12, false), [13, 12], fun v _ => v = .int .i64 o⟩,
 ⟨Op.fieldAddr 54 (Operand.tmp 9) 1, some 139, some (12, false), [12], fun v _ => v = .pointer (some ⟨g9, 1, none⟩)⟩,
 ⟨Op.load 27 (Operand.tmp 139), some 140, some (12, false), [15, 12], fun v _ => v = .slice A2 mt ct⟩,
 ⟨Op.call { callee := Callee.builtin Builtin.len, args := #[Operand.tmp 140], argTypes := #[27] }, some 141, some (12, false), [16, 12], fun v _ => v = .int .i64 (mt : Int)⟩,
 ⟨Op.binOp BinOp.geq 3 (Operand.tmp 138) (Operand.tmp 141) 3, some 142, some (12, false), [14, 17, 12], fun v _ => v = .bool false⟩,
 ⟨Op.pick (Operand.tmp 136) (Operand.const (Value.bool true)) (Operand.tmp 142), some 143, some (8, true), [12, 18, 8], fun v _ => v = .bool false⟩,
 ⟨Op.pick (Operand.tmp 132) (Operand.tmp 143) (Operand.const (Value.bool false)), some 144, some (3, false), [8, 19, 3], fun v _ => v = .bool false⟩,
 ⟨Op.pick (Operand.tmp 127) (Operand.const (Value.bool true)) (Operand.tmp 144), some 145, none, [3, 20], fun v _ => v = .bool false⟩,
 ⟨Op.move (Operand.tmp 145), some 146, none, [21, 12], fun v _ => v = .bool false⟩,
 ⟨Op.fieldAddr 54 (Operand.tmp 9) 1, some 147, some (22, false), [22], fun v _ => v = .pointer (some ⟨g9, 1, none⟩)⟩,
 ⟨Op.load 27 (Operand.tmp 147), some 148, some (22, false), [23, 22], fun v _ => v = .slice A2 mt ct⟩,
 ⟨Op.call { callee := Callee.builtin Builtin.len, args := #[Operand.tmp 148], argTypes := #[27] }, some 149, some (22, false), [24, 22], fun v _ => v = .int .i64 (mt : Int)⟩,
 ⟨Op.binOp BinOp.eql 3 (Operand.tmp 149) (Operand.const (Value.int IntKind.i64 0)) 3, some 150, some (22, false), [25, 22], fun v _ => v = .bool false⟩,
 ⟨Op.move (Operand.tmp 150), some 151, some (22, false), [26, 22, 22], fun v _ => v = .bool false⟩,
 ⟨Op.fieldAddr 54 (Operand.tmp 9) 2, some 152, some (27, true), [27], fun v _ => v = undef⟩,
 ⟨Op.load 3 (Operand.tmp 152), some 153, some (27, true), [28, 27], fun v _ => v = undef⟩,
 ⟨Op.binOp BinOp.neq 3 (Operand.tmp 153) (Operand.const (Value.int IntKind.i64 0)) 3, some 154, some (27, true), [29, 27], fun v _ => v = undef⟩,
 ⟨Op.pick (Operand.tmp 151) (Operand.tmp 154) (Operand.const (Value.bool false)), some 155, some (22, false), [27, 30, 22], fun v _ => v = .bool false⟩,
 ⟨Op.pick (Operand.tmp 146) (Operand.const (Value.bool true)) (Operand.tmp 155), some 156, none, [22, 31], fun v _ => v = .bool false⟩]
noncomputable def sm24a_base (g9 mt : Nat) (h o : Int) (A2 : Option Addr) (ct : Nat) (v0 v1 v2 v3 v4 v5 v6 v8 v10 v12 v13 v14 v15 v16 v17 v18 v19 v20 v21 v22 v23 v24 v25 v26 v27 v28 v29 v30 v31 v32 v33 v34 v35 v36 v37 v38 v39 v40 v41 v42 v43 v44 v45 v46 v47 v48 v49 v50 v51 v52 v53 v54 v55 v56 v57 v58 v59 v60 v61 v62 v63 v64 v65 v66 v67 v68 v69 v70 v71 v72 v73 v74 v75 v76 v77 v78 v79 v80 v81 v82 v83 v84 v85 v86 v87 v88 v89 v90 v91 v92 v93 v94 v95 v96 v97 v98 v99 v100 v101 v102 v103 v104 v105 v106 v107 v108 v109 v110 v111 v112 v113 v114 v115 v116 v117 v118 v119 v120 v121 v122 v123 v157 v158 v159 v160 v161 v162 v163 v164 v165 v166 v167 v168 v169 v170 v171 v172 v173 v174 v175 v176 v177 v178 v179 v180 v181 v182 v183 v184 v185 v186 v187 v188 v189 v190 v191 v192 v193 v194 v195 v196 v197 v198 v199 v200 v201 v202 v203 v204 v205 v206 v207 v208 v209 v210 v211 v212 v213 v214 v215 v216 v217 v218 v219 v220 v221 v222 v223 v224 v225 v226 v227 v228 v229 v230 v231 : Value) : List (Nat × Value) := [(7, .int .i64 h), (9, .pointer (some ⟨g9, 0, none⟩)), (11, .int .i64 h), (0, v0), (1, v1), (2, v2), (3, v3), (4, v4), (5, v5), (6, v6), (8, v8), (10, v10), (12, v12), (13, v13), (14, v14), (15, v15), (16, v16), (17, v17), (18, v18), (19, v19), (20, v20), (21, v21), (22, v22), (23, v23), (24, v24), (25, v25), (26, v26), (27, v27), (28, v28), (29, v29), (30, v30), (31, v31), (32, v32), (33, v33), (34, v34), (35, v35), (36, v36), (37, v37), (38, v38), (39, v39), (40, v40), (41, v41), (42, v42), (43, v43), (44, v44), (45, v45), (46, v46), (47, v47), (48, v48), (49, v49), (50, v50), (51, v51), (52, v52), (53, v53), (54, v54), (55, v55), (56, v56), (57, v57), (58, v58), (59, v59), (60, v60), (61, v61), (62, v62), (63, v63), (64, v64), (65, v65), (66, v66), (67, v67), (68, v68), (69, v69), (70, v70), (71, v71), (72, v72), (73, v73), (74, v74), (75, v75), (76, v76), (77, v77), (78, v78), (79, v79), (80, v80), (81, v81), (82, v82), (83, v83), (84, v84), (85, v85), (86, v86), (87, v87), (88, v88), (89, v89), (90, v90), (91, v91), (92, v92), (93, v93), (94, v94), (95, v95), (96, v96), (97, v97), (98, v98), (99, v99), (100, v100), (101, v101), (102, v102), (103, v103), (104, v104), (105, v105), (106, v106), (107, v107), (108, v108), (109, v109), (110, v110), (111, v111), (112, v112), (113, v113), (114, v114), (115, v115), (116, v116), (117, v117), (118, v118), (119, v119), (120, v120), (121, v121), (122, v122), (123, v123), (157, v157), (158, v158), (159, v159), (160, v160), (161, v161), (162, v162), (163, v163), (164, v164), (165, v165), (166, v166), (167, v167), (168, v168), (169, v169), (170, v170), (171, v171), (172, v172), (173, v173), (174, v174), (175, v175), (176, v176), (177, v177), (178, v178), (179, v179), (180, v180), (181, v181), (182, v182), (183, v183), (184, v184), (185, v185), (186, v186), (187, v187), (188, v188), (189, v189), (190, v190), (191, v191), (192, v192), (193, v193), (194, v194), (195, v195), (196, v196), (197, v197), (198, v198), (199, v199), (200, v200), (201, v201), (202, v202), (203, v203), (204, v204), (205, v205), (206, v206), (207, v207), (208, v208), (209, v209), (210, v210), (211, v211), (212, v212), (213, v213), (214, v214), (215, v215), (216, v216), (217, v217), (218, v218), (219, v219), (220, v220), (221, v221), (222, v222), (223, v223), (224, v224), (225, v225), (226, v226), (227, v227), (228, v228), (229, v229), (230, v230), (231, v231)]
set_option maxRecDepth 100000 in
set_option maxHeartbeats 4000000 in
theorem sm24a_steps (V : World) (g9 mt : Nat) (h o : Int) (A2 : Option Addr) (ct : Nat) (v0 v1 v2 v3 v4 v5 v6 v8 v10 v12 v13 v14 v15 v16 v17 v18 v19 v20 v21 v22 v23 v24 v25 v26 v27 v28 v29 v30 v31 v32 v33 v34 v35 v36 v37 v38 v39 v40 v41 v42 v43 v44 v45 v46 v47 v48 v49 v50 v51 v52 v53 v54 v55 v56 v57 v58 v59 v60 v61 v62 v63 v64 v65 v66 v67 v68 v69 v70 v71 v72 v73 v74 v75 v76 v77 v78 v79 v80 v81 v82 v83 v84 v85 v86 v87 v88 v89 v90 v91 v92 v93 v94 v95 v96 v97 v98 v99 v100 v101 v102 v103 v104 v105 v106 v107 v108 v109 v110 v111 v112 v113 v114 v115 v116 v117 v118 v119 v120 v121 v122 v123 v157 v158 v159 v160 v161 v162 v163 v164 v165 v166 v167 v168 v169 v170 v171 v172 v173 v174 v175 v176 v177 v178 v179 v180 v181 v182 v183 v184 v185 v186 v187 v188 v189 v190 v191 v192 v193 v194 v195 v196 v197 v198 v199 v200 v201 v202 v203 v204 v205 v206 v207 v208 v209 v210 v211 v212 v213 v214 v215 v216 v217 v218 v219 v220 v221 v222 v223 v224 v225 v226 v227 v228 v229 v230 v231 : Value) (HC1 : ∀ w', Lat V w' → w'.cell? ⟨g9, 1, none⟩ = some (.slice A2 mt ct)) (HC2 : ∀ w', Lat V w' → w'.cell? ⟨g9, 2, none⟩ = some (.int .i64 o)) (hm : 0 < mt) (hmb : mt ≠ 0) (ho : ¬ o < 1) (ho2 : 1 ≤ o) (hom : ¬ (mt : Int) ≤ o) (hom2 : o < (mt : Int)) :
  AllStepsN Tryz.prog (sm24a_rows g9 mt h o A2 ct) (sm24a_base g9 mt h o A2 ct v0 v1 v2 v3 v4 v5 v6 v8 v10 v12 v13 v14 v15 v16 v17 v18 v19 v20 v21 v22 v23 v24 v25 v26 v27 v28 v29 v30 v31 v32 v33 v34 v35 v36 v37 v38 v39 v40 v41 v42 v43 v44 v45 v46 v47 v48 v49 v50 v51 v52 v53 v54 v55 v56 v57 v58 v59 v60 v61 v62 v63 v64 v65 v66 v67 v68 v69 v70 v71 v72 v73 v74 v75 v76 v77 v78 v79 v80 v81 v82 v83 v84 v85 v86 v87 v88 v89 v90 v91 v92 v93 v94 v95 v96 v97 v98 v99 v100 v101 v102 v103 v104 v105 v106 v107 v108 v109 v110 v111 v112 v113 v114 v115 v116 v117 v118 v119 v120 v121 v122 v123 v157 v158 v159 v160 v161 v162 v163 v164 v165 v166 v167 v168 v169 v170 v171 v172 v173 v174 v175 v176 v177 v178 v179 v180 v181 v182 v183 v184 v185 v186 v187 v188 v189 v190 v191 v192 v193 v194 v195 v196 v197 v198 v199 v200 v201 v202 v203 v204 v205 v206 v207 v208 v209 v210 v211 v212 v213 v214 v215 v216 v217 v218 v219 v220 v221 v222 v223 v224 v225 v226 v227 v228 v229 v230 v231) V (sm24a_rows g9 mt h o A2 ct) := by
 refine n1 ?_ (eb 11) (fun ev w hl ec e1 d ty p af g => ?_)
 refine n1 ?_ (eb 7) (fun ev w hl ec e1 d ty p af g => ?_)
 refine n2 ?_ (ed 0) (ed 1) (fun ev w hl ec e1 e2 d ty p af g => ?_)
 refine n1 ?_ (ed 2) (fun ev w hl ec e1 d ty p af g => ?_)
 refine n1 ?_ (eb 9) (fun ev w hl ec e1 d ty p af g => ?_)
 refine n1 ?_ (ed 4) (fun ev w hl ec e1 d ty p af g => by unfold execOp; simp only [e1, ec]; have hc := HC1 w hl; go_simp)
 refine n1 ?_ (ed 5) (fun ev w hl ec e1 d ty p af g => ?_)
 refine n1 ?_ (ed 6) (fun ev w hl ec e1 d ty p af g => ?_)
 refine n1 ?_ (ed 7) (fun ev w hl ec e1 d ty p af g => ?_)
 refine n1 ?_ (eb 9) (fun ev w hl ec e1 d ty p af g => ?_)
 refine n1 ?_ (ed 9) (fun ev w hl ec e1 d ty p af g => by unfold execOp; simp only [e1, ec]; have hc := HC2 w hl; go_simp)
 refine n1 ?_ (ed 10) (fun ev w hl ec e1 d ty p af g => ?_)
 refine n1 ?_ (ed 11) (fun ev w hl ec e1 d ty p af g => ?_)
 refine n1 ?_ (eb 9) (fun ev w hl ec e1 d ty p af g => ?_)
 refine n1 ?_ (ed 13) (fun ev w hl ec e1 d ty p af g => by unfold execOp; simp only [e1, ec]; have hc := HC2 w hl; go_simp)
 refine n1 ?_ (eb 9) (fun ev w hl ec e1 d ty p af g => ?_)
 refine n1 ?_ (ed 15) (fun ev w hl ec e1 d ty p af g => by unfold execOp; simp only [e1, ec]; have hc := HC1 w hl; go_simp)
 refine n1 ?_ (ed 16) (fun ev w hl ec e1 d ty p af g => ?_)
 refine n2 ?_ (ed 14) (ed 17) (fun ev w hl ec e1 e2 d ty p af g => ?_)
 refine n2 ?_ (ed 12) (ed 18) (fun ev w hl ec e1 e2 d ty p af g => ?_)
 refine n2 ?_ (ed 8) (ed 19) (fun ev w hl ec e1 e2 d ty p af g => ?_)
 refine n2 ?_ (ed 3) (ed 20) (fun ev w hl ec e1 e2 d ty p af g => ?_)
 refine n1 ?_ (ed 21) (fun ev w hl ec e1 d ty p af g => ?_)
 refine n1 ?_ (eb 9) (fun ev w hl ec e1 d ty p af g => ?_)
 refine n1 ?_ (ed 23) (fun ev w hl ec e1 d ty p af g => by unfold execOp; simp only [e1, ec]; have hc := HC1 w hl; go_simp)
 refine n1 ?_ (ed 24) (fun ev w hl ec e1 d ty p af g => ?_)
 refine n1 ?_ (ed 25) (fun ev w hl ec e1 d ty p af g => ?_)
 refine n1 ?_ (ed 26) (fun ev w hl ec e1 d ty p af g => ?_)
 refine nk ?_
 refine nk ?_
 refine nk ?_
 refine n1 ?_ (ed 27) (fun ev w hl ec e1 d ty p af g => ?_)
 refine n2 ?_ (ed 22) (ed 31) (fun ev w hl ec e1 e2 d ty p af g => ?_)
 ·exact AllStepsN.none
 all_goals (unfold execOp; first | simp only [e1, e2, ec] | simp only [e1, ec] | simp only [ec])
 all_goals go_simp
noncomputable def sm24b_rows (g9 mt : Nat) (h o : Int) (A2 : Option Addr) (ct : Nat) : List SRow := [
 ⟨Op.move (Operand.tmp 11), some 124, none, [], fun v _ => v = .int .i64 h⟩,
 ⟨Op.move (Operand.tmp 7), some 125, none, [], fun v _ => v = .int .i64 h⟩,
 ⟨Op.binOp BinOp.neq 3 (Operand.tmp 124) (Operand.tmp 125) 3, some 126, none, [0, 1], fun v _ => v = .bool false⟩,
 ⟨Op.move (Operand.tmp 126), some 127, none, [2], fun v _ => v = .bool false⟩,
 ⟨Op.fieldAddr 54 (Operand.tmp 9) 1, some 128, some (3, false), [3], fun v _ => v = .pointer (some ⟨g9, 1, none⟩)⟩,
 ⟨Op.load 27 (Operand.tmp 128), some 129, some (3, false), [4, 3], fun v _ => v = .slice A2 mt ct⟩,
 ⟨Op.call { callee := Callee.builtin Builtin.len, args := #[Operand.tmp 129], argTypes := #[27] }, some 130, some (3, false), [5, 3], fun v _ => v = .int .i64 (mt : Int)⟩,
 ⟨Op.binOp BinOp.gtr 3 (Operand.tmp 130) (Operand.const (Value.int IntKind.i64 0)) 3, some 131, some (3, false), [6, 3], fun v _ => v = .bool false⟩,
 ⟨Op.move (Operand.tmp 131), some 132, some (3, false), [7, 3, 3], fun v _ => v = .bool false⟩,
 ⟨Op.fieldAddr 54 (Operand.tmp 9) 2, some 133, some (8, true), [8], fun v _ => v = undef⟩,
 ⟨Op.load 3 (Operand.tmp 133), some 134, some (8, true), [9, 8], fun v _ => v = undef⟩,
 ⟨Op.binOp BinOp.lss 3 (Operand.tmp 134) (Operand.const (Value.int IntKind.i64 1)) 3, some 135, some (8, true), [10, 8], fun v _ => v = undef⟩,
 ⟨Op.move (Operand.tmp 135), some 136, some (8, true), [11, 8, 8], fun v _ => v = undef⟩,
 ⟨Op.fieldAddr 54 (Operand.tmp 9) 2, some 137, some (12, false), [12], fun v _ => v = undef⟩,
 ⟨Op.load 3 (Operand.tmp 137), some 138, some (12, false), [13, 12], fun v _ => v = undef⟩,
 ⟨Op.fieldAddr 54 (Operand.tmp 9) 1, some 139, some (12, false), [12], fun v _ => v = undef⟩,
 ⟨Op.load 27 (Operand.tmp 139), some 140, some (12, false), [15, 12], fun v _ => v = undef⟩,
 ⟨Op.call { callee := Callee.builtin Builtin.len, args := #[Operand.tmp 140], argTypes := #[27] }, some 141, some (12, false), [16, 12], fun v _ => v = undef⟩,
 ⟨Op.binOp BinOp.geq 3 (Operand.tmp 138) (Operand.tmp 141) 3, some 142, some (12, false), [14, 17, 12], fun v _ => v = undef⟩,
 ⟨Op.pick (Operand.tmp 136) (Operand.const (Value.bool true)) (Operand.tmp 142), some 143, some (8, true), [12, 18, 8], fun v _ => v = undef⟩,
 ⟨Op.pick (Operand.tmp 132) (Operand.tmp 143) (Operand.const (Value.bool false)), some 144, some (3, false), [8, 19, 3], fun v _ => v = .bool false⟩,
 ⟨Op.pick (Operand.tmp 127) (Operand.const (Value.bool true)) (Operand.tmp 144), some 145, none, [3, 20], fun v _ => v = .bool false⟩,
 ⟨Op.move (Operand.tmp 145), some 146, none, [21, 12], fun v _ => v = .bool false⟩,
 ⟨Op.fieldAddr 54 (Operand.tmp 9) 1, some 147, some (22, false), [22], fun v _ => v = .pointer (some ⟨g9, 1, none⟩)⟩,
 ⟨Op.load 27 (Operand.tmp 147), some 148, some (22, false), [23, 22], fun v _ => v = .slice A2 mt ct⟩,
 ⟨Op.call { callee := Callee.builtin Builtin.len, args := #[Operand.tmp 148], argTypes := #[27] }, some 149, some (22, false), [24, 22], fun v _ => v = .int .i64 (mt : Int)⟩,
 ⟨Op.binOp BinOp.eql 3 (Operand.tmp 149) (Operand.const (Value.int IntKind.i64 0)) 3, some 150, some (22, false), [25, 22], fun v _ => v = .bool true⟩,
 ⟨Op.move (Operand.tmp 150), some 151, some (22, false), [26, 22, 22], fun v _ => v = .bool true⟩,
 ⟨Op.fieldAddr 54 (Operand.tmp 9) 2, some 152, some (27, true), [27], fun v _ => v = .pointer (some ⟨g9, 2, none⟩)⟩,
 ⟨Op.load 3 (Operand.tmp 152), some 153, some (27, true), [28, 27], fun v _ => v = .int .i64 o⟩,
 ⟨Op.binOp BinOp.neq 3 (Operand.tmp 153) (Operand.const (Value.int IntKind.i64 0)) 3, some 154, some (27, true), [29, 27], fun v _ => v = .bool false⟩,
 ⟨Op.pick (Operand.tmp 151) (Operand.tmp 154) (Operand.const (Value.bool false)), some 155, some (22, false), [27, 30, 22], fun v _ => v = .bool false⟩,
 ⟨Op.pick (Operand.tmp 146) (Operand.const (Value.bool true)) (Operand.tmp 155), some 156, none, [22, 31], fun v _ => v = .bool false⟩]
noncomputable def sm24b_base (g9 mt : Nat) (h o : Int) (A2 : Option Addr) (ct : Nat) (v0 v1 v2 v3 v4 v5 v6 v8 v10 v12 v13 v14 v15 v16 v17 v18 v19 v20 v21 v22 v23 v24 v25 v26 v27 v28 v29 v30 v31 v32 v33 v34 v35 v36 v37 v38 v39 v40 v41 v42 v43 v44 v45 v46 v47 v48 v49 v50 v51 v52 v53 v54 v55 v56 v57 v58 v59 v60 v61 v62 v63 v64 v65 v66 v67 v68 v69 v70 v71 v72 v73 v74 v75 v76 v77 v78 v79 v80 v81 v82 v83 v84 v85 v86 v87 v88 v89 v90 v91 v92 v93 v94 v95 v96 v97 v98 v99 v100 v101 v102 v103 v104 v105 v106 v107 v108 v109 v110 v111 v112 v113 v114 v115 v116 v117 v118 v119 v120 v121 v122 v123 v157 v158 v159 v160 v161 v162 v163 v164 v165 v166 v167 v168 v169 v170 v171 v172 v173 v174 v175 v176 v177 v178 v179 v180 v181 v182 v183 v184 v185 v186 v187 v188 v189 v190 v191 v192 v193 v194 v195 v196 v197 v198 v199 v200 v201 v202 v203 v204 v205 v206 v207 v208 v209 v210 v211 v212 v213 v214 v215 v216 v217 v218 v219 v220 v221 v222 v223 v224 v225 v226 v227 v228 v229 v230 v231 : Value) : List (Nat × Value) := [(7, .int .i64 h), (9, .pointer (some ⟨g9, 0, none⟩)), (11, .int .i64 h), (0, v0), (1, v1), (2, v2), (3, v3), (4, v4), (5, v5), (6, v6), (8, v8), (10, v10), (12, v12), (13, v13), (14, v14), (15, v15), (16, v16), (17, v17), (18, v18), (19, v19), (20, v20), (21, v21), (22, v22), (23, v23), (24, v24), (25, v25), (26, v26), (27, v27), (28, v28), (29, v29), (30, v30), (31, v31), (32, v32), (33, v33), (34, v34), (35, v35), (36, v36), (37, v37), (38, v38), (39, v39), (40, v40), (41, v41), (42, v42), (43, v43), (44, v44), (45, v45), (46, v46), (47, v47), (48, v48), (49, v49), (50, v50), (51, v51), (52, v52), (53, v53), (54, v54), (55, v55), (56, v56), (57, v57), (58, v58), (59, v59), (60, v60), (61, v61), (62, v62), (63, v63), (64, v64), (65, v65), (66, v66), (67, v67), (68, v68), (69, v69), (70, v70), (71, v71), (72, v72), (73, v73), (74, v74), (75, v75), (76, v76), (77, v77), (78, v78), (79, v79), (80, v80), (81, v81), (82, v82), (83, v83), (84, v84), (85, v85), (86, v86), (87, v87), (88, v88), (89, v89), (90, v90), (91, v91), (92, v92), (93, v93), (94, v94), (95, v95), (96, v96), (97, v97), (98, v98), (99, v99), (100, v100), (101, v101), (102, v102), (103, v103), (104, v104), (105, v105), (106, v106), (107, v107), (108, v108), (109, v109), (110, v110), (111, v111), (112, v112), (113, v113), (114, v114), (115, v115), (116, v116), (117, v117), (118, v118), (119, v119), (120, v120), (121, v121), (122, v122), (123, v123), (157, v157), (158, v158), (159, v159), (160, v160), (161, v161), (162, v162), (163, v163), (164, v164), (165, v165), (166, v166), (167, v167), (168, v168), (169, v169), (170, v170), (171, v171), (172, v172), (173, v173), (174, v174), (175, v175), (176, v176), (177, v177), (178, v178), (179, v179), (180, v180), (181, v181), (182, v182), (183, v183), (184, v184), (185, v185), (186, v186), (187, v187), (188, v188), (189, v189), (190, v190), (191, v191), (192, v192), (193, v193), (194, v194), (195, v195), (196, v196), (197, v197), (198, v198), (199, v199), (200, v200), (201, v201), (202, v202), (203, v203), (204, v204), (205, v205), (206, v206), (207, v207), (208, v208), (209, v209), (210, v210), (211, v211), (212, v212), (213, v213), (214, v214), (215, v215), (216, v216), (217, v217), (218, v218), (219, v219), (220, v220), (221, v221), (222, v222), (223, v223), (224, v224), (225, v225), (226, v226), (227, v227), (228, v228), (229, v229), (230, v230), (231, v231)]
set_option maxRecDepth 100000 in
set_option maxHeartbeats 4000000 in
theorem sm24b_steps (V : World) (g9 mt : Nat) (h o : Int) (A2 : Option Addr) (ct : Nat) (v0 v1 v2 v3 v4 v5 v6 v8 v10 v12 v13 v14 v15 v16 v17 v18 v19 v20 v21 v22 v23 v24 v25 v26 v27 v28 v29 v30 v31 v32 v33 v34 v35 v36 v37 v38 v39 v40 v41 v42 v43 v44 v45 v46 v47 v48 v49 v50 v51 v52 v53 v54 v55 v56 v57 v58 v59 v60 v61 v62 v63 v64 v65 v66 v67 v68 v69 v70 v71 v72 v73 v74 v75 v76 v77 v78 v79 v80 v81 v82 v83 v84 v85 v86 v87 v88 v89 v90 v91 v92 v93 v94 v95 v96 v97 v98 v99 v100 v101 v102 v103 v104 v105 v106 v107 v108 v109 v110 v111 v112 v113 v114 v115 v116 v117 v118 v119 v120 v121 v122 v123 v157 v158 v159 v160 v161 v162 v163 v164 v165 v166 v167 v168 v169 v170 v171 v172 v173 v174 v175 v176 v177 v178 v179 v180 v181 v182 v183 v184 v185 v186 v187 v188 v189 v190 v191 v192 v193 v194 v195 v196 v197 v198 v199 v200 v201 v202 v203 v204 v205 v206 v207 v208 v209 v210 v211 v212 v213 v214 v215 v216 v217 v218 v219 v220 v221 v222 v223 v224 v225 v226 v227 v228 v229 v230 v231 : Value) (HC1 : ∀ w', Lat V w' → w'.cell? ⟨g9, 1, none⟩ = some (.slice A2 mt ct)) (HC2 : ∀ w', Lat V w' → w'.cell? ⟨g9, 2, none⟩ = some (.int .i64 o)) (hm : mt = 0) (ho : o = 0) :
  AllStepsN Tryz.prog (sm24b_rows g9 mt h o A2 ct) (sm24b_base g9 mt h o A2 ct v0 v1 v2 v3 v4 v5 v6 v8 v10 v12 v13 v14 v15 v16 v17 v18 v19 v20 v21 v22 v23 v24 v25 v26 v27 v28 v29 v30 v31 v32 v33 v34 v35 v36 v37 v38 v39 v40 v41 v42 v43 v44 v45 v46 v47 v48 v49 v50 v51 v52 v53 v54 v55 v56 v57 v58 v59 v60 v61 v62 v63 v64 v65 v66 v67 v68 v69 v70 v71 v72 v73 v74 v75 v76 v77 v78 v79 v80 v81 v82 v83 v84 v85 v86 v87 v88 v89 v90 v91 v92 v93 v94 v95 v96 v97 v98 v99 v100 v101 v102 v103 v104 v105 v106 v107 v108 v109 v110 v111 v112 v113 v114 v115 v116 v117 v118 v119 v120 v121 v122 v123 v157 v158 v159 v160 v161 v162 v163 v164 v165 v166 v167 v168 v169 v170 v171 v172 v173 v174 v175 v176 v177 v178 v179 v180 v181 v182 v183 v184 v185 v186 v187 v188 v189 v190 v191 v192 v193 v194 v195 v196 v197 v198 v199 v200 v201 v202 v203 v204 v205 v206 v207 v208 v209 v210 v211 v212 v213 v214 v215 v216 v217 v218 v219 v220 v221 v222 v223 v224 v225 v226 v227 v228 v229 v230 v231) V (sm24b_rows g9 mt h o A2 ct) := by
 refine n1 ?_ (eb 11) (fun ev w hl ec e1 d ty p af g => ?_)
 refine n1 ?_ (eb 7) (fun ev w hl ec e1 d ty p af g => ?_)
 refine n2 ?_ (ed 0) (ed 1) (fun ev w hl ec e1 e2 d ty p af g => ?_)
 refine n1 ?_ (ed 2) (fun ev w hl ec e1 d ty p af g => ?_)
 refine n1 ?_ (eb 9) (fun ev w hl ec e1 d ty p af g => ?_)
 refine n1 ?_ (ed 4) (fun ev w hl ec e1 d ty p af g => by unfold execOp; simp only [e1, ec]; have hc := HC1 w hl; go_simp)
 refine n1 ?_ (ed 5) (fun ev w hl ec e1 d ty p af g => ?_)
 refine n1 ?_ (ed 6) (fun ev w hl ec e1 d ty p af g => ?_)
 refine n1 ?_ (ed 7) (fun ev w hl ec e1 d ty p af g => ?_)
 refine nk ?_
 refine nk ?_
 refine nk ?_
 refine nk ?_
 refine nk ?_
 refine nk ?_
 refine nk ?_
 refine nk ?_
 refine nk ?_
 refine nk ?_
 refine nk ?_
 refine n1 ?_ (ed 8) (fun ev w hl ec e1 d ty p af g => ?_)
 refine n2 ?_ (ed 3) (ed 20) (fun ev w hl ec e1 e2 d ty p af g => ?_)
 refine n1 ?_ (ed 21) (fun ev w hl ec e1 d ty p af g => ?_)
 refine n1 ?_ (eb 9) (fun ev w hl ec e1 d ty p af g => ?_)
 refine n1 ?_ (ed 23) (fun ev w hl ec e1 d ty p af g => by unfold execOp; simp only [e1, ec]; have hc := HC1 w hl; go_simp)
 refine n1 ?_ (ed 24) (fun ev w hl ec e1 d ty p af g => ?_)
 refine n1 ?_ (ed 25) (fun ev w hl ec e1 d ty p af g => ?_)
 refine n1 ?_ (ed 26) (fun ev w hl ec e1 d ty p af g => ?_)
 refine n1 ?_ (eb 9) (fun ev w hl ec e1 d ty p af g => ?_)
 refine n1 ?_ (ed 28) (fun ev w hl ec e1 d ty p af g => by unfold execOp; simp only [e1, ec]; have hc := HC2 w hl; go_simp)
 refine n1 ?_ (ed 29) (fun ev w hl ec e1 d ty p af g => ?_)
 refine n2 ?_ (ed 27) (ed 30) (fun ev w hl ec e1 e2 d ty p af g => ?_)
 refine n2 ?_ (ed 22) (ed 31) (fun ev w hl ec e1 e2 d ty p af g => ?_)
 ·exact AllStepsN.none
 all_goals (unfold execOp; first | simp only [e1, e2, ec] | simp only [e1, ec] | simp only [ec])
 all_goals go_simp
noncomputable def sm28_rows (g16 gB cB n cc : Nat) (B1 : Option Addr) : List SRow := [
 ⟨Op.move (Operand.tmp 17), some 168, none, [], fun v _ => v = .int .i64 0⟩,
 ⟨Op.binOp BinOp.neq 31 (Operand.tmp 168) (Operand.const (Value.int IntKind.i64 0)) 31, some 169, none, [0], fun v _ => v = .bool false⟩,
 ⟨Op.move (Operand.tmp 169), some 170, none, [1], fun v _ => v = .bool false⟩,
 ⟨Op.move (Operand.tmp 19), some 171, some (2, false), [2], fun v _ => v = .int .i64 0⟩,
 ⟨Op.binOp BinOp.neq 31 (Operand.tmp 171) (Operand.const (Value.int IntKind.i64 0)) 31, some 172, some (2, false), [3, 2], fun v _ => v = .bool false⟩,
 ⟨Op.pick (Operand.tmp 170) (Operand.const (Value.bool true)) (Operand.tmp 172), some 173, none, [2, 4], fun v _ => v = .bool false⟩,
 ⟨Op.move (Operand.tmp 173), some 174, none, [5, 2], fun v _ => v = .bool false⟩,
 ⟨Op.fieldAddr 54 (Operand.tmp 16) 0, some 175, some (6, false), [6], fun v _ => v = .pointer (some ⟨g16, 0, none⟩)⟩,
 ⟨Op.load 27 (Operand.tmp 175), some 176, some (6, false), [7, 6], fun v _ => v = .slice (some ⟨gB, 0, none⟩) n cB⟩,
 ⟨Op.call { callee := Callee.builtin Builtin.len, args := #[Operand.tmp 176], argTypes := #[27] }, some 177, some (6, false), [8, 6], fun v _ => v = .int .i64 (n : Int)⟩,
 ⟨Op.move (Operand.tmp 5), some 178, some (6, false), [6], fun v _ => v = .slice B1 n cc⟩,
 ⟨Op.call { callee := Callee.builtin Builtin.len, args := #[Operand.tmp 178], argTypes := #[27] }, some 179, some (6, false), [10, 6], fun v _ => v = .int .i64 (n : Int)⟩,
 ⟨Op.binOp BinOp.neq 3 (Operand.tmp 177) (Operand.tmp 179) 3, some 180, some (6, false), [9, 11, 6], fun v _ => v = .bool false⟩,
 ⟨Op.pick (Operand.tmp 174) (Operand.const (Value.bool true)) (Operand.tmp 180), some 181, none, [6, 12], fun v _ => v = .bool false⟩]
noncomputable def sm28_base (g16 gB cB n cc : Nat) (B1 : Option Addr) (v0 v1 v2 v3 v4 v6 v7 v8 v9 v10 v11 v12 v13 v14 v15 v18 v20 v21 v22 v23 v24 v25 v26 v27 v28 v29 v30 v31 v32 v33 v34 v35 v36 v37 v38 v39 v40 v41 v42 v43 v44 v45 v46 v47 v48 v49 v50 v51 v52 v53 v54 v55 v56 v57 v58 v59 v60 v61 v62 v63 v64 v65 v66 v67 v68 v69 v70 v71 v72 v73 v74 v75 v76 v77 v78 v79 v80 v81 v82 v83 v84 v85 v86 v87 v88 v89 v90 v91 v92 v93 v94 v95 v96 v97 v98 v99 v100 v101 v102 v103 v104 v105 v106 v107 v108 v109 v110 v111 v112 v113 v114 v115 v116 v117 v118 v119 v120 v121 v122 v123 v124 v125 v126 v127 v128 v129 v130 v131 v132 v133 v134 v135 v136 v137 v138 v139 v140 v141 v142 v143 v144 v145 v146 v147 v148 v149 v150 v151 v152 v153 v154 v155 v156 v157 v158 v159 v160 v161 v162 v163 v164 v165 v166 v167 v182 v183 v184 v185 v186 v187 v188 v189 v190 v191 v192 v193 v194 v195 v196 v197 v198 v199 v200 v201 v202 v203 v204 v205 v206 v207 v208 v209 v210 v211 v212 v213 v214 v215 v216 v217 v218 v219 v220 v221 v222 v223 v224 v225 v226 v227 v228 v229 v230 v231 : Value) : List (Nat × Value) := [(5, .slice B1 n cc), (16, .pointer (some ⟨g16, 0, none⟩)), (17, .int .i64 0), (19, .int .i64 0), (0, v0), (1, v1), (2, v2), (3, v3), (4, v4), (6, v6), (7, v7), (8, v8), (9, v9), (10, v10), (11, v11), (12, v12), (13, v13), (14, v14), (15, v15), (18, v18), (20, v20), (21, v21), (22, v22), (23, v23), (24, v24), (25, v25), (26, v26), (27, v27), (28, v28), (29, v29), (30, v30), (31, v31), (32, v32), (33, v33), (34, v34), (35, v35), (36, v36), (37, v37), (38, v38), (39, v39), (40, v40), (41, v41), (42, v42), (43, v43), (44, v44), (45, v45), (46, v46), (47, v47), (48, v48), (49, v49), (50, v50), (51, v51), (52, v52), (53, v53), (54, v54), (55, v55), (56, v56), (57, v57), (58, v58), (59, v59), (60, v60), (61, v61), (62, v62), (63, v63), (64, v64), (65, v65), (66, v66), (67, v67), (68, v68), (69, v69), (70, v70), (71, v71), (72, v72), (73, v73), (74, v74), (75, v75), (76, v76), (77, v77), (78, v78), (79, v79), (80, v80), (81, v81), (82, v82), (83, v83), (84, v84), (85, v85), (86, v86), (87, v87), (88, v88), (89, v89), (90, v90), (91, v91), (92, v92), (93, v93), (94, v94), (95, v95), (96, v96), (97, v97), (98, v98), (99, v99), (100, v100), (101, v101), (102, v102), (103, v103), (104, v104), (105, v105), (106, v106), (107, v107), (108, v108), (109, v109), (110, v110), (111, v111), (112, v112), (113, v113), (114, v114), (115, v115), (116, v116), (117, v117), (118, v118), (119, v119), (120, v120), (121, v121), (122, v122), (123, v123), (124, v124), (125, v125), (126, v126), (127, v127), (128, v128), (129, v129), (130, v130), (131, v131), (132, v132), (133, v133), (134, v134), (135, v135), (136, v136), (137, v137), (138, v138), (139, v139), (140, v140), (141, v141), (142, v142), (143, v143), (144, v144), (145, v145), (146, v146), (147, v147), (148, v148), (149, v149), (150, v150), (151, v151), (152, v152), (153, v153), (154, v154), (155, v155), (156, v156), (157, v157), (158, v158), (159, v159), (160, v160), (161, v161), (162, v162), (163, v163), (164, v164), (165, v165), (166, v166), (167, v167), (182, v182), (183, v183), (184, v184), (185, v185), (186, v186), (187, v187), (188, v188), (189, v189), (190, v190), (191, v191), (192, v192), (193, v193), (194, v194), (195, v195), (196, v196), (197, v197), (198, v198), (199, v199), (200, v200), (201, v201), (202, v202), (203, v203), (204, v204), (205, v205), (206, v206), (207, v207), (208, v208), (209, v209), (210, v210), (211, v211), (212, v212), (213, v213), (214, v214), (215, v215), (216, v216), (217, v217), (218, v218), (219, v219), (220, v220), (221, v221), (222, v222), (223, v223), (224, v224), (225, v225), (226, v226), (227, v227), (228, v228), (229, v229), (230, v230), (231, v231)]
set_option maxRecDepth 100000 in
set_option maxHeartbeats 4000000 in
theorem sm28_steps (V : World) (g16 gB cB n cc : Nat) (B1 : Option Addr) (v0 v1 v2 v3 v4 v6 v7 v8 v9 v10 v11 v12 v13 v14 v15 v18 v20 v21 v22 v23 v24 v25 v26 v27 v28 v29 v30 v31 v32 v33 v34 v35 v36 v37 v38 v39 v40 v41 v42 v43 v44 v45 v46 v47 v48 v49 v50 v51 v52 v53 v54 v55 v56 v57 v58 v59 v60 v61 v62 v63 v64 v65 v66 v67 v68 v69 v70 v71 v72 v73 v74 v75 v76 v77 v78 v79 v80 v81 v82 v83 v84 v85 v86 v87 v88 v89 v90 v91 v92 v93 v94 v95 v96 v97 v98 v99 v100 v101 v102 v103 v104 v105 v106 v107 v108 v109 v110 v111 v112 v113 v114 v115 v116 v117 v118 v119 v120 v121 v122 v123 v124 v125 v126 v127 v128 v129 v130 v131 v132 v133 v134 v135 v136 v137 v138 v139 v140 v141 v142 v143 v144 v145 v146 v147 v148 v149 v150 v151 v152 v153 v154 v155 v156 v157 v158 v159 v160 v161 v162 v163 v164 v165 v166 v167 v182 v183 v184 v185 v186 v187 v188 v189 v190 v191 v192 v193 v194 v195 v196 v197 v198 v199 v200 v201 v202 v203 v204 v205 v206 v207 v208 v209 v210 v211 v212 v213 v214 v215 v216 v217 v218 v219 v220 v221 v222 v223 v224 v225 v226 v227 v228 v229 v230 v231 : Value) (HC1 : ∀ w', Lat V w' → w'.cell? ⟨g16, 0, none⟩ = some (.slice (some ⟨gB, 0, none⟩) n cB)) :
  AllStepsN Tryz.prog (sm28_rows g16 gB cB n cc B1) (sm28_base g16 gB cB n cc B1 v0 v1 v2 v3 v4 v6 v7 v8 v9 v10 v11 v12 v13 v14 v15 v18 v20 v21 v22 v23 v24 v25 v26 v27 v28 v29 v30 v31 v32 v33 v34 v35 v36 v37 v38 v39 v40 v41 v42 v43 v44 v45 v46 v47 v48 v49 v50 v51 v52 v53 v54 v55 v56 v57 v58 v59 v60 v61 v62 v63 v64 v65 v66 v67 v68 v69 v70 v71 v72 v73 v74 v75 v76 v77 v78 v79 v80 v81 v82 v83 v84 v85 v86 v87 v88 v89 v90 v91 v92 v93 v94 v95 v96 v97 v98 v99 v100 v101 v102 v103 v104 v105 v106 v107 v108 v109 v110 v111 v112 v113 v114 v115 v116 v117 v118 v119 v120 v121 v122 v123 v124 v125 v126 v127 v128 v129 v130 v131 v132 v133 v134 v135 v136 v137 v138 v139 v140 v141 v142 v143 v144 v145 v146 v147 v148 v149 v150 v151 v152 v153 v154 v155 v156 v157 v158 v159 v160 v161 v162 v163 v164 v165 v166 v167 v182 v183 v184 v185 v186 v187 v188 v189 v190 v191 v192 v193 v194 v195 v196 v197 v198 v199 v200 v201 v202 v203 v204 v205 v206 v207 v208 v209 v210 v211 v212 v213 v214 v215 v216 v217 v218 v219 v220 v221 v222 v223 v224 v225 v226 v227 v228 v229 v230 v231) V (sm28_rows g16 gB cB n cc B1) := by
 refine n1 ?_ (eb 17) (fun ev w hl ec e1 d ty p af g => ?_)
 refine n1 ?_ (ed 0) (fun ev w hl ec e1 d ty p af g => ?_)
 refine n1 ?_ (ed 1) (fun ev w hl ec e1 d ty p af g => ?_)
 refine n1 ?_ (eb 19) (fun ev w hl ec e1 d ty p af g => ?_)
 refine n1 ?_ (ed 3) (fun ev w hl ec e1 d ty p af g => ?_)
 refine n2 ?_ (ed 2) (ed 4) (fun ev w hl ec e1 e2 d ty p af g => ?_)
 refine n1 ?_ (ed 5) (fun ev w hl ec e1 d ty p af g => ?_)
 refine n1 ?_ (eb 16) (fun ev w hl ec e1 d ty p af g => ?_)
 refine n1 ?_ (ed 7) (fun ev w hl ec e1 d ty p af g => by unfold execOp; simp only [e1, ec]; have hc := HC1 w hl; go_simp)
 refine n1 ?_ (ed 8) (fun ev w hl ec e1 d ty p af g => ?_)
 refine n1 ?_ (eb 5) (fun ev w hl ec e1 d ty p af g => ?_)
 refine n1 ?_ (ed 10) (fun ev w hl ec e1 d ty p af g => ?_)
 refine n2 ?_ (ed 9) (ed 11) (fun ev w hl ec e1 e2 d ty p af g => ?_)
 refine n2 ?_ (ed 6) (ed 12) (fun ev w hl ec e1 e2 d ty p af g => ?_)
 ·exact AllStepsN.none
 all_goals (unfold execOp; first | simp only [e1, e2, ec] | simp only [e1, ec] | simp only [ec])
 all_goals go_simp
noncomputable def sm33_rows (b1 o1 n cc j : Nat) (x h N z q r : Int) : List SRow := [
 ⟨Op.move (Operand.tmp 5), some 190, none, [], fun v _ => v = .slice (some ⟨b1, o1, none⟩) n cc⟩,
 ⟨Op.move (Operand.tmp 20), some 191, none, [], fun v _ => v = .int .i64 (j : Int)⟩,
 ⟨Op.indexAddr 27 (Operand.tmp 190) (Operand.tmp 191), some 192, none, [0, 1], fun v _ => v = .pointer (some ⟨b1, o1 + j, none⟩)⟩,
 ⟨Op.load 3 (Operand.tmp 192), some 193, none, [2], fun v _ => v = .int .i64 x⟩,
 ⟨Op.move (Operand.tmp 7), some 194, none, [], fun v _ => v = .int .i64 h⟩,
 ⟨Op.binOp BinOp.mul 3 (Operand.tmp 193) (Operand.tmp 194) 3, some 195, none, [3, 4], fun v _ => v = .int .i64 z⟩,
 ⟨Op.move (Operand.tmp 18), some 196, none, [], fun v _ => v = .int .i64 N⟩,
 ⟨Op.binOp BinOp.quo 3 (Operand.tmp 195) (Operand.tmp 196) 3, some 197, none, [5, 6], fun v _ => v = .int .i64 q⟩,
 ⟨Op.move (Operand.tmp 5), some 198, none, [], fun v _ => v = .slice (some ⟨b1, o1, none⟩) n cc⟩,
 ⟨Op.move (Operand.tmp 20), some 199, none, [], fun v _ => v = .int .i64 (j : Int)⟩,
 ⟨Op.indexAddr 27 (Operand.tmp 198) (Operand.tmp 199), some 200, none, [8, 9], fun v _ => v = .pointer (some ⟨b1, o1 + j, none⟩)⟩,
 ⟨Op.load 3 (Operand.tmp 200), some 201, none, [10], fun v _ => v = .int .i64 x⟩,
 ⟨Op.move (Operand.tmp 7), some 202, none, [], fun v _ => v = .int .i64 h⟩,
 ⟨Op.binOp BinOp.mul 3 (Operand.tmp 201) (Operand.tmp 202) 3, some 203, none, [11, 12], fun v _ => v = .int .i64 z⟩,
 ⟨Op.move (Operand.tmp 18), some 204, none, [], fun v _ => v = .int .i64 N⟩,
 ⟨Op.binOp BinOp.rem 3 (Operand.tmp 203) (Operand.tmp 204) 3, some 205, none, [13, 14], fun v _ => v = .int .i64 r⟩,
 ⟨Op.assign (Operand.tmp 197), some 22, none, [7, 0, 1, 2, 3, 4, 5, 6, 7], fun v _ => v = .int .i64 q⟩,
 ⟨Op.assign (Operand.tmp 205), some 23, none, [15, 16, 0, 1, 2, 3, 4, 5, 6, 7, 8, 9, 10, 11, 12, 13, 14, 15, 16], fun v _ => v = .int .i64 r⟩]
noncomputable def sm33_base (b1 o1 n cc j : Nat) (x h N z q r : Int) (v0 v1 v2 v3 v4 v6 v8 v9 v10 v11 v12 v13 v14 v15 v16 v17 v19 v21 v24 v25 v26 v27 v28 v29 v30 v31 v32 v33 v34 v35 v36 v37 v38 v39 v40 v41 v42 v43 v44 v45 v46 v47 v48 v49 v50 v51 v52 v53 v54 v55 v56 v57 v58 v59 v60 v61 v62 v63 v64 v65 v66 v67 v68 v69 v70 v71 v72 v73 v74 v75 v76 v77 v78 v79 v80 v81 v82 v83 v84 v85 v86 v87 v88 v89 v90 v91 v92 v93 v94 v95 v96 v97 v98 v99 v100 v101 v102 v103 v104 v105 v106 v107 v108 v109 v110 v111 v112 v113 v114 v115 v116 v117 v118 v119 v120 v121 v122 v123 v124 v125 v126 v127 v128 v129 v130 v131 v132 v133 v134 v135 v136 v137 v138 v139 v140 v141 v142 v143 v144 v145 v146 v147 v148 v149 v150 v151 v152 v153 v154 v155 v156 v157 v158 v159 v160 v161 v162 v163 v164 v165 v166 v167 v168 v169 v170 v171 v172 v173 v174 v175 v176 v177 v178 v179 v180 v181 v182 v183 v184 v185 v186 v187 v188 v189 v206 v207 v208 v209 v210 v211 v212 v213 v214 v215 v216 v217 v218 v219 v220 v221 v222 v223 v224 v225 v226 v227 v228 v229 v230 v231 : Value) : List (Nat × Value) := [(5, .slice (some ⟨b1, o1, none⟩) n cc), (7, .int .i64 h), (18, .int .i64 N), (20, .int .i64 (j : Int)), (0, v0), (1, v1), (2, v2), (3, v3), (4, v4), (6, v6), (8, v8), (9, v9), (10, v10), (11, v11), (12, v12), (13, v13), (14, v14), (15, v15), (16, v16), (17, v17), (19, v19), (21, v21), (24, v24), (25, v25), (26, v26), (27, v27), (28, v28), (29, v29), (30, v30), (31, v31), (32, v32), (33, v33), (34, v34), (35, v35), (36, v36), (37, v37), (38, v38), (39, v39), (40, v40), (41, v41), (42, v42), (43, v43), (44, v44), (45, v45), (46, v46), (47, v47), (48, v48), (49, v49), (50, v50), (51, v51), (52, v52), (53, v53), (54, v54), (55, v55), (56, v56), (57, v57), (58, v58), (59, v59), (60, v60), (61, v61), (62, v62), (63, v63), (64, v64), (65, v65), (66, v66), (67, v67), (68, v68), (69, v69), (70, v70), (71, v71), (72, v72), (73, v73), (74, v74), (75, v75), (76, v76), (77, v77), (78, v78), (79, v79), (80, v80), (81, v81), (82, v82), (83, v83), (84, v84), (85, v85), (86, v86), (87, v87), (88, v88), (89, v89), (90, v90), (91, v91), (92, v92), (93, v93), (94, v94), (95, v95), (96, v96), (97, v97), (98, v98), (99, v99), (100, v100), (101, v101), (102, v102), (103, v103), (104, v104), (105, v105), (106, v106), (107, v107), (108, v108), (109, v109), (110, v110), (111, v111), (112, v112), (113, v113), (114, v114), (115, v115), (116, v116), (117, v117), (118, v118), (119, v119), (120, v120), (121, v121), (122, v122), (123, v123), (124, v124), (125, v125), (126, v126), (127, v127), (128, v128), (129, v129), (130, v130), (131, v131), (132, v132), (133, v133), (134, v134), (135, v135), (136, v136), (137, v137), (138, v138), (139, v139), (140, v140), (141, v141), (142, v142), (143, v143), (144, v144), (145, v145), (146, v146), (147, v147), (148, v148), (149, v149), (150, v150), (151, v151), (152, v152), (153, v153), (154, v154), (155, v155), (156, v156), (157, v157), (158, v158), (159, v159), (160, v160), (161, v161), (162, v162), (163, v163), (164, v164), (165, v165), (166, v166), (167, v167), (168, v168), (169, v169), (170, v170), (171, v171), (172, v172), (173, v173), (174, v174), (175, v175), (176, v176), (177, v177), (178, v178), (179, v179), (180, v180), (181, v181), (182, v182), (183, v183), (184, v184), (185, v185), (186, v186), (187, v187), (188, v188), (189, v189), (206, v206), (207, v207), (208, v208), (209, v209), (210, v210), (211, v211), (212, v212), (213, v213), (214, v214), (215, v215), (216, v216), (217, v217), (218, v218), (219, v219), (220, v220), (221, v221), (222, v222), (223, v223), (224, v224), (225, v225), (226, v226), (227, v227), (228, v228), (229, v229), (230, v230), (231, v231)]
set_option maxRecDepth 100000 in
set_option maxHeartbeats 4000000 in
theorem sm33_steps (V : World) (b1 o1 n cc j : Nat) (x h N z q r : Int) (v0 v1 v2 v3 v4 v6 v8 v9 v10 v11 v12 v13 v14 v15 v16 v17 v19 v21 v24 v25 v26 v27 v28 v29 v30 v31 v32 v33 v34 v35 v36 v37 v38 v39 v40 v41 v42 v43 v44 v45 v46 v47 v48 v49 v50 v51 v52 v53 v54 v55 v56 v57 v58 v59 v60 v61 v62 v63 v64 v65 v66 v67 v68 v69 v70 v71 v72 v73 v74 v75 v76 v77 v78 v79 v80 v81 v82 v83 v84 v85 v86 v87 v88 v89 v90 v91 v92 v93 v94 v95 v96 v97 v98 v99 v100 v101 v102 v103 v104 v105 v106 v107 v108 v109 v110 v111 v112 v113 v114 v115 v116 v117 v118 v119 v120 v121 v122 v123 v124 v125 v126 v127 v128 v129 v130 v131 v132 v133 v134 v135 v136 v137 v138 v139 v140 v141 v142 v143 v144 v145 v146 v147 v148 v149 v150 v151 v152 v153 v154 v155 v156 v157 v158 v159 v160 v161 v162 v163 v164 v165 v166 v167 v168 v169 v170 v171 v172 v173 v174 v175 v176 v177 v178 v179 v180 v181 v182 v183 v184 v185 v186 v187 v188 v189 v206 v207 v208 v209 v210 v211 v212 v213 v214 v215 v216 v217 v218 v219 v220 v221 v222 v223 v224 v225 v226 v227 v228 v229 v230 v231 : Value) (hj : (j : Int) < (n : Int)) (hN : ¬ N = 0) (h1 : wrap64 (x * h) = z) (h2 : IntKind.i64.wrap (x * h) = z) (h3 : z.tdiv N = q) (h4 : wrap64 q = q) (h5 : IntKind.i64.wrap q = q) (h6 : z.tmod N = r) (h7 : wrap64 r = r) (h8 : IntKind.i64.wrap r = r) (HC1 : ∀ w', Lat V w' → w'.cell? ⟨b1, o1 + j, none⟩ = some (.int .i64 x)) :
  AllStepsN Tryz.prog (sm33_rows b1 o1 n cc j x h N z q r) (sm33_base b1 o1 n cc j x h N z q r v0 v1 v2 v3 v4 v6 v8 v9 v10 v11 v12 v13 v14 v15 v16 v17 v19 v21 v24 v25 v26 v27 v28 v29 v30 v31 v32 v33 v34 v35 v36 v37 v38 v39 v40 v41 v42 v43 v44 v45 v46 v47 v48 v49 v50 v51 v52 v53 v54 v55 v56 v57 v58 v59 v60 v61 v62 v63 v64 v65 v66 v67 v68 v69 v70 v71 v72 v73 v74 v75 v76 v77 v78 v79 v80 v81 v82 v83 v84 v85 v86 v87 v88 v89 v90 v91 v92 v93 v94 v95 v96 v97 v98 v99 v100 v101 v102 v103 v104 v105 v106 v107 v108 v109 v110 v111 v112 v113 v114 v115 v116 v117 v118 v119 v120 v121 v122 v123 v124 v125 v126 v127 v128 v129 v130 v131 v132 v133 v134 v135 v136 v137 v138 v139 v140 v141 v142 v143 v144 v145 v146 v147 v148 v149 v150 v151 v152 v153 v154 v155 v156 v157 v158 v159 v160 v161 v162 v163 v164 v165 v166 v167 v168 v169 v170 v171 v172 v173 v174 v175 v176 v177 v178 v179 v180 v181 v182 v183 v184 v185 v186 v187 v188 v189 v206 v207 v208 v209 v210 v211 v212 v213 v214 v215 v216 v217 v218 v219 v220 v221 v222 v223 v224 v225 v226 v227 v228 v229 v230 v231) V (sm33_rows b1 o1 n cc j x h N z q r) := by
 refine n1 ?_ (eb 5) (fun ev w hl ec e1 d ty p af g => ?_)
 refine n1 ?_ (eb 20) (fun ev w hl ec e1 d ty p af g => ?_)
 refine n2 ?_ (ed 0) (ed 1) (fun ev w hl ec e1 e2 d ty p af g => ?_)
 refine n1 ?_ (ed 2) (fun ev w hl ec e1 d ty p af g => by unfold execOp; simp only [e1, ec]; have hc := HC1 w hl; go_simp)
 refine n1 ?_ (eb 7) (fun ev w hl ec e1 d ty p af g => ?_)
 refine n2 ?_ (ed 3) (ed 4) (fun ev w hl ec e1 e2 d ty p af g => ?_)
 refine n1 ?_ (eb 18) (fun ev w hl ec e1 d ty p af g => ?_)
 refine n2 ?_ (ed 5) (ed 6) (fun ev w hl ec e1 e2 d ty p af g => ?_)
 refine n1 ?_ (eb 5) (fun ev w hl ec e1 d ty p af g => ?_)
 refine n1 ?_ (eb 20) (fun ev w hl ec e1 d ty p af g => ?_)
 refine n2 ?_ (ed 8) (ed 9) (fun ev w hl ec e1 e2 d ty p af g => ?_)
 refine n1 ?_ (ed 10) (fun ev w hl ec e1 d ty p af g => by unfold execOp; simp only [e1, ec]; have hc := HC1 w hl; go_simp)
 refine n1 ?_ (eb 7) (fun ev w hl ec e1 d ty p af g => ?_)
 refine n2 ?_ (ed 11) (ed 12) (fun ev w hl ec e1 e2 d ty p af g => ?_)
 refine n1 ?_ (eb 18) (fun ev w hl ec e1 d ty p af g => ?_)
 refine n2 ?_ (ed 13) (ed 14) (fun ev w hl ec e1 e2 d ty p af g => ?_)
 refine n1 ?_ (ed 7) (fun ev w hl ec e1 d ty p af g => ?_)
 refine n1 ?_ (ed 15) (fun ev w hl ec e1 d ty p af g => ?_)
 ·exact AllStepsN.none
 all_goals (unfold execOp; first | simp only [e1, e2, ec] | simp only [e1, ec] | simp only [ec])
 all_goals go_simp
noncomputable def sm37a_rows (g16 : Nat) (y q up : Int) (j : Nat) (A2 : Option Addr) (mt ct : Nat) : List SRow := [
 ⟨Op.move (Operand.tmp 21), some 211, none, [], fun v _ => v = .int .i64 y⟩,
 ⟨Op.move (Operand.tmp 22), some 212, none, [], fun v _ => v = .int .i64 q⟩,
 ⟨Op.binOp BinOp.lss 3 (Operand.tmp 211) (Operand.tmp 212) 3, some 213, none, [0, 1], fun v _ => v = .bool false⟩,
 ⟨Op.move (Operand.tmp 213), some 214, none, [2], fun v _ => v = .bool false⟩,
 ⟨Op.move (Operand.tmp 21), some 215, some (3, false), [3], fun v _ => v = .int .i64 y⟩,
 ⟨Op.move (Operand.tmp 24), some 216, some (3, false), [3], fun v _ => v = .int .i64 up⟩,
 ⟨Op.binOp BinOp.gtr 3 (Operand.tmp 215) (Operand.tmp 216) 3, some 217, some (3, false), [4, 5, 3], fun v _ => v = .bool false⟩,
 ⟨Op.pick (Operand.tmp 214) (Operand.const (Value.bool true)) (Operand.tmp 217), some 218, none, [3, 6], fun v _ => v = .bool false⟩,
 ⟨Op.move (Operand.tmp 218), some 219, none, [7, 3], fun v _ => v = .bool false⟩,
 ⟨Op.fieldAddr 54 (Operand.tmp 16) 1, some 220, some (8, false), [8], fun v _ => v = .pointer (some ⟨g16, 1, none⟩)⟩,
 ⟨Op.load 27 (Operand.tmp 220), some 221, some (8, false), [9, 8], fun v _ => v = .slice A2 mt ct⟩,
 ⟨Op.move (Operand.tmp 20), some 222, some (8, false), [8], fun v _ => v = .int .i64 (j : Int)⟩,
 ⟨Op.call { callee := Callee.value (Operand.func 34), args := #[Operand.tmp 221, Operand.tmp 222], argTypes := #[27, 3] }, some 223, some (8, false), [10, 11, 8, 8], fun v _ => v = .bool true⟩,
 ⟨Op.move (Operand.tmp 223), some 224, some (8, false), [12, 12, 8], fun v _ => v = .bool true⟩,
 ⟨Op.move (Operand.tmp 21), some 225, some (13, true), [13], fun v _ => v = .int .i64 y⟩,
 ⟨Op.binOp BinOp.add 3 (Operand.tmp 225) (Operand.const (Value.int IntKind.i64 1)) 3, some 226, some (13, true), [14, 13], fun v _ => v = .int .i64 (y + 1)⟩,
 ⟨Op.move (Operand.tmp 24), some 227, some (13, true), [13], fun v _ => v = .int .i64 up⟩,
 ⟨Op.binOp BinOp.gtr 3 (Operand.tmp 226) (Operand.tmp 227) 3, some 228, some (13, true), [15, 16, 13], fun v _ => v = .bool false⟩,
 ⟨Op.pick (Operand.tmp 224) (Operand.tmp 228) (Operand.const (Value.bool false)), some 229, some (8, false), [13, 17, 8], fun v _ => v = .bool false⟩,
 ⟨Op.pick (Operand.tmp 219) (Operand.const (Value.bool true)) (Operand.tmp 229), some 230, none, [8, 18], fun v _ => v = .bool false⟩]
noncomputable def sm37a_base (g16 : Nat) (y q up : Int) (j : Nat) (A2 : Option Addr) (mt ct : Nat) (v0 v1 v2 v3 v4 v5 v6 v7 v8 v9 v10 v11 v12 v13 v14 v15 v17 v18 v19 v23 v25 v26 v27 v28 v29 v30 v31 v32 v33 v34 v35 v36 v37 v38 v39 v40 v41 v42 v43 v44 v45 v46 v47 v48 v49 v50 v51 v52 v53 v54 v55 v56 v57 v58 v59 v60 v61 v62 v63 v64 v65 v66 v67 v68 v69 v70 v71 v72 v73 v74 v75 v76 v77 v78 v79 v80 v81 v82 v83 v84 v85 v86 v87 v88 v89 v90 v91 v92 v93 v94 v95 v96 v97 v98 v99 v100 v101 v102 v103 v104 v105 v106 v107 v108 v109 v110 v111 v112 v113 v114 v115 v116 v117 v118 v119 v120 v121 v122 v123 v124 v125 v126 v127 v128 v129 v130 v131 v132 v133 v134 v135 v136 v137 v138 v139 v140 v141 v142 v143 v144 v145 v146 v147 v148 v149 v150 v151 v152 v153 v154 v155 v156 v157 v158 v159 v160 v161 v162 v163 v164 v165 v166 v167 v168 v169 v170 v171 v172 v173 v174 v175 v176 v177 v178 v179 v180 v181 v182 v183 v184 v185 v186 v187 v188 v189 v190 v191 v192 v193 v194 v195 v196 v197 v198 v199 v200 v201 v202 v203 v204 v205 v206 v207 v208 v209 v210 v231 : Value) : List (Nat × Value) := [(16, .pointer (some ⟨g16, 0, none⟩)), (20, .int .i64 (j : Int)), (21, .int .i64 y), (22, .int .i64 q), (24, .int .i64 up), (0, v0), (1, v1), (2, v2), (3, v3), (4, v4), (5, v5), (6, v6), (7, v7), (8, v8), (9, v9), (10, v10), (11, v11), (12, v12), (13, v13), (14, v14), (15, v15), (17, v17), (18, v18), (19, v19), (23, v23), (25, v25), (26, v26), (27, v27), (28, v28), (29, v29), (30, v30), (31, v31), (32, v32), (33, v33), (34, v34), (35, v35), (36, v36), (37, v37), (38, v38), (39, v39), (40, v40), (41, v41), (42, v42), (43, v43), (44, v44), (45, v45), (46, v46), (47, v47), (48, v48), (49, v49), (50, v50), (51, v51), (52, v52), (53, v53), (54, v54), (55, v55), (56, v56), (57, v57), (58, v58), (59, v59), (60, v60), (61, v61), (62, v62), (63, v63), (64, v64), (65, v65), (66, v66), (67, v67), (68, v68), (69, v69), (70, v70), (71, v71), (72, v72), (73, v73), (74, v74), (75, v75), (76, v76), (77, v77), (78, v78), (79, v79), (80, v80), (81, v81), (82, v82), (83, v83), (84, v84), (85, v85), (86, v86), (87, v87), (88, v88), (89, v89), (90, v90), (91, v91), (92, v92), (93, v93), (94, v94), (95, v95), (96, v96), (97, v97), (98, v98), (99, v99), (100, v100), (101, v101), (102, v102), (103, v103), (104, v104), (105, v105), (106, v106), (107, v107), (108, v108), (109, v109), (110, v110), (111, v111), (112, v112), (113, v113), (114, v114), (115, v115), (116, v116), (117, v117), (118, v118), (119, v119), (120, v120), (121, v121), (122, v122), (123, v123), (124, v124), (125, v125), (126, v126), (127, v127), (128, v128), (129, v129), (130, v130), (131, v131), (132, v132), (133, v133), (134, v134), (135, v135), (136, v136), (137, v137), (138, v138), (139, v139), (140, v140), (141, v141), (142, v142), (143, v143), (144, v144), (145, v145), (146, v146), (147, v147), (148, v148), (149, v149), (150, v150), (151, v151), (152, v152), (153, v153), (154, v154), (155, v155), (156, v156), (157, v157), (158, v158), (159, v159), (160, v160), (161, v161), (162, v162), (163, v163), (164, v164), (165, v165), (166, v166), (167, v167), (168, v168), (169, v169), (170, v170), (171, v171), (172, v172), (173, v173), (174, v174), (175, v175), (176, v176), (177, v177), (178, v178), (179, v179), (180, v180), (181, v181), (182, v182), (183, v183), (184, v184), (185, v185), (186, v186), (187, v187), (188, v188), (189, v189), (190, v190), (191, v191), (192, v192), (193, v193), (194, v194), (195, v195), (196, v196), (197, v197), (198, v198), (199, v199), (200, v200), (201, v201), (202, v202), (203, v203), (204, v204), (205, v205), (206, v206), (207, v207), (208, v208), (209, v209), (210, v210), (231, v231)]
set_option maxRecDepth 100000 in
set_option maxHeartbeats 4000000 in
theorem sm37a_steps (V : World) (g16 : Nat) (y q up : Int) (j : Nat) (A2 : Option Addr) (mt ct : Nat) (v0 v1 v2 v3 v4 v5 v6 v7 v8 v9 v10 v11 v12 v13 v14 v15 v17 v18 v19 v23 v25 v26 v27 v28 v29 v30 v31 v32 v33 v34 v35 v36 v37 v38 v39 v40 v41 v42 v43 v44 v45 v46 v47 v48 v49 v50 v51 v52 v53 v54 v55 v56 v57 v58 v59 v60 v61 v62 v63 v64 v65 v66 v67 v68 v69 v70 v71 v72 v73 v74 v75 v76 v77 v78 v79 v80 v81 v82 v83 v84 v85 v86 v87 v88 v89 v90 v91 v92 v93 v94 v95 v96 v97 v98 v99 v100 v101 v102 v103 v104 v105 v106 v107 v108 v109 v110 v111 v112 v113 v114 v115 v116 v117 v118 v119 v120 v121 v122 v123 v124 v125 v126 v127 v128 v129 v130 v131 v132 v133 v134 v135 v136 v137 v138 v139 v140 v141 v142 v143 v144 v145 v146 v147 v148 v149 v150 v151 v152 v153 v154 v155 v156 v157 v158 v159 v160 v161 v162 v163 v164 v165 v166 v167 v168 v169 v170 v171 v172 v173 v174 v175 v176 v177 v178 v179 v180 v181 v182 v183 v184 v185 v186 v187 v188 v189 v190 v191 v192 v193 v194 v195 v196 v197 v198 v199 v200 v201 v202 v203 v204 v205 v206 v207 v208 v209 v210 v231 : Value) (HC1 : ∀ w', Lat V w' → w'.cell? ⟨g16, 1, none⟩ = some (.slice A2 mt ct)) (HCC : ∀ w, Lat V w → Calls Tryz.prog 34 #[.slice A2 mt ct, .int .i64 (j : Int)] w (fun e w' => e = .returned (.bool true) ∧ Lat w w')) (h1 : ¬ y < q) (h1' : q ≤ y) (h2 : ¬ up < y) (h2' : y ≤ up) (h3 : wrap64 (y + 1) = y + 1) (h4 : IntKind.i64.wrap (y + 1) = y + 1) (h5 : ¬ up < y + 1) (h5' : y + 1 ≤ up) :
  AllStepsN Tryz.prog (sm37a_rows g16 y q up j A2 mt ct) (sm37a_base g16 y q up j A2 mt ct v0 v1 v2 v3 v4 v5 v6 v7 v8 v9 v10 v11 v12 v13 v14 v15 v17 v18 v19 v23 v25 v26 v27 v28 v29 v30 v31 v32 v33 v34 v35 v36 v37 v38 v39 v40 v41 v42 v43 v44 v45 v46 v47 v48 v49 v50 v51 v52 v53 v54 v55 v56 v57 v58 v59 v60 v61 v62 v63 v64 v65 v66 v67 v68 v69 v70 v71 v72 v73 v74 v75 v76 v77 v78 v79 v80 v81 v82 v83 v84 v85 v86 v87 v88 v89 v90 v91 v92 v93 v94 v95 v96 v97 v98 v99 v100 v101 v102 v103 v104 v105 v106 v107 v108 v109 v110 v111 v112 v113 v114 v115 v116 v117 v118 v119 v120 v121 v122 v123 v124 v125 v126 v127 v128 v129 v130 v131 v132 v133 v134 v135 v136 v137 v138 v139 v140 v141 v142 v143 v144 v145 v146 v147 v148 v149 v150 v151 v152 v153 v154 v155 v156 v157 v158 v159 v160 v161 v162 v163 v164 v165 v166 v167 v168 v169 v170 v171 v172 v173 v174 v175 v176 v177 v178 v179 v180 v181 v182 v183 v184 v185 v186 v187 v188 v189 v190 v191 v192 v193 v194 v195 v196 v197 v198 v199 v200 v201 v202 v203 v204 v205 v206 v207 v208 v209 v210 v231) V (sm37a_rows g16 y q up j A2 mt ct) := by
 refine n1 ?_ (eb 21) (fun ev w hl ec e1 d ty p af g => ?_)
 refine n1 ?_ (eb 22) (fun ev w hl ec e1 d ty p af g => ?_)
 refine n2 ?_ (ed 0) (ed 1) (fun ev w hl ec e1 e2 d ty p af g => ?_)
 refine n1 ?_ (ed 2) (fun ev w hl ec e1 d ty p af g => ?_)
 refine n1 ?_ (eb 21) (fun ev w hl ec e1 d ty p af g => ?_)
 refine n1 ?_ (eb 24) (fun ev w hl ec e1 d ty p af g => ?_)
 refine n2 ?_ (ed 4) (ed 5) (fun ev w hl ec e1 e2 d ty p af g => ?_)
 refine n2 ?_ (ed 3) (ed 6) (fun ev w hl ec e1 e2 d ty p af g => ?_)
 refine n1 ?_ (ed 7) (fun ev w hl ec e1 d ty p af g => ?_)
 refine n1 ?_ (eb 16) (fun ev w hl ec e1 d ty p af g => ?_)
 refine n1 ?_ (ed 9) (fun ev w hl ec e1 d ty p af g => by unfold execOp; simp only [e1, ec]; have hc := HC1 w hl; go_simp)
 refine n1 ?_ (eb 20) (fun ev w hl ec e1 d ty p af g => ?_)
 refine AllStepsN.next (fun _ _ _ h _ => h) (fun j b h => by cases h; exact ⟨_, rfl, ⟨_, rfl⟩, by simp, fun _ _ h => h⟩) (fun a w hl hb hd o ho => by obtain ⟨v1, e1, q1⟩ := hd 10 _ _ (by simp) rfl rfl; subst q1; obtain ⟨v2, e2, q2⟩ := hd 11 _ _ (by simp) rfl rfl; subst q2; exact Runs.call (yv_call (f := 34) (fun _ => by go_simp) o ho (by simp only [List.map_toArray, List.map_cons, List.map_nil, eval_const, e1, e2])) ((HCC w hl).mono fun e w' h => ⟨_, h.1, h.2, fun _ => rfl⟩)) ?_
 refine n1 ?_ (ed 12) (fun ev w hl ec e1 d ty p af g => ?_)
 refine n1 ?_ (eb 21) (fun ev w hl ec e1 d ty p af g => ?_)
 refine n1 ?_ (ed 14) (fun ev w hl ec e1 d ty p af g => ?_)
 refine n1 ?_ (eb 24) (fun ev w hl ec e1 d ty p af g => ?_)
 refine n2 ?_ (ed 15) (ed 16) (fun ev w hl ec e1 e2 d ty p af g => ?_)
 refine n2 ?_ (ed 13) (ed 17) (fun ev w hl ec e1 e2 d ty p af g => ?_)
 refine n2 ?_ (ed 8) (ed 18) (fun ev w hl ec e1 e2 d ty p af g => ?_)
 ·exact AllStepsN.none
 all_goals (unfold execOp; first | simp only [e1, e2, ec] | simp only [e1, ec] | simp only [ec])
 all_goals go_simp
noncomputable def sm37b_rows (g16 : Nat) (y q up : Int) (j : Nat) (A2 : Option Addr) (mt ct : Nat) : List SRow := [
 ⟨Op.move (Operand.tmp 21), some 211, none, [], fun v _ => v = .int .i64 y⟩,
 ⟨Op.move (Operand.tmp 22), some 212, none, [], fun v _ => v = .int .i64 q⟩,
 ⟨Op.binOp BinOp.lss 3 (Operand.tmp 211) (Operand.tmp 212) 3, some 213, none, [0, 1], fun v _ => v = .bool false⟩,
 ⟨Op.move (Operand.tmp 213), some 214, none, [2], fun v _ => v = .bool false⟩,
 ⟨Op.move (Operand.tmp 21), some 215, some (3, false), [3], fun v _ => v = .int .i64 y⟩,
 ⟨Op.move (Operand.tmp 24), some 216, some (3, false), [3], fun v _ => v = .int .i64 up⟩,
 ⟨Op.binOp BinOp.gtr 3 (Operand.tmp 215) (Operand.tmp 216) 3, some 217, some (3, false), [4, 5, 3], fun v _ => v = .bool false⟩,
 ⟨Op.pick (Operand.tmp 214) (Operand.const (Value.bool true)) (Operand.tmp 217), some 218, none, [3, 6], fun v _ => v = .bool false⟩,
 ⟨Op.move (Operand.tmp 218), some 219, none, [7, 3], fun v _ => v = .bool false⟩,
 ⟨Op.fieldAddr 54 (Operand.tmp 16) 1, some 220, some (8, false), [8], fun v _ => v = .pointer (some ⟨g16, 1, none⟩)⟩,
 ⟨Op.load 27 (Operand.tmp 220), some 221, some (8, false), [9, 8], fun v _ => v = .slice A2 mt ct⟩,
 ⟨Op.move (Operand.tmp 20), some 222, some (8, false), [8], fun v _ => v = .int .i64 (j : Int)⟩,
 ⟨Op.call { callee := Callee.value (Operand.func 34), args := #[Operand.tmp 221, Operand.tmp 222], argTypes := #[27, 3] }, some 223, some (8, false), [10, 11, 8, 8], fun v _ => v = .bool false⟩,
 ⟨Op.move (Operand.tmp 223), some 224, some (8, false), [12, 12, 8], fun v _ => v = .bool false⟩,
 ⟨Op.move (Operand.tmp 21), some 225, some (13, true), [13], fun v _ => v = undef⟩,
 ⟨Op.binOp BinOp.add 3 (Operand.tmp 225) (Operand.const (Value.int IntKind.i64 1)) 3, some 226, some (13, true), [14, 13], fun v _ => v = undef⟩,
 ⟨Op.move (Operand.tmp 24), some 227, some (13, true), [13], fun v _ => v = undef⟩,
 ⟨Op.binOp BinOp.gtr 3 (Operand.tmp 226) (Operand.tmp 227) 3, some 228, some (13, true), [15, 16, 13], fun v _ => v = undef⟩,
 ⟨Op.pick (Operand.tmp 224) (Operand.tmp 228) (Operand.const (Value.bool false)), some 229, some (8, false), [13, 17, 8], fun v _ => v = .bool false⟩,
 ⟨Op.pick (Operand.tmp 219) (Operand.const (Value.bool true)) (Operand.tmp 229), some 230, none, [8, 18], fun v _ => v = .bool false⟩]
noncomputable def sm37b_base (g16 : Nat) (y q up : Int) (j : Nat) (A2 : Option Addr) (mt ct : Nat) (v0 v1 v2 v3 v4 v5 v6 v7 v8 v9 v10 v11 v12 v13 v14 v15 v17 v18 v19 v23 v25 v26 v27 v28 v29 v30 v31 v32 v33 v34 v35 v36 v37 v38 v39 v40 v41 v42 v43 v44 v45 v46 v47 v48 v49 v50 v51 v52 v53 v54 v55 v56 v57 v58 v59 v60 v61 v62 v63 v64 v65 v66 v67 v68 v69 v70 v71 v72 v73 v74 v75 v76 v77 v78 v79 v80 v81 v82 v83 v84 v85 v86 v87 v88 v89 v90 v91 v92 v93 v94 v95 v96 v97 v98 v99 v100 v101 v102 v103 v104 v105 v106 v107 v108 v109 v110 v111 v112 v113 v114 v115 v116 v117 v118 v119 v120 v121 v122 v123 v124 v125 v126 v127 v128 v129 v130 v131 v132 v133 v134 v135 v136 v137 v138 v139 v140 v141 v142 v143 v144 v145 v146 v147 v148 v149 v150 v151 v152 v153 v154 v155 v156 v157 v158 v159 v160 v161 v162 v163 v164 v165 v166 v167 v168 v169 v170 v171 v172 v173 v174 v175 v176 v177 v178 v179 v180 v181 v182 v183 v184 v185 v186 v187 v188 v189 v190 v191 v192 v193 v194 v195 v196 v197 v198 v199 v200 v201 v202 v203 v204 v205 v206 v207 v208 v209 v210 v231 : Value) : List (Nat × Value) := [(16, .pointer (some ⟨g16, 0, none⟩)), (20, .int .i64 (j : Int)), (21, .int .i64 y), (22, .int .i64 q), (24, .int .i64 up), (0, v0), (1, v1), (2, v2), (3, v3), (4, v4), (5, v5), (6, v6), (7, v7), (8, v8), (9, v9), (10, v10), (11, v11), (12, v12), (13, v13), (14, v14), (15, v15), (17, v17), (18, v18), (19, v19), (23, v23), (25, v25), (26, v26), (27, v27), (28, v28), (29, v29), (30, v30), (31, v31), (32, v32), (33, v33), (34, v34), (35, v35), (36, v36), (37, v37), (38, v38), (39, v39), (40, v40), (41, v41), (42, v42), (43, v43), (44, v44), (45, v45), (46, v46), (47, v47), (48, v48), (49, v49), (50, v50), (51, v51), (52, v52), (53, v53), (54, v54), (55, v55), (56, v56), (57, v57), (58, v58), (59, v59), (60, v60), (61, v61), (62, v62), (63, v63), (64, v64), (65, v65), (66, v66), (67, v67), (68, v68), (69, v69), (70, v70), (71, v71), (72, v72), (73, v73), (74, v74), (75, v75), (76, v76), (77, v77), (78, v78), (79, v79), (80, v80), (81, v81), (82, v82), (83, v83), (84, v84), (85, v85), (86, v86), (87, v87), (88, v88), (89, v89), (90, v90), (91, v91), (92, v92), (93, v93), (94, v94), (95, v95), (96, v96), (97, v97), (98, v98), (99, v99), (100, v100), (101, v101), (102, v102), (103, v103), (104, v104), (105, v105), (106, v106), (107, v107), (108, v108), (109, v109), (110, v110), (111, v111), (112, v112), (113, v113), (114, v114), (115, v115), (116, v116), (117, v117), (118, v118), (119, v119), (120, v120), (121, v121), (122, v122), (123, v123), (124, v124), (125, v125), (126, v126), (127, v127), (128, v128), (129, v129), (130, v130), (131, v131), (132, v132), (133, v133), (134, v134), (135, v135), (136, v136), (137, v137), (138, v138), (139, v139), (140, v140), (141, v141), (142, v142), (143, v143), (144, v144), (145, v145), (146, v146), (147, v147), (148, v148), (149, v149), (150, v150), (151, v151), (152, v152), (153, v153), (154, v154), (155, v155), (156, v156), (157, v157), (158, v158), (159, v159), (160, v160), (161, v161), (162, v162), (163, v163), (164, v164), (165, v165), (166, v166), (167, v167), (168, v168), (169, v169), (170, v170), (171, v171), (172, v172), (173, v173), (174, v174), (175, v175), (176, v176), (177, v177), (178, v178), (179, v179), (180, v180), (181, v181), (182, v182), (183, v183), (184, v184), (185, v185), (186, v186), (187, v187), (188, v188), (189, v189), (190, v190), (191, v191), (192, v192), (193, v193), (194, v194), (195, v195), (196, v196), (197, v197), (198, v198), (199, v199), (200, v200), (201, v201), (202, v202), (203, v203), (204, v204), (205, v205), (206, v206), (207, v207), (208, v208), (209, v209), (210, v210), (231, v231)]
set_option maxRecDepth 100000 in
set_option maxHeartbeats 4000000 in
theorem sm37b_steps (V : World) (g16 : Nat) (y q up : Int) (j : Nat) (A2 : Option Addr) (mt ct : Nat) (v0 v1 v2 v3 v4 v5 v6 v7 v8 v9 v10 v11 v12 v13 v14 v15 v17 v18 v19 v23 v25 v26 v27 v28 v29 v30 v31 v32 v33 v34 v35 v36 v37 v38 v39 v40 v41 v42 v43 v44 v45 v46 v47 v48 v49 v50 v51 v52 v53 v54 v55 v56 v57 v58 v59 v60 v61 v62 v63 v64 v65 v66 v67 v68 v69 v70 v71 v72 v73 v74 v75 v76 v77 v78 v79 v80 v81 v82 v83 v84 v85 v86 v87 v88 v89 v90 v91 v92 v93 v94 v95 v96 v97 v98 v99 v100 v101 v102 v103 v104 v105 v106 v107 v108 v109 v110 v111 v112 v113 v114 v115 v116 v117 v118 v119 v120 v121 v122 v123 v124 v125 v126 v127 v128 v129 v130 v131 v132 v133 v134 v135 v136 v137 v138 v139 v140 v141 v142 v143 v144 v145 v146 v147 v148 v149 v150 v151 v152 v153 v154 v155 v156 v157 v158 v159 v160 v161 v162 v163 v164 v165 v166 v167 v168 v169 v170 v171 v172 v173 v174 v175 v176 v177 v178 v179 v180 v181 v182 v183 v184 v185 v186 v187 v188 v189 v190 v191 v192 v193 v194 v195 v196 v197 v198 v199 v200 v201 v202 v203 v204 v205 v206 v207 v208 v209 v210 v231 : Value) (HC1 : ∀ w', Lat V w' → w'.cell? ⟨g16, 1, none⟩ = some (.slice A2 mt ct)) (HCC : ∀ w, Lat V w → Calls Tryz.prog 34 #[.slice A2 mt ct, .int .i64 (j : Int)] w (fun e w' => e = .returned (.bool false) ∧ Lat w w')) (h1 : ¬ y < q) (h1' : q ≤ y) (h2 : ¬ up < y) (h2' : y ≤ up) :
  AllStepsN Tryz.prog (sm37b_rows g16 y q up j A2 mt ct) (sm37b_base g16 y q up j A2 mt ct v0 v1 v2 v3 v4 v5 v6 v7 v8 v9 v10 v11 v12 v13 v14 v15 v17 v18 v19 v23 v25 v26 v27 v28 v29 v30 v31 v32 v33 v34 v35 v36 v37 v38 v39 v40 v41 v42 v43 v44 v45 v46 v47 v48 v49 v50 v51 v52 v53 v54 v55 v56 v57 v58 v59 v60 v61 v62 v63 v64 v65 v66 v67 v68 v69 v70 v71 v72 v73 v74 v75 v76 v77 v78 v79 v80 v81 v82 v83 v84 v85 v86 v87 v88 v89 v90 v91 v92 v93 v94 v95 v96 v97 v98 v99 v100 v101 v102 v103 v104 v105 v106 v107 v108 v109 v110 v111 v112 v113 v114 v115 v116 v117 v118 v119 v120 v121 v122 v123 v124 v125 v126 v127 v128 v129 v130 v131 v132 v133 v134 v135 v136 v137 v138 v139 v140 v141 v142 v143 v144 v145 v146 v147 v148 v149 v150 v151 v152 v153 v154 v155 v156 v157 v158 v159 v160 v161 v162 v163 v164 v165 v166 v167 v168 v169 v170 v171 v172 v173 v174 v175 v176 v177 v178 v179 v180 v181 v182 v183 v184 v185 v186 v187 v188 v189 v190 v191 v192 v193 v194 v195 v196 v197 v198 v199 v200 v201 v202 v203 v204 v205 v206 v207 v208 v209 v210 v231) V (sm37b_rows g16 y q up j A2 mt ct) := by
 refine n1 ?_ (eb 21) (fun ev w hl ec e1 d ty p af g => ?_)
 refine n1 ?_ (eb 22) (fun ev w hl ec e1 d ty p af g => ?_)
 refine n2 ?_ (ed 0) (ed 1) (fun ev w hl ec e1 e2 d ty p af g => ?_)
 refine n1 ?_ (ed 2) (fun ev w hl ec e1 d ty p af g => ?_)
 refine n1 ?_ (eb 21) (fun ev w hl ec e1 d ty p af g => ?_)
 refine n1 ?_ (eb 24) (fun ev w hl ec e1 d ty p af g => ?_)
 refine n2 ?_ (ed 4) (ed 5) (fun ev w hl ec e1 e2 d ty p af g => ?_)
 refine n2 ?_ (ed 3) (ed 6) (fun ev w hl ec e1 e2 d ty p af g => ?_)
 refine n1 ?_ (ed 7) (fun ev w hl ec e1 d ty p af g => ?_)
 refine n1 ?_ (eb 16) (fun ev w hl ec e1 d ty p af g => ?_)
 refine n1 ?_ (ed 9) (fun ev w hl ec e1 d ty p af g => by unfold execOp; simp only [e1, ec]; have hc := HC1 w hl; go_simp)
 refine n1 ?_ (eb 20) (fun ev w hl ec e1 d ty p af g => ?_)
 refine AllStepsN.next (fun _ _ _ h _ => h) (fun j b h => by cases h; exact ⟨_, rfl, ⟨_, rfl⟩, by simp, fun _ _ h => h⟩) (fun a w hl hb hd o ho => by obtain ⟨v1, e1, q1⟩ := hd 10 _ _ (by simp) rfl rfl; subst q1; obtain ⟨v2, e2, q2⟩ := hd 11 _ _ (by simp) rfl rfl; subst q2; exact Runs.call (yv_call (f := 34) (fun _ => by go_simp) o ho (by simp only [List.map_toArray, List.map_cons, List.map_nil, eval_const, e1, e2])) ((HCC w hl).mono fun e w' h => ⟨_, h.1, h.2, fun _ => rfl⟩)) ?_
 refine n1 ?_ (ed 12) (fun ev w hl ec e1 d ty p af g => ?_)
 refine nk ?_
 refine nk ?_
 refine nk ?_
 refine nk ?_
 refine n1 ?_ (ed 13) (fun ev w hl ec e1 d ty p af g => ?_)
 refine n2 ?_ (ed 8) (ed 18) (fun ev w hl ec e1 e2 d ty p af g => ?_)
 ·exact AllStepsN.none
 all_goals (unfold execOp; first | simp only [e1, e2, ec] | simp only [e1, ec] | simp only [ec])
 all_goals go_simp
end Go.Proofs.YtbgngmamnonlbaaGreat
