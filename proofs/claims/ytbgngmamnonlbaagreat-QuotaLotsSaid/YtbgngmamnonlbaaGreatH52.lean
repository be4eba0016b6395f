/- Several texts in one: LtP, LtR, Lts. -/
import Derived.Test.YtbgngmamnonlbaaGreatH50
import Derived.Test.YtbgngmamnonlbaaGreatH29
import Derived.Test.YtbgngmamnonlbaaGreatH51
import Derived.Test.YtbgngmamnonlbaaGreatH40
import Derived.Test.YtbgngmamnonlbaaGreatH36
namespace Go.Proofs.YtbgngmamnonlbaaGreat
open Go.RowKit
def rotL (n t k : Nat) : List Nat := (List.range k).map (fun i => (i + t) % n)
def othL (n t : Nat) (T : List Nat) (k : Nat) : List Nat := (rotL n t k).filter (fun x => decide (x ∉ T))
theorem rotL_len (n t k : Nat) : (rotL n t k).length = k := by simp [rotL]
theorem rotL_succ (n t k : Nat) : rotL n t (k + 1) = rotL n t k ++ [(k + t) % n] := by simp [rotL, List.range_succ]
theorem othL_len (n t : Nat) (T : List Nat) (k : Nat) : (othL n t T k).length ≤ k := by
 have := List.length_filter_le (fun x => decide (x ∉ T)) (rotL n t k)
 rw [rotL_len] at this
 exact this
theorem othL_yes {n t k : Nat} {T : List Nat} (h : (k + t) % n ∉ T) : othL n t T (k + 1) = othL n t T k ++ [(k + t) % n] := by
 unfold othL
 rw [rotL_succ, List.filter_append, List.filter_cons_of_pos (by simpa using h)]
 rfl
theorem othL_no {n t k : Nat} {T : List Nat} (h : (k + t) % n ∈ T) : othL n t T (k + 1) = othL n t T k := by
 unfold othL
 rw [rotL_succ, List.filter_append, List.filter_cons_of_neg (by simpa using h)]
 simp
theorem rotL_lt {n t k : Nat} (hn : 0 < n) : ∀ x ∈ rotL n t k, x < n := fun x hx => by
 obtain ⟨i, _, rfl⟩ := List.mem_map.1 hx
 exact Nat.mod_lt _ hn
theorem othL_lt {n t k : Nat} {T : List Nat} (hn : 0 < n) : ∀ x ∈ othL n t T k, x < n := fun x hx => rotL_lt hn x (List.mem_filter.1 hx).1
theorem rotL_all {n t i : Nat} (hi : i < n) : i ∈ rotL n t n := (turn_perm n t (by omega)).mem_iff.2 (List.mem_range.2 hi)
structure LotIs (n : Nat) (S : List Int) (T : List Nat) (h : Int) (L : List Int) : Prop where
 len : L.length = n
 sum : L.sum = h
 at_ : ∀ (i : Nat) (x y : Int), S[i]? = some x → L[i]? = some y → y = x ∨ (y = x + 1 ∧ i ∈ T)
theorem lot_all {n t o : Nat} {S : List Int} {T : List Nat} {h : Int} (hl : S.length = n) (hs : S.sum + (o : Int) = h) (ha : T.Pairwise (· < ·)) (hT : ∀ x ∈ T, x < n) (ho : (T = [] ∧ (o : Int) = 0) ∨ (1 ≤ (o : Int) ∧ (o : Int) < T.length)) :
  ∃ G, setl (rotL n t n ++ rotL n t n) T o = (G, 0) ∧ LotIs n S T h (bump S G) ∧ G.length = o := by
 have hnd : T.Nodup := ha.imp (fun h e => by omega)
 have hoT : o ≤ T.length := by
  rcases ho with ⟨_, h9⟩ | ⟨_, h9⟩
  ·omega
  ·omega
 have h2 : (setl (rotL n t n ++ rotL n t n) T o).2 = 0 := setl_all hnd (fun i hi => List.mem_append_left _ (rotL_all (hT i hi))) hoT
 obtain ⟨g1, g2, g3, _⟩ := setl_ok (rotL n t n ++ rotL n t n) T o hnd
 obtain ⟨G, hG⟩ : ∃ G, (setl (rotL n t n ++ rotL n t n) T o).1 = G := ⟨_, rfl⟩
 rw [hG] at g1 g2 g3
 rw [h2] at g3
 refine ⟨G, Prod.ext hG h2, ⟨by rw [bump_length, hl], ?_, fun i x y hx hy => ?_⟩, by omega⟩
 ·rw [bump_sum (fun j hj => by rw [hl]; exact hT j (g2 j hj).1)]
  omega
 ·by_cases hm : i ∈ G
  ·have := bump_mem (S := S) g1 hm (List.getElem?_eq_some_iff.1 hx).1
   rw [atI_of hx, atI_of hy] at this
   exact .inr ⟨this, (g2 i hm).1⟩
  ·have := bump_other (S := S) hm
   rw [atI_of hx, atI_of hy] at this
   exact .inl this
theorem lot_none {n t o k : Nat} {T : List Nat} : setl (othL n t T k) T o = ([], o) := setl_none (fun i hi => by simpa using (List.mem_filter.1 hi).2)
end Go.Proofs.YtbgngmamnonlbaaGreat
namespace Go.Proofs.YtbgngmamnonlbaaGreat
open Go.RowKit
set_option linter.unusedSimpArgs false
set_option linter.unusedVariables false
set_option maxRecDepth 100000
theorem spell160 (T : Array Value) (h : T.size = 160) : ∃ f : Nat → Value, (∀ k, f k = T.getD k undef) ∧ T = #[f 0, f 1, f 2, f 3, f 4, f 5, f 6, f 7, f 8, f 9, f 10, f 11, f 12, f 13, f 14, f 15, f 16, f 17, f 18, f 19, f 20, f 21, f 22, f 23, f 24, f 25, f 26, f 27, f 28, f 29, f 30, f 31, f 32, f 33, f 34, f 35, f 36, f 37, f 38, f 39, f 40, f 41, f 42, f 43, f 44, f 45, f 46, f 47, f 48, f 49, f 50, f 51, f 52, f 53, f 54, f 55, f 56, f 57, f 58, f 59, f 60, f 61, f 62, f 63, f 64, f 65, f 66, f 67, f 68, f 69, f 70, f 71, f 72, f 73, f 74, f 75, f 76, f 77, f 78, f 79, f 80, f 81, f 82, f 83, f 84, f 85, f 86, f 87, f 88, f 89, f 90, f 91, f 92, f 93, f 94, f 95, f 96, f 97, f 98, f 99, f 100, f 101, f 102, f 103, f 104, f 105, f 106, f 107, f 108, f 109, f 110, f 111, f 112, f 113, f 114, f 115, f 116, f 117, f 118, f 119, f 120, f 121, f 122, f 123, f 124, f 125, f 126, f 127, f 128, f 129, f 130, f 131, f 132, f 133, f 134, f 135, f 136, f 137, f 138, f 139, f 140, f 141, f 142, f 143, f 144, f 145, f 146, f 147, f 148, f 149, f 150, f 151, f 152, f 153, f 154, f 155, f 156, f 157, f 158, f 159] := ⟨fun k => T.getD k undef, fun _ => rfl, (spell 160 T h).trans (by kernel_rfl)⟩
noncomputable def lt20a_rows (g9 gl cl n : Nat) (A1 : Option Addr) (cc : Nat) (E : Int) : List SRow := [
 ⟨Op.move (Operand.tmp 16), some 88, none, [], fun v _ => v = .int .i64 0⟩,
 ⟨Op.binOp BinOp.neq 31 (Operand.tmp 88) (Operand.const (Value.int IntKind.i64 0)) 31, some 89, none, [0], fun v _ => v = .bool false⟩,
 ⟨Op.move (Operand.tmp 89), some 90, none, [1], fun v _ => v = .bool false⟩,
 ⟨Op.move (Operand.tmp 15), some 91, some (2, false), [2], fun v _ => v = .slice (some ⟨gl, 0, none⟩) n cl⟩,
 ⟨Op.call { callee := Callee.builtin Builtin.len, args := #[Operand.tmp 91], argTypes := #[27] }, some 92, some (2, false), [3, 2], fun v _ => v = .int .i64 (n : Int)⟩,
 ⟨Op.move (Operand.tmp 7), some 93, some (2, false), [2], fun v _ => v = .slice A1 n cc⟩,
 ⟨Op.call { callee := Callee.builtin Builtin.len, args := #[Operand.tmp 93], argTypes := #[27] }, some 94, some (2, false), [5, 2], fun v _ => v = .int .i64 (n : Int)⟩,
 ⟨Op.binOp BinOp.neq 3 (Operand.tmp 92) (Operand.tmp 94) 3, some 95, some (2, false), [4, 6, 2], fun v _ => v = .bool false⟩,
 ⟨Op.pick (Operand.tmp 90) (Operand.const (Value.bool true)) (Operand.tmp 95), some 96, none, [2, 7], fun v _ => v = .bool false⟩,
 ⟨Op.move (Operand.tmp 96), some 97, none, [8, 2], fun v _ => v = .bool false⟩,
 ⟨Op.move (Operand.tmp 18), some 98, some (9, false), [9], fun v _ => v = .int .i64 E⟩,
 ⟨Op.binOp BinOp.eql 31 (Operand.tmp 98) (Operand.const (Value.int IntKind.i64 0)) 31, some 99, some (9, false), [10, 9], fun v _ => v = .bool true⟩,
 ⟨Op.fieldAddr 54 (Operand.tmp 9) 2, some 100, some (9, false), [9], fun v _ => v = .pointer (some ⟨g9, 2, none⟩)⟩,
 ⟨Op.load 3 (Operand.tmp 100), some 101, some (9, false), [12, 9], fun v _ => v = .int .i64 0⟩,
 ⟨Op.binOp BinOp.eql 3 (Operand.tmp 101) (Operand.const (Value.int IntKind.i64 0)) 3, some 102, some (9, false), [13, 9], fun v _ => v = .bool true⟩,
 ⟨Op.binOp BinOp.neq 4 (Operand.tmp 99) (Operand.tmp 102) 4, some 103, some (9, false), [11, 14, 9], fun v _ => v = .bool false⟩,
 ⟨Op.pick (Operand.tmp 97) (Operand.const (Value.bool true)) (Operand.tmp 103), some 104, none, [9, 15], fun v _ => v = .bool false⟩,
 ⟨Op.move (Operand.tmp 104), some 105, none, [16, 9], fun v _ => v = .bool false⟩,
 ⟨Op.move (Operand.tmp 18), some 106, some (17, false), [17], fun v _ => v = .int .i64 E⟩,
 ⟨Op.binOp BinOp.neq 31 (Operand.tmp 106) (Operand.const (Value.int IntKind.i64 0)) 31, some 107, some (17, false), [18, 17], fun v _ => v = .bool false⟩,
 ⟨Op.move (Operand.tmp 107), some 108, some (17, false), [19, 17, 17], fun v _ => v = .bool false⟩,
 ⟨Op.move (Operand.tmp 18), some 109, some (20, true), [20], fun v _ => v = undef⟩,
 ⟨Op.binOp BinOp.neq 31 (Operand.tmp 109) (Operand.const (Value.int IntKind.i64 4)) 31, some 110, some (20, true), [21, 20], fun v _ => v = undef⟩,
 ⟨Op.pick (Operand.tmp 108) (Operand.tmp 110) (Operand.const (Value.bool false)), some 111, some (17, false), [20, 22, 17], fun v _ => v = .bool false⟩,
 ⟨Op.pick (Operand.tmp 105) (Operand.const (Value.bool true)) (Operand.tmp 111), some 112, none, [17, 23], fun v _ => v = .bool false⟩]
noncomputable def lt20a_base (g9 gl cl n : Nat) (A1 : Option Addr) (cc : Nat) (E : Int) (v0 v1 v2 v3 v4 v5 v6 v8 v10 v11 v12 v13 v14 v17 v19 v20 v21 v22 v23 v24 v25 v26 v27 v28 v29 v30 v31 v32 v33 v34 v35 v36 v37 v38 v39 v40 v41 v42 v43 v44 v45 v46 v47 v48 v49 v50 v51 v52 v53 v54 v55 v56 v57 v58 v59 v60 v61 v62 v63 v64 v65 v66 v67 v68 v69 v70 v71 v72 v73 v74 v75 v76 v77 v78 v79 v80 v81 v82 v83 v84 v85 v86 v87 v113 v114 v115 v116 v117 v118 v119 v120 v121 v122 v123 v124 v125 v126 v127 v128 v129 v130 v131 v132 v133 v134 v135 v136 v137 v138 v139 v140 v141 v142 v143 v144 v145 v146 v147 v148 v149 v150 v151 v152 v153 v154 v155 v156 v157 v158 v159 : Value) : List (Nat × Value) := [(7, .slice A1 n cc), (9, .pointer (some ⟨g9, 0, none⟩)), (15, .slice (some ⟨gl, 0, none⟩) n cl), (16, .int .i64 0), (18, .int .i64 E), (0, v0), (1, v1), (2, v2), (3, v3), (4, v4), (5, v5), (6, v6), (8, v8), (10, v10), (11, v11), (12, v12), (13, v13), (14, v14), (17, v17), (19, v19), (20, v20), (21, v21), (22, v22), (23, v23), (24, v24), (25, v25), (26, v26), (27, v27), (28, v28), (29, v29), (30, v30), (31, v31), (32, v32), (33, v33), (34, v34), (35, v35), (36, v36), (37, v37), (38, v38), (39, v39), (40, v40), (41, v41), (42, v42), (43, v43), (44, v44), (45, v45), (46, v46), (47, v47), (48, v48), (49, v49), (50, v50), (51, v51), (52, v52), (53, v53), (54, v54), (55, v55), (56, v56), (57, v57), (58, v58), (59, v59), (60, v60), (61, v61), (62, v62), (63, v63), (64, v64), (65, v65), (66, v66), (67, v67), (68, v68), (69, v69), (70, v70), (71, v71), (72, v72), (73, v73), (74, v74), (75, v75), (76, v76), (77, v77), (78, v78), (79, v79), (80, v80), (81, v81), (82, v82), (83, v83), (84, v84), (85, v85), (86, v86), (87, v87), (113, v113), (114, v114), (115, v115), (116, v116), (117, v117), (118, v118), (119, v119), (120, v120), (121, v121), (122, v122), (123, v123), (124, v124), (125, v125), (126, v126), (127, v127), (128, v128), (129, v129), (130, v130), (131, v131), (132, v132), (133, v133), (134, v134), (135, v135), (136, v136), (137, v137), (138, v138), (139, v139), (140, v140), (141, v141), (142, v142), (143, v143), (144, v144), (145, v145), (146, v146), (147, v147), (148, v148), (149, v149), (150, v150), (151, v151), (152, v152), (153, v153), (154, v154), (155, v155), (156, v156), (157, v157), (158, v158), (159, v159)]
set_option maxRecDepth 100000 in
set_option maxHeartbeats 4000000 in
theorem lt20a_steps (V : World) (g9 gl cl n : Nat) (A1 : Option Addr) (cc : Nat) (E : Int) (v0 v1 v2 v3 v4 v5 v6 v8 v10 v11 v12 v13 v14 v17 v19 v20 v21 v22 v23 v24 v25 v26 v27 v28 v29 v30 v31 v32 v33 v34 v35 v36 v37 v38 v39 v40 v41 v42 v43 v44 v45 v46 v47 v48 v49 v50 v51 v52 v53 v54 v55 v56 v57 v58 v59 v60 v61 v62 v63 v64 v65 v66 v67 v68 v69 v70 v71 v72 v73 v74 v75 v76 v77 v78 v79 v80 v81 v82 v83 v84 v85 v86 v87 v113 v114 v115 v116 v117 v118 v119 v120 v121 v122 v123 v124 v125 v126 v127 v128 v129 v130 v131 v132 v133 v134 v135 v136 v137 v138 v139 v140 v141 v142 v143 v144 v145 v146 v147 v148 v149 v150 v151 v152 v153 v154 v155 v156 v157 v158 v159 : Value) (HC2 : ∀ w', Lat V w' → w'.cell? ⟨g9, 2, none⟩ = some (.int .i64 0)) (he : E = 0) :
  AllStepsN Tryz.prog (lt20a_rows g9 gl cl n A1 cc E) (lt20a_base g9 gl cl n A1 cc E v0 v1 v2 v3 v4 v5 v6 v8 v10 v11 v12 v13 v14 v17 v19 v20 v21 v22 v23 v24 v25 v26 v27 v28 v29 v30 v31 v32 v33 v34 v35 v36 v37 v38 v39 v40 v41 v42 v43 v44 v45 v46 v47 v48 v49 v50 v51 v52 v53 v54 v55 v56 v57 v58 v59 v60 v61 v62 v63 v64 v65 v66 v67 v68 v69 v70 v71 v72 v73 v74 v75 v76 v77 v78 v79 v80 v81 v82 v83 v84 v85 v86 v87 v113 v114 v115 v116 v117 v118 v119 v120 v121 v122 v123 v124 v125 v126 v127 v128 v129 v130 v131 v132 v133 v134 v135 v136 v137 v138 v139 v140 v141 v142 v143 v144 v145 v146 v147 v148 v149 v150 v151 v152 v153 v154 v155 v156 v157 v158 v159) V (lt20a_rows g9 gl cl n A1 cc E) := by
 refine n1 ?_ (eb 16) (fun ev w hl ec e1 d ty p af g => ?_)
 refine n1 ?_ (ed 0) (fun ev w hl ec e1 d ty p af g => ?_)
 refine n1 ?_ (ed 1) (fun ev w hl ec e1 d ty p af g => ?_)
 refine n1 ?_ (eb 15) (fun ev w hl ec e1 d ty p af g => ?_)
 refine n1 ?_ (ed 3) (fun ev w hl ec e1 d ty p af g => ?_)
 refine n1 ?_ (eb 7) (fun ev w hl ec e1 d ty p af g => ?_)
 refine n1 ?_ (ed 5) (fun ev w hl ec e1 d ty p af g => ?_)
 refine n2 ?_ (ed 4) (ed 6) (fun ev w hl ec e1 e2 d ty p af g => ?_)
 refine n2 ?_ (ed 2) (ed 7) (fun ev w hl ec e1 e2 d ty p af g => ?_)
 refine n1 ?_ (ed 8) (fun ev w hl ec e1 d ty p af g => ?_)
 refine n1 ?_ (eb 18) (fun ev w hl ec e1 d ty p af g => ?_)
 refine n1 ?_ (ed 10) (fun ev w hl ec e1 d ty p af g => ?_)
 refine n1 ?_ (eb 9) (fun ev w hl ec e1 d ty p af g => ?_)
 refine n1 ?_ (ed 12) (fun ev w hl ec e1 d ty p af g => by unfold execOp; simp only [e1, ec]; have hc := HC2 w hl; go_simp)
 refine n1 ?_ (ed 13) (fun ev w hl ec e1 d ty p af g => ?_)
 refine n2 ?_ (ed 11) (ed 14) (fun ev w hl ec e1 e2 d ty p af g => ?_)
 refine n2 ?_ (ed 9) (ed 15) (fun ev w hl ec e1 e2 d ty p af g => ?_)
 refine n1 ?_ (ed 16) (fun ev w hl ec e1 d ty p af g => ?_)
 refine n1 ?_ (eb 18) (fun ev w hl ec e1 d ty p af g => ?_)
 refine n1 ?_ (ed 18) (fun ev w hl ec e1 d ty p af g => ?_)
 refine n1 ?_ (ed 19) (fun ev w hl ec e1 d ty p af g => ?_)
 refine nk ?_
 refine nk ?_
 refine n1 ?_ (ed 20) (fun ev w hl ec e1 d ty p af g => ?_)
 refine n2 ?_ (ed 17) (ed 23) (fun ev w hl ec e1 e2 d ty p af g => ?_)
 ·exact AllStepsN.none
 all_goals (unfold execOp; first | simp only [e1, e2, ec] | simp only [e1, ec] | simp only [ec])
 all_goals go_simp
noncomputable def lt20b_rows (g9 gl cl n : Nat) (A1 : Option Addr) (cc : Nat) (E : Int) (o : Int) : List SRow := [
 ⟨Op.move (Operand.tmp 16), some 88, none, [], fun v _ => v = .int .i64 0⟩,
 ⟨Op.binOp BinOp.neq 31 (Operand.tmp 88) (Operand.const (Value.int IntKind.i64 0)) 31, some 89, none, [0], fun v _ => v = .bool false⟩,
 ⟨Op.move (Operand.tmp 89), some 90, none, [1], fun v _ => v = .bool false⟩,
 ⟨Op.move (Operand.tmp 15), some 91, some (2, false), [2], fun v _ => v = .slice (some ⟨gl, 0, none⟩) n cl⟩,
 ⟨Op.call { callee := Callee.builtin Builtin.len, args := #[Operand.tmp 91], argTypes := #[27] }, some 92, some (2, false), [3, 2], fun v _ => v = .int .i64 (n : Int)⟩,
 ⟨Op.move (Operand.tmp 7), some 93, some (2, false), [2], fun v _ => v = .slice A1 n cc⟩,
 ⟨Op.call { callee := Callee.builtin Builtin.len, args := #[Operand.tmp 93], argTypes := #[27] }, some 94, some (2, false), [5, 2], fun v _ => v = .int .i64 (n : Int)⟩,
 ⟨Op.binOp BinOp.neq 3 (Operand.tmp 92) (Operand.tmp 94) 3, some 95, some (2, false), [4, 6, 2], fun v _ => v = .bool false⟩,
 ⟨Op.pick (Operand.tmp 90) (Operand.const (Value.bool true)) (Operand.tmp 95), some 96, none, [2, 7], fun v _ => v = .bool false⟩,
 ⟨Op.move (Operand.tmp 96), some 97, none, [8, 2], fun v _ => v = .bool false⟩,
 ⟨Op.move (Operand.tmp 18), some 98, some (9, false), [9], fun v _ => v = .int .i64 E⟩,
 ⟨Op.binOp BinOp.eql 31 (Operand.tmp 98) (Operand.const (Value.int IntKind.i64 0)) 31, some 99, some (9, false), [10, 9], fun v _ => v = .bool false⟩,
 ⟨Op.fieldAddr 54 (Operand.tmp 9) 2, some 100, some (9, false), [9], fun v _ => v = .pointer (some ⟨g9, 2, none⟩)⟩,
 ⟨Op.load 3 (Operand.tmp 100), some 101, some (9, false), [12, 9], fun v _ => v = .int .i64 o⟩,
 ⟨Op.binOp BinOp.eql 3 (Operand.tmp 101) (Operand.const (Value.int IntKind.i64 0)) 3, some 102, some (9, false), [13, 9], fun v _ => v = .bool false⟩,
 ⟨Op.binOp BinOp.neq 4 (Operand.tmp 99) (Operand.tmp 102) 4, some 103, some (9, false), [11, 14, 9], fun v _ => v = .bool false⟩,
 ⟨Op.pick (Operand.tmp 97) (Operand.const (Value.bool true)) (Operand.tmp 103), some 104, none, [9, 15], fun v _ => v = .bool false⟩,
 ⟨Op.move (Operand.tmp 104), some 105, none, [16, 9], fun v _ => v = .bool false⟩,
 ⟨Op.move (Operand.tmp 18), some 106, some (17, false), [17], fun v _ => v = .int .i64 E⟩,
 ⟨Op.binOp BinOp.neq 31 (Operand.tmp 106) (Operand.const (Value.int IntKind.i64 0)) 31, some 107, some (17, false), [18, 17], fun v _ => v = .bool true⟩,
 ⟨Op.move (Operand.tmp 107), some 108, some (17, false), [19, 17, 17], fun v _ => v = .bool true⟩,
 ⟨Op.move (Operand.tmp 18), some 109, some (20, true), [20], fun v _ => v = .int .i64 E⟩,
 ⟨Op.binOp BinOp.neq 31 (Operand.tmp 109) (Operand.const (Value.int IntKind.i64 4)) 31, some 110, some (20, true), [21, 20], fun v _ => v = .bool false⟩,
 ⟨Op.pick (Operand.tmp 108) (Operand.tmp 110) (Operand.const (Value.bool false)), some 111, some (17, false), [20, 22, 17], fun v _ => v = .bool false⟩,
 ⟨Op.pick (Operand.tmp 105) (Operand.const (Value.bool true)) (Operand.tmp 111), some 112, none, [17, 23], fun v _ => v = .bool false⟩]
noncomputable def lt20b_base (g9 gl cl n : Nat) (A1 : Option Addr) (cc : Nat) (E : Int) (o : Int) (v0 v1 v2 v3 v4 v5 v6 v8 v10 v11 v12 v13 v14 v17 v19 v20 v21 v22 v23 v24 v25 v26 v27 v28 v29 v30 v31 v32 v33 v34 v35 v36 v37 v38 v39 v40 v41 v42 v43 v44 v45 v46 v47 v48 v49 v50 v51 v52 v53 v54 v55 v56 v57 v58 v59 v60 v61 v62 v63 v64 v65 v66 v67 v68 v69 v70 v71 v72 v73 v74 v75 v76 v77 v78 v79 v80 v81 v82 v83 v84 v85 v86 v87 v113 v114 v115 v116 v117 v118 v119 v120 v121 v122 v123 v124 v125 v126 v127 v128 v129 v130 v131 v132 v133 v134 v135 v136 v137 v138 v139 v140 v141 v142 v143 v144 v145 v146 v147 v148 v149 v150 v151 v152 v153 v154 v155 v156 v157 v158 v159 : Value) : List (Nat × Value) := [(7, .slice A1 n cc), (9, .pointer (some ⟨g9, 0, none⟩)), (15, .slice (some ⟨gl, 0, none⟩) n cl), (16, .int .i64 0), (18, .int .i64 E), (0, v0), (1, v1), (2, v2), (3, v3), (4, v4), (5, v5), (6, v6), (8, v8), (10, v10), (11, v11), (12, v12), (13, v13), (14, v14), (17, v17), (19, v19), (20, v20), (21, v21), (22, v22), (23, v23), (24, v24), (25, v25), (26, v26), (27, v27), (28, v28), (29, v29), (30, v30), (31, v31), (32, v32), (33, v33), (34, v34), (35, v35), (36, v36), (37, v37), (38, v38), (39, v39), (40, v40), (41, v41), (42, v42), (43, v43), (44, v44), (45, v45), (46, v46), (47, v47), (48, v48), (49, v49), (50, v50), (51, v51), (52, v52), (53, v53), (54, v54), (55, v55), (56, v56), (57, v57), (58, v58), (59, v59), (60, v60), (61, v61), (62, v62), (63, v63), (64, v64), (65, v65), (66, v66), (67, v67), (68, v68), (69, v69), (70, v70), (71, v71), (72, v72), (73, v73), (74, v74), (75, v75), (76, v76), (77, v77), (78, v78), (79, v79), (80, v80), (81, v81), (82, v82), (83, v83), (84, v84), (85, v85), (86, v86), (87, v87), (113, v113), (114, v114), (115, v115), (116, v116), (117, v117), (118, v118), (119, v119), (120, v120), (121, v121), (122, v122), (123, v123), (124, v124), (125, v125), (126, v126), (127, v127), (128, v128), (129, v129), (130, v130), (131, v131), (132, v132), (133, v133), (134, v134), (135, v135), (136, v136), (137, v137), (138, v138), (139, v139), (140, v140), (141, v141), (142, v142), (143, v143), (144, v144), (145, v145), (146, v146), (147, v147), (148, v148), (149, v149), (150, v150), (151, v151), (152, v152), (153, v153), (154, v154), (155, v155), (156, v156), (157, v157), (158, v158), (159, v159)]
set_option maxRecDepth 100000 in
set_option maxHeartbeats 4000000 in
theorem lt20b_steps (V : World) (g9 gl cl n : Nat) (A1 : Option Addr) (cc : Nat) (E : Int) (o : Int) (v0 v1 v2 v3 v4 v5 v6 v8 v10 v11 v12 v13 v14 v17 v19 v20 v21 v22 v23 v24 v25 v26 v27 v28 v29 v30 v31 v32 v33 v34 v35 v36 v37 v38 v39 v40 v41 v42 v43 v44 v45 v46 v47 v48 v49 v50 v51 v52 v53 v54 v55 v56 v57 v58 v59 v60 v61 v62 v63 v64 v65 v66 v67 v68 v69 v70 v71 v72 v73 v74 v75 v76 v77 v78 v79 v80 v81 v82 v83 v84 v85 v86 v87 v113 v114 v115 v116 v117 v118 v119 v120 v121 v122 v123 v124 v125 v126 v127 v128 v129 v130 v131 v132 v133 v134 v135 v136 v137 v138 v139 v140 v141 v142 v143 v144 v145 v146 v147 v148 v149 v150 v151 v152 v153 v154 v155 v156 v157 v158 v159 : Value) (HC2 : ∀ w', Lat V w' → w'.cell? ⟨g9, 2, none⟩ = some (.int .i64 o)) (ho : (o == 0) = false) (he4 : E = 4) :
  AllStepsN Tryz.prog (lt20b_rows g9 gl cl n A1 cc E o) (lt20b_base g9 gl cl n A1 cc E o v0 v1 v2 v3 v4 v5 v6 v8 v10 v11 v12 v13 v14 v17 v19 v20 v21 v22 v23 v24 v25 v26 v27 v28 v29 v30 v31 v32 v33 v34 v35 v36 v37 v38 v39 v40 v41 v42 v43 v44 v45 v46 v47 v48 v49 v50 v51 v52 v53 v54 v55 v56 v57 v58 v59 v60 v61 v62 v63 v64 v65 v66 v67 v68 v69 v70 v71 v72 v73 v74 v75 v76 v77 v78 v79 v80 v81 v82 v83 v84 v85 v86 v87 v113 v114 v115 v116 v117 v118 v119 v120 v121 v122 v123 v124 v125 v126 v127 v128 v129 v130 v131 v132 v133 v134 v135 v136 v137 v138 v139 v140 v141 v142 v143 v144 v145 v146 v147 v148 v149 v150 v151 v152 v153 v154 v155 v156 v157 v158 v159) V (lt20b_rows g9 gl cl n A1 cc E o) := by
 refine n1 ?_ (eb 16) (fun ev w hl ec e1 d ty p af g => ?_)
 refine n1 ?_ (ed 0) (fun ev w hl ec e1 d ty p af g => ?_)
 refine n1 ?_ (ed 1) (fun ev w hl ec e1 d ty p af g => ?_)
 refine n1 ?_ (eb 15) (fun ev w hl ec e1 d ty p af g => ?_)
 refine n1 ?_ (ed 3) (fun ev w hl ec e1 d ty p af g => ?_)
 refine n1 ?_ (eb 7) (fun ev w hl ec e1 d ty p af g => ?_)
 refine n1 ?_ (ed 5) (fun ev w hl ec e1 d ty p af g => ?_)
 refine n2 ?_ (ed 4) (ed 6) (fun ev w hl ec e1 e2 d ty p af g => ?_)
 refine n2 ?_ (ed 2) (ed 7) (fun ev w hl ec e1 e2 d ty p af g => ?_)
 refine n1 ?_ (ed 8) (fun ev w hl ec e1 d ty p af g => ?_)
 refine n1 ?_ (eb 18) (fun ev w hl ec e1 d ty p af g => ?_)
 refine n1 ?_ (ed 10) (fun ev w hl ec e1 d ty p af g => ?_)
 refine n1 ?_ (eb 9) (fun ev w hl ec e1 d ty p af g => ?_)
 refine n1 ?_ (ed 12) (fun ev w hl ec e1 d ty p af g => by unfold execOp; simp only [e1, ec]; have hc := HC2 w hl; go_simp)
 refine n1 ?_ (ed 13) (fun ev w hl ec e1 d ty p af g => ?_)
 refine n2 ?_ (ed 11) (ed 14) (fun ev w hl ec e1 e2 d ty p af g => ?_)
 refine n2 ?_ (ed 9) (ed 15) (fun ev w hl ec e1 e2 d ty p af g => ?_)
 refine n1 ?_ (ed 16) (fun ev w hl ec e1 d ty p af g => ?_)
 refine n1 ?_ (eb 18) (fun ev w hl ec e1 d ty p af g => ?_)
 refine n1 ?_ (ed 18) (fun ev w hl ec e1 d ty p af g => ?_)
 refine n1 ?_ (ed 19) (fun ev w hl ec e1 d ty p af g => ?_)
 refine n1 ?_ (eb 18) (fun ev w hl ec e1 d ty p af g => ?_)
 refine n1 ?_ (ed 21) (fun ev w hl ec e1 d ty p af g => ?_)
 refine n2 ?_ (ed 20) (ed 22) (fun ev w hl ec e1 e2 d ty p af g => ?_)
 refine n2 ?_ (ed 17) (ed 23) (fun ev w hl ec e1 e2 d ty p af g => ?_)
 ·exact AllStepsN.none
 all_goals (unfold execOp; first | simp only [e1, e2, ec] | simp only [e1, ec] | simp only [ec])
 all_goals go_simp
noncomputable def lt27a_rows (g9 gS n cS : Nat) (x y : Int) (j : Nat) (A2 : Option Addr) (mt ct : Nat) : List SRow := [
 ⟨Op.move (Operand.tmp 21), some 123, none, [], fun v _ => v = .int .i64 y⟩,
 ⟨Op.fieldAddr 54 (Operand.tmp 9) 0, some 124, none, [], fun v _ => v = .pointer (some ⟨g9, 0, none⟩)⟩,
 ⟨Op.load 27 (Operand.tmp 124), some 125, none, [1], fun v _ => v = .slice (some ⟨gS, 0, none⟩) n cS⟩,
 ⟨Op.move (Operand.tmp 20), some 126, none, [], fun v _ => v = .int .i64 (j : Int)⟩,
 ⟨Op.indexAddr 27 (Operand.tmp 125) (Operand.tmp 126), some 127, none, [2, 3], fun v _ => v = .pointer (some ⟨gS, j, none⟩)⟩,
 ⟨Op.load 3 (Operand.tmp 127), some 128, none, [4], fun v _ => v = .int .i64 x⟩,
 ⟨Op.binOp BinOp.lss 3 (Operand.tmp 123) (Operand.tmp 128) 3, some 129, none, [0, 5], fun v _ => v = .bool false⟩,
 ⟨Op.move (Operand.tmp 129), some 130, none, [6], fun v _ => v = .bool false⟩,
 ⟨Op.move (Operand.tmp 21), some 131, some (7, false), [7], fun v _ => v = .int .i64 y⟩,
 ⟨Op.fieldAddr 54 (Operand.tmp 9) 0, some 132, some (7, false), [7], fun v _ => v = .pointer (some ⟨g9, 0, none⟩)⟩,
 ⟨Op.load 27 (Operand.tmp 132), some 133, some (7, false), [9, 7], fun v _ => v = .slice (some ⟨gS, 0, none⟩) n cS⟩,
 ⟨Op.move (Operand.tmp 20), some 134, some (7, false), [7], fun v _ => v = .int .i64 (j : Int)⟩,
 ⟨Op.indexAddr 27 (Operand.tmp 133) (Operand.tmp 134), some 135, some (7, false), [10, 11, 7], fun v _ => v = .pointer (some ⟨gS, j, none⟩)⟩,
 ⟨Op.load 3 (Operand.tmp 135), some 136, some (7, false), [12, 7], fun v _ => v = .int .i64 x⟩,
 ⟨Op.binOp BinOp.add 3 (Operand.tmp 136) (Operand.const (Value.int IntKind.i64 1)) 3, some 137, some (7, false), [13, 7], fun v _ => v = .int .i64 (x + 1)⟩,
 ⟨Op.binOp BinOp.gtr 3 (Operand.tmp 131) (Operand.tmp 137) 3, some 138, some (7, false), [8, 14, 7], fun v _ => v = .bool false⟩,
 ⟨Op.pick (Operand.tmp 130) (Operand.const (Value.bool true)) (Operand.tmp 138), some 139, none, [7, 15], fun v _ => v = .bool false⟩,
 ⟨Op.move (Operand.tmp 139), some 140, none, [16, 7], fun v _ => v = .bool false⟩,
 ⟨Op.move (Operand.tmp 21), some 141, some (17, false), [17], fun v _ => v = .int .i64 y⟩,
 ⟨Op.fieldAddr 54 (Operand.tmp 9) 0, some 142, some (17, false), [17], fun v _ => v = .pointer (some ⟨g9, 0, none⟩)⟩,
 ⟨Op.load 27 (Operand.tmp 142), some 143, some (17, false), [19, 17], fun v _ => v = .slice (some ⟨gS, 0, none⟩) n cS⟩,
 ⟨Op.move (Operand.tmp 20), some 144, some (17, false), [17], fun v _ => v = .int .i64 (j : Int)⟩,
 ⟨Op.indexAddr 27 (Operand.tmp 143) (Operand.tmp 144), some 145, some (17, false), [20, 21, 17], fun v _ => v = .pointer (some ⟨gS, j, none⟩)⟩,
 ⟨Op.load 3 (Operand.tmp 145), some 146, some (17, false), [22, 17], fun v _ => v = .int .i64 x⟩,
 ⟨Op.binOp BinOp.gtr 3 (Operand.tmp 141) (Operand.tmp 146) 3, some 147, some (17, false), [18, 23, 17], fun v _ => v = .bool false⟩,
 ⟨Op.move (Operand.tmp 147), some 148, some (17, false), [24, 17, 17], fun v _ => v = .bool false⟩,
 ⟨Op.fieldAddr 54 (Operand.tmp 9) 1, some 149, some (25, true), [25], fun v _ => v = undef⟩,
 ⟨Op.load 27 (Operand.tmp 149), some 150, some (25, true), [26, 25], fun v _ => v = undef⟩,
 ⟨Op.move (Operand.tmp 20), some 151, some (25, true), [25], fun v _ => v = undef⟩,
 ⟨Op.call { callee := Callee.value (Operand.func 34), args := #[Operand.tmp 150, Operand.tmp 151], argTypes := #[27, 3] }, some 152, some (25, true), [27, 28, 25, 25], fun v _ => v = undef⟩,
 ⟨Op.unOp UnOp.not 4 (Operand.tmp 152), some 153, some (25, true), [29, 25], fun v _ => v = undef⟩,
 ⟨Op.pick (Operand.tmp 148) (Operand.tmp 153) (Operand.const (Value.bool false)), some 154, some (17, false), [25, 30, 17], fun v _ => v = .bool false⟩,
 ⟨Op.pick (Operand.tmp 140) (Operand.const (Value.bool true)) (Operand.tmp 154), some 155, none, [17, 31], fun v _ => v = .bool false⟩]
noncomputable def lt27a_base (g9 gS n cS : Nat) (x y : Int) (j : Nat) (A2 : Option Addr) (mt ct : Nat) (v0 v1 v2 v3 v4 v5 v6 v7 v8 v10 v11 v12 v13 v14 v15 v16 v17 v18 v19 v22 v23 v24 v25 v26 v27 v28 v29 v30 v31 v32 v33 v34 v35 v36 v37 v38 v39 v40 v41 v42 v43 v44 v45 v46 v47 v48 v49 v50 v51 v52 v53 v54 v55 v56 v57 v58 v59 v60 v61 v62 v63 v64 v65 v66 v67 v68 v69 v70 v71 v72 v73 v74 v75 v76 v77 v78 v79 v80 v81 v82 v83 v84 v85 v86 v87 v88 v89 v90 v91 v92 v93 v94 v95 v96 v97 v98 v99 v100 v101 v102 v103 v104 v105 v106 v107 v108 v109 v110 v111 v112 v113 v114 v115 v116 v117 v118 v119 v120 v121 v122 v156 v157 v158 v159 : Value) : List (Nat × Value) := [(9, .pointer (some ⟨g9, 0, none⟩)), (20, .int .i64 (j : Int)), (21, .int .i64 y), (0, v0), (1, v1), (2, v2), (3, v3), (4, v4), (5, v5), (6, v6), (7, v7), (8, v8), (10, v10), (11, v11), (12, v12), (13, v13), (14, v14), (15, v15), (16, v16), (17, v17), (18, v18), (19, v19), (22, v22), (23, v23), (24, v24), (25, v25), (26, v26), (27, v27), (28, v28), (29, v29), (30, v30), (31, v31), (32, v32), (33, v33), (34, v34), (35, v35), (36, v36), (37, v37), (38, v38), (39, v39), (40, v40), (41, v41), (42, v42), (43, v43), (44, v44), (45, v45), (46, v46), (47, v47), (48, v48), (49, v49), (50, v50), (51, v51), (52, v52), (53, v53), (54, v54), (55, v55), (56, v56), (57, v57), (58, v58), (59, v59), (60, v60), (61, v61), (62, v62), (63, v63), (64, v64), (65, v65), (66, v66), (67, v67), (68, v68), (69, v69), (70, v70), (71, v71), (72, v72), (73, v73), (74, v74), (75, v75), (76, v76), (77, v77), (78, v78), (79, v79), (80, v80), (81, v81), (82, v82), (83, v83), (84, v84), (85, v85), (86, v86), (87, v87), (88, v88), (89, v89), (90, v90), (91, v91), (92, v92), (93, v93), (94, v94), (95, v95), (96, v96), (97, v97), (98, v98), (99, v99), (100, v100), (101, v101), (102, v102), (103, v103), (104, v104), (105, v105), (106, v106), (107, v107), (108, v108), (109, v109), (110, v110), (111, v111), (112, v112), (113, v113), (114, v114), (115, v115), (116, v116), (117, v117), (118, v118), (119, v119), (120, v120), (121, v121), (122, v122), (156, v156), (157, v157), (158, v158), (159, v159)]
set_option maxRecDepth 100000 in
set_option maxHeartbeats 4000000 in
theorem lt27a_steps (V : World) (g9 gS n cS : Nat) (x y : Int) (j : Nat) (A2 : Option Addr) (mt ct : Nat) (v0 v1 v2 v3 v4 v5 v6 v7 v8 v10 v11 v12 v13 v14 v15 v16 v17 v18 v19 v22 v23 v24 v25 v26 v27 v28 v29 v30 v31 v32 v33 v34 v35 v36 v37 v38 v39 v40 v41 v42 v43 v44 v45 v46 v47 v48 v49 v50 v51 v52 v53 v54 v55 v56 v57 v58 v59 v60 v61 v62 v63 v64 v65 v66 v67 v68 v69 v70 v71 v72 v73 v74 v75 v76 v77 v78 v79 v80 v81 v82 v83 v84 v85 v86 v87 v88 v89 v90 v91 v92 v93 v94 v95 v96 v97 v98 v99 v100 v101 v102 v103 v104 v105 v106 v107 v108 v109 v110 v111 v112 v113 v114 v115 v116 v117 v118 v119 v120 v121 v122 v156 v157 v158 v159 : Value) (HC0 : ∀ w', Lat V w' → w'.cell? ⟨g9, 0, none⟩ = some (.slice (some ⟨gS, 0, none⟩) n cS)) (HC3 : ∀ w', Lat V w' → w'.cell? ⟨gS, j, none⟩ = some (.int .i64 x)) (hj : (j : Int) < (n : Int)) (h1 : ¬ y < x) (h1' : x ≤ y) (h2 : ¬ x + 1 < y) (h2' : y ≤ x + 1) (w1 : wrap64 (x + 1) = x + 1) (w2 : IntKind.i64.wrap (x + 1) = x + 1) (h3 : ¬ x < y) (h3' : y ≤ x) :
  AllStepsN Tryz.prog (lt27a_rows g9 gS n cS x y j A2 mt ct) (lt27a_base g9 gS n cS x y j A2 mt ct v0 v1 v2 v3 v4 v5 v6 v7 v8 v10 v11 v12 v13 v14 v15 v16 v17 v18 v19 v22 v23 v24 v25 v26 v27 v28 v29 v30 v31 v32 v33 v34 v35 v36 v37 v38 v39 v40 v41 v42 v43 v44 v45 v46 v47 v48 v49 v50 v51 v52 v53 v54 v55 v56 v57 v58 v59 v60 v61 v62 v63 v64 v65 v66 v67 v68 v69 v70 v71 v72 v73 v74 v75 v76 v77 v78 v79 v80 v81 v82 v83 v84 v85 v86 v87 v88 v89 v90 v91 v92 v93 v94 v95 v96 v97 v98 v99 v100 v101 v102 v103 v104 v105 v106 v107 v108 v109 v110 v111 v112 v113 v114 v115 v116 v117 v118 v119 v120 v121 v122 v156 v157 v158 v159) V (lt27a_rows g9 gS n cS x y j A2 mt ct) := by
 refine n1 ?_ (eb 21) (fun ev w hl ec e1 d ty p af g => ?_)
 refine n1 ?_ (eb 9) (fun ev w hl ec e1 d ty p af g => ?_)
 refine n1 ?_ (ed 1) (fun ev w hl ec e1 d ty p af g => by unfold execOp; simp only [e1, ec]; have hc := HC0 w hl; go_simp)
 refine n1 ?_ (eb 20) (fun ev w hl ec e1 d ty p af g => ?_)
 refine n2 ?_ (ed 2) (ed 3) (fun ev w hl ec e1 e2 d ty p af g => ?_)
 refine n1 ?_ (ed 4) (fun ev w hl ec e1 d ty p af g => by unfold execOp; simp only [e1, ec]; have hc := HC3 w hl; go_simp)
 refine n2 ?_ (ed 0) (ed 5) (fun ev w hl ec e1 e2 d ty p af g => ?_)
 refine n1 ?_ (ed 6) (fun ev w hl ec e1 d ty p af g => ?_)
 refine n1 ?_ (eb 21) (fun ev w hl ec e1 d ty p af g => ?_)
 refine n1 ?_ (eb 9) (fun ev w hl ec e1 d ty p af g => ?_)
 refine n1 ?_ (ed 9) (fun ev w hl ec e1 d ty p af g => by unfold execOp; simp only [e1, ec]; have hc := HC0 w hl; go_simp)
 refine n1 ?_ (eb 20) (fun ev w hl ec e1 d ty p af g => ?_)
 refine n2 ?_ (ed 10) (ed 11) (fun ev w hl ec e1 e2 d ty p af g => ?_)
 refine n1 ?_ (ed 12) (fun ev w hl ec e1 d ty p af g => by unfold execOp; simp only [e1, ec]; have hc := HC3 w hl; go_simp)
 refine n1 ?_ (ed 13) (fun ev w hl ec e1 d ty p af g => ?_)
 refine n2 ?_ (ed 8) (ed 14) (fun ev w hl ec e1 e2 d ty p af g => ?_)
 refine n2 ?_ (ed 7) (ed 15) (fun ev w hl ec e1 e2 d ty p af g => ?_)
 refine n1 ?_ (ed 16) (fun ev w hl ec e1 d ty p af g => ?_)
 refine n1 ?_ (eb 21) (fun ev w hl ec e1 d ty p af g => ?_)
 refine n1 ?_ (eb 9) (fun ev w hl ec e1 d ty p af g => ?_)
 refine n1 ?_ (ed 19) (fun ev w hl ec e1 d ty p af g => by unfold execOp; simp only [e1, ec]; have hc := HC0 w hl; go_simp)
 refine n1 ?_ (eb 20) (fun ev w hl ec e1 d ty p af g => ?_)
 refine n2 ?_ (ed 20) (ed 21) (fun ev w hl ec e1 e2 d ty p af g => ?_)
 refine n1 ?_ (ed 22) (fun ev w hl ec e1 d ty p af g => by unfold execOp; simp only [e1, ec]; have hc := HC3 w hl; go_simp)
 refine n2 ?_ (ed 18) (ed 23) (fun ev w hl ec e1 e2 d ty p af g => ?_)
 refine n1 ?_ (ed 24) (fun ev w hl ec e1 d ty p af g => ?_)
 refine nk ?_
 refine nk ?_
 refine nk ?_
 refine nk ?_
 refine nk ?_
 refine n1 ?_ (ed 25) (fun ev w hl ec e1 d ty p af g => ?_)
 refine n2 ?_ (ed 17) (ed 31) (fun ev w hl ec e1 e2 d ty p af g => ?_)
 ·exact AllStepsN.none
 all_goals (unfold execOp; first | simp only [e1, e2, ec] | simp only [e1, ec] | simp only [ec])
 all_goals go_simp
noncomputable def lt27b_rows (g9 gS n cS : Nat) (x y : Int) (j : Nat) (A2 : Option Addr) (mt ct : Nat) : List SRow := [
 ⟨Op.move (Operand.tmp 21), some 123, none, [], fun v _ => v = .int .i64 y⟩,
 ⟨Op.fieldAddr 54 (Operand.tmp 9) 0, some 124, none, [], fun v _ => v = .pointer (some ⟨g9, 0, none⟩)⟩,
 ⟨Op.load 27 (Operand.tmp 124), some 125, none, [1], fun v _ => v = .slice (some ⟨gS, 0, none⟩) n cS⟩,
 ⟨Op.move (Operand.tmp 20), some 126, none, [], fun v _ => v = .int .i64 (j : Int)⟩,
 ⟨Op.indexAddr 27 (Operand.tmp 125) (Operand.tmp 126), some 127, none, [2, 3], fun v _ => v = .pointer (some ⟨gS, j, none⟩)⟩,
 ⟨Op.load 3 (Operand.tmp 127), some 128, none, [4], fun v _ => v = .int .i64 x⟩,
 ⟨Op.binOp BinOp.lss 3 (Operand.tmp 123) (Operand.tmp 128) 3, some 129, none, [0, 5], fun v _ => v = .bool false⟩,
 ⟨Op.move (Operand.tmp 129), some 130, none, [6], fun v _ => v = .bool false⟩,
 ⟨Op.move (Operand.tmp 21), some 131, some (7, false), [7], fun v _ => v = .int .i64 y⟩,
 ⟨Op.fieldAddr 54 (Operand.tmp 9) 0, some 132, some (7, false), [7], fun v _ => v = .pointer (some ⟨g9, 0, none⟩)⟩,
 ⟨Op.load 27 (Operand.tmp 132), some 133, some (7, false), [9, 7], fun v _ => v = .slice (some ⟨gS, 0, none⟩) n cS⟩,
 ⟨Op.move (Operand.tmp 20), some 134, some (7, false), [7], fun v _ => v = .int .i64 (j : Int)⟩,
 ⟨Op.indexAddr 27 (Operand.tmp 133) (Operand.tmp 134), some 135, some (7, false), [10, 11, 7], fun v _ => v = .pointer (some ⟨gS, j, none⟩)⟩,
 ⟨Op.load 3 (Operand.tmp 135), some 136, some (7, false), [12, 7], fun v _ => v = .int .i64 x⟩,
 ⟨Op.binOp BinOp.add 3 (Operand.tmp 136) (Operand.const (Value.int IntKind.i64 1)) 3, some 137, some (7, false), [13, 7], fun v _ => v = .int .i64 (x + 1)⟩,
 ⟨Op.binOp BinOp.gtr 3 (Operand.tmp 131) (Operand.tmp 137) 3, some 138, some (7, false), [8, 14, 7], fun v _ => v = .bool false⟩,
 ⟨Op.pick (Operand.tmp 130) (Operand.const (Value.bool true)) (Operand.tmp 138), some 139, none, [7, 15], fun v _ => v = .bool false⟩,
 ⟨Op.move (Operand.tmp 139), some 140, none, [16, 7], fun v _ => v = .bool false⟩,
 ⟨Op.move (Operand.tmp 21), some 141, some (17, false), [17], fun v _ => v = .int .i64 y⟩,
 ⟨Op.fieldAddr 54 (Operand.tmp 9) 0, some 142, some (17, false), [17], fun v _ => v = .pointer (some ⟨g9, 0, none⟩)⟩,
 ⟨Op.load 27 (Operand.tmp 142), some 143, some (17, false), [19, 17], fun v _ => v = .slice (some ⟨gS, 0, none⟩) n cS⟩,
 ⟨Op.move (Operand.tmp 20), some 144, some (17, false), [17], fun v _ => v = .int .i64 (j : Int)⟩,
 ⟨Op.indexAddr 27 (Operand.tmp 143) (Operand.tmp 144), some 145, some (17, false), [20, 21, 17], fun v _ => v = .pointer (some ⟨gS, j, none⟩)⟩,
 ⟨Op.load 3 (Operand.tmp 145), some 146, some (17, false), [22, 17], fun v _ => v = .int .i64 x⟩,
 ⟨Op.binOp BinOp.gtr 3 (Operand.tmp 141) (Operand.tmp 146) 3, some 147, some (17, false), [18, 23, 17], fun v _ => v = .bool true⟩,
 ⟨Op.move (Operand.tmp 147), some 148, some (17, false), [24, 17, 17], fun v _ => v = .bool true⟩,
 ⟨Op.fieldAddr 54 (Operand.tmp 9) 1, some 149, some (25, true), [25], fun v _ => v = .pointer (some ⟨g9, 1, none⟩)⟩,
 ⟨Op.load 27 (Operand.tmp 149), some 150, some (25, true), [26, 25], fun v _ => v = .slice A2 mt ct⟩,
 ⟨Op.move (Operand.tmp 20), some 151, some (25, true), [25], fun v _ => v = .int .i64 (j : Int)⟩,
 ⟨Op.call { callee := Callee.value (Operand.func 34), args := #[Operand.tmp 150, Operand.tmp 151], argTypes := #[27, 3] }, some 152, some (25, true), [27, 28, 25, 25], fun v _ => v = .bool true⟩,
 ⟨Op.unOp UnOp.not 4 (Operand.tmp 152), some 153, some (25, true), [29, 25], fun v _ => v = .bool false⟩,
 ⟨Op.pick (Operand.tmp 148) (Operand.tmp 153) (Operand.const (Value.bool false)), some 154, some (17, false), [25, 30, 17], fun v _ => v = .bool false⟩,
 ⟨Op.pick (Operand.tmp 140) (Operand.const (Value.bool true)) (Operand.tmp 154), some 155, none, [17, 31], fun v _ => v = .bool false⟩]
noncomputable def lt27b_base (g9 gS n cS : Nat) (x y : Int) (j : Nat) (A2 : Option Addr) (mt ct : Nat) (v0 v1 v2 v3 v4 v5 v6 v7 v8 v10 v11 v12 v13 v14 v15 v16 v17 v18 v19 v22 v23 v24 v25 v26 v27 v28 v29 v30 v31 v32 v33 v34 v35 v36 v37 v38 v39 v40 v41 v42 v43 v44 v45 v46 v47 v48 v49 v50 v51 v52 v53 v54 v55 v56 v57 v58 v59 v60 v61 v62 v63 v64 v65 v66 v67 v68 v69 v70 v71 v72 v73 v74 v75 v76 v77 v78 v79 v80 v81 v82 v83 v84 v85 v86 v87 v88 v89 v90 v91 v92 v93 v94 v95 v96 v97 v98 v99 v100 v101 v102 v103 v104 v105 v106 v107 v108 v109 v110 v111 v112 v113 v114 v115 v116 v117 v118 v119 v120 v121 v122 v156 v157 v158 v159 : Value) : List (Nat × Value) := [(9, .pointer (some ⟨g9, 0, none⟩)), (20, .int .i64 (j : Int)), (21, .int .i64 y), (0, v0), (1, v1), (2, v2), (3, v3), (4, v4), (5, v5), (6, v6), (7, v7), (8, v8), (10, v10), (11, v11), (12, v12), (13, v13), (14, v14), (15, v15), (16, v16), (17, v17), (18, v18), (19, v19), (22, v22), (23, v23), (24, v24), (25, v25), (26, v26), (27, v27), (28, v28), (29, v29), (30, v30), (31, v31), (32, v32), (33, v33), (34, v34), (35, v35), (36, v36), (37, v37), (38, v38), (39, v39), (40, v40), (41, v41), (42, v42), (43, v43), (44, v44), (45, v45), (46, v46), (47, v47), (48, v48), (49, v49), (50, v50), (51, v51), (52, v52), (53, v53), (54, v54), (55, v55), (56, v56), (57, v57), (58, v58), (59, v59), (60, v60), (61, v61), (62, v62), (63, v63), (64, v64), (65, v65), (66, v66), (67, v67), (68, v68), (69, v69), (70, v70), (71, v71), (72, v72), (73, v73), (74, v74), (75, v75), (76, v76), (77, v77), (78, v78), (79, v79), (80, v80), (81, v81), (82, v82), (83, v83), (84, v84), (85, v85), (86, v86), (87, v87), (88, v88), (89, v89), (90, v90), (91, v91), (92, v92), (93, v93), (94, v94), (95, v95), (96, v96), (97, v97), (98, v98), (99, v99), (100, v100), (101, v101), (102, v102), (103, v103), (104, v104), (105, v105), (106, v106), (107, v107), (108, v108), (109, v109), (110, v110), (111, v111), (112, v112), (113, v113), (114, v114), (115, v115), (116, v116), (117, v117), (118, v118), (119, v119), (120, v120), (121, v121), (122, v122), (156, v156), (157, v157), (158, v158), (159, v159)]
set_option maxRecDepth 100000 in
set_option maxHeartbeats 4000000 in
theorem lt27b_steps (V : World) (g9 gS n cS : Nat) (x y : Int) (j : Nat) (A2 : Option Addr) (mt ct : Nat) (v0 v1 v2 v3 v4 v5 v6 v7 v8 v10 v11 v12 v13 v14 v15 v16 v17 v18 v19 v22 v23 v24 v25 v26 v27 v28 v29 v30 v31 v32 v33 v34 v35 v36 v37 v38 v39 v40 v41 v42 v43 v44 v45 v46 v47 v48 v49 v50 v51 v52 v53 v54 v55 v56 v57 v58 v59 v60 v61 v62 v63 v64 v65 v66 v67 v68 v69 v70 v71 v72 v73 v74 v75 v76 v77 v78 v79 v80 v81 v82 v83 v84 v85 v86 v87 v88 v89 v90 v91 v92 v93 v94 v95 v96 v97 v98 v99 v100 v101 v102 v103 v104 v105 v106 v107 v108 v109 v110 v111 v112 v113 v114 v115 v116 v117 v118 v119 v120 v121 v122 v156 v157 v158 v159 : Value) (HC0 : ∀ w', Lat V w' → w'.cell? ⟨g9, 0, none⟩ = some (.slice (some ⟨gS, 0, none⟩) n cS)) (HC3 : ∀ w', Lat V w' → w'.cell? ⟨gS, j, none⟩ = some (.int .i64 x)) (hj : (j : Int) < (n : Int)) (h1 : ¬ y < x) (h1' : x ≤ y) (h2 : ¬ x + 1 < y) (h2' : y ≤ x + 1) (w1 : wrap64 (x + 1) = x + 1) (w2 : IntKind.i64.wrap (x + 1) = x + 1) (h3 : x < y) (HC1 : ∀ w', Lat V w' → w'.cell? ⟨g9, 1, none⟩ = some (.slice A2 mt ct)) (HCC : ∀ w, Lat V w → Calls Tryz.prog 34 #[.slice A2 mt ct, .int .i64 (j : Int)] w (fun e w' => e = .returned (.bool true) ∧ Lat w w')) :
  AllStepsN Tryz.prog (lt27b_rows g9 gS n cS x y j A2 mt ct) (lt27b_base g9 gS n cS x y j A2 mt ct v0 v1 v2 v3 v4 v5 v6 v7 v8 v10 v11 v12 v13 v14 v15 v16 v17 v18 v19 v22 v23 v24 v25 v26 v27 v28 v29 v30 v31 v32 v33 v34 v35 v36 v37 v38 v39 v40 v41 v42 v43 v44 v45 v46 v47 v48 v49 v50 v51 v52 v53 v54 v55 v56 v57 v58 v59 v60 v61 v62 v63 v64 v65 v66 v67 v68 v69 v70 v71 v72 v73 v74 v75 v76 v77 v78 v79 v80 v81 v82 v83 v84 v85 v86 v87 v88 v89 v90 v91 v92 v93 v94 v95 v96 v97 v98 v99 v100 v101 v102 v103 v104 v105 v106 v107 v108 v109 v110 v111 v112 v113 v114 v115 v116 v117 v118 v119 v120 v121 v122 v156 v157 v158 v159) V (lt27b_rows g9 gS n cS x y j A2 mt ct) := by
 refine n1 ?_ (eb 21) (fun ev w hl ec e1 d ty p af g => ?_)
 refine n1 ?_ (eb 9) (fun ev w hl ec e1 d ty p af g => ?_)
 refine n1 ?_ (ed 1) (fun ev w hl ec e1 d ty p af g => by unfold execOp; simp only [e1, ec]; have hc := HC0 w hl; go_simp)
 refine n1 ?_ (eb 20) (fun ev w hl ec e1 d ty p af g => ?_)
 refine n2 ?_ (ed 2) (ed 3) (fun ev w hl ec e1 e2 d ty p af g => ?_)
 refine n1 ?_ (ed 4) (fun ev w hl ec e1 d ty p af g => by unfold execOp; simp only [e1, ec]; have hc := HC3 w hl; go_simp)
 refine n2 ?_ (ed 0) (ed 5) (fun ev w hl ec e1 e2 d ty p af g => ?_)
 refine n1 ?_ (ed 6) (fun ev w hl ec e1 d ty p af g => ?_)
 refine n1 ?_ (eb 21) (fun ev w hl ec e1 d ty p af g => ?_)
 refine n1 ?_ (eb 9) (fun ev w hl ec e1 d ty p af g => ?_)
 refine n1 ?_ (ed 9) (fun ev w hl ec e1 d ty p af g => by unfold execOp; simp only [e1, ec]; have hc := HC0 w hl; go_simp)
 refine n1 ?_ (eb 20) (fun ev w hl ec e1 d ty p af g => ?_)
 refine n2 ?_ (ed 10) (ed 11) (fun ev w hl ec e1 e2 d ty p af g => ?_)
 refine n1 ?_ (ed 12) (fun ev w hl ec e1 d ty p af g => by unfold execOp; simp only [e1, ec]; have hc := HC3 w hl; go_simp)
 refine n1 ?_ (ed 13) (fun ev w hl ec e1 d ty p af g => ?_)
 refine n2 ?_ (ed 8) (ed 14) (fun ev w hl ec e1 e2 d ty p af g => ?_)
 refine n2 ?_ (ed 7) (ed 15) (fun ev w hl ec e1 e2 d ty p af g => ?_)
 refine n1 ?_ (ed 16) (fun ev w hl ec e1 d ty p af g => ?_)
 refine n1 ?_ (eb 21) (fun ev w hl ec e1 d ty p af g => ?_)
 refine n1 ?_ (eb 9) (fun ev w hl ec e1 d ty p af g => ?_)
 refine n1 ?_ (ed 19) (fun ev w hl ec e1 d ty p af g => by unfold execOp; simp only [e1, ec]; have hc := HC0 w hl; go_simp)
 refine n1 ?_ (eb 20) (fun ev w hl ec e1 d ty p af g => ?_)
 refine n2 ?_ (ed 20) (ed 21) (fun ev w hl ec e1 e2 d ty p af g => ?_)
 refine n1 ?_ (ed 22) (fun ev w hl ec e1 d ty p af g => by unfold execOp; simp only [e1, ec]; have hc := HC3 w hl; go_simp)
 refine n2 ?_ (ed 18) (ed 23) (fun ev w hl ec e1 e2 d ty p af g => ?_)
 refine n1 ?_ (ed 24) (fun ev w hl ec e1 d ty p af g => ?_)
 refine n1 ?_ (eb 9) (fun ev w hl ec e1 d ty p af g => ?_)
 refine n1 ?_ (ed 26) (fun ev w hl ec e1 d ty p af g => by unfold execOp; simp only [e1, ec]; have hc := HC1 w hl; go_simp)
 refine n1 ?_ (eb 20) (fun ev w hl ec e1 d ty p af g => ?_)
 refine AllStepsN.next (fun _ _ _ h _ => h) (fun j b h => by cases h; exact ⟨_, rfl, ⟨_, rfl⟩, by simp, fun _ _ h => h⟩) (fun a w hl hb hd o ho => by obtain ⟨v1, e1, q1⟩ := hd 27 _ _ (by simp) rfl rfl; subst q1; obtain ⟨v2, e2, q2⟩ := hd 28 _ _ (by simp) rfl rfl; subst q2; exact Runs.call (yv_call (f := 34) (fun _ => by go_simp) o ho (by simp only [List.map_toArray, List.map_cons, List.map_nil, eval_const, e1, e2])) ((HCC w hl).mono fun e w' h => ⟨_, h.1, h.2, fun _ => rfl⟩)) ?_
 refine n1 ?_ (ed 29) (fun ev w hl ec e1 d ty p af g => ?_)
 refine n2 ?_ (ed 25) (ed 30) (fun ev w hl ec e1 e2 d ty p af g => ?_)
 refine n2 ?_ (ed 17) (ed 31) (fun ev w hl ec e1 e2 d ty p af g => ?_)
 ·exact AllStepsN.none
 all_goals (unfold execOp; first | simp only [e1, e2, ec] | simp only [e1, ec] | simp only [ec])
 all_goals go_simp
end Go.Proofs.YtbgngmamnonlbaaGreat
namespace Go.Proofs.YtbgngmamnonlbaaGreat
open Go.RowKit
set_option linter.unusedSimpArgs false
set_option linter.unusedVariables false
structure LtNum (j n : Nat) (tu : Int) (t k : Nat) : Prop where
 wrapU : IntKind.i64.wrap tu = tu
 w1 : wrap64 ((j : Int) + tu) = (j : Int) + tu
 w2 : IntKind.i64.wrap ((j : Int) + tu) = (j : Int) + tu
 rem : ((j : Int) + tu).tmod (n : Int) = (k : Int)
 w3 : wrap64 (k : Int) = (k : Int)
 w4 : IntKind.i64.wrap (k : Int) = (k : Int)
 isK : (j + t) % n = k
 lt : k < n
theorem lt_nums {j n : Nat} {tu : Int} (h0 : 0 ≤ tu) (h1 : tu ≤ 255) (hj : j < n) (hn : n ≤ 9) : ∃ k, LtNum j n tu tu.toNat k := by
 have hk : (j + tu.toNat) % n < n := Nat.mod_lt _ (by omega)
 have e : (j : Int) + tu = ((j + tu.toNat : Nat) : Int) := by omega
 refine ⟨(j + tu.toNat) % n, IntWalk.i64_in _ (by omega), IntWalk.wrap64_in _ (by omega), IntWalk.i64_in _ (by omega), ?_, IntWalk.wrap64_in _ (by omega), IntWalk.i64_in _ (by omega), rfl, hk⟩
 rw [e, Int.tmod_eq_emod_of_nonneg (by omega)]
 rfl
theorem natL_snoc (L : List Nat) (k : Nat) : natL L ++ [(k : Int)] = natL (L ++ [k]) := by simp [natL]
theorem natL_app (L M : List Nat) : natL L ++ natL M = natL (L ++ M) := by simp [natL]
theorem natL_has (T : List Nat) (k : Nat) : (natL T).contains (k : Int) = decide (k ∈ T) := by
 by_cases h : k ∈ T
 ·rw [decide_eq_true h, List.contains_iff_mem]
  exact List.mem_map.2 ⟨k, h, rfl⟩
 ·rw [decide_eq_false h]
  cases hc : (natL T).contains (k : Int)
  ·rfl
  ·rw [List.contains_iff_mem] at hc
   obtain ⟨t, ht, e⟩ := List.mem_map.1 hc
   have : t = k := by omega
   subst this
   exact absurd ht h
theorem lt_y {x y : Int} (h0 : 0 ≤ x) (h1 : x ≤ 1000) (h : y = x ∨ y = x + 1) : wrap64 (x + 1) = x + 1 ∧ IntKind.i64.wrap (x + 1) = x + 1 ∧ ¬ y < x ∧ x ≤ y ∧ ¬ x + 1 < y ∧ y ≤ x + 1 := by
 rcases h with h | h <;> exact ⟨IntWalk.wrap64_in _ (by omega), IntWalk.i64_in _ (by omega), by omega, by omega, by omega, by omega⟩
theorem settle_all (A1 : Option Addr) (n c1 : Nat) (S : List Int) (A2 : Option Addr) (n2 c2 : Nat) (T : List Nat) (o : Nat) (A3 : Option Addr) (n3 c3 : Nat) (R G : List Nat) (w : World) (h1 : Sl w .i64 A1 n S) (h2 : Sl w .i64 A2 n2 (natL T)) (h3 : Sl w .i64 A3 n3 (natL R))
  (hs : Sound n S T (o : Int)) (hR : ∀ r ∈ R, r < n) (hn3 : n3 ≤ 100000) (hq : setl R T o = (G, 0)) :
  Calls Tryz.prog 29 #[.agg #[.slice A1 n c1, .slice A2 n2 c2, .int .i64 (o : Int)], .slice A3 n3 c3] w (fun e w' => Lat w w' ∧ ∃ g c, e = .returned (.tuple #[.slice (some ⟨g, 0, none⟩) n c, .int .i64 0]) ∧ RowN w' g n (bump S G)) := by
 refine (settle_yes A1 n c1 S A2 n2 c2 T o A3 n3 c3 R w h1 h2 h3 hs hR hn3).mono ?_
 rintro e w' ⟨hl, h⟩
 rw [hq] at h
 rcases h with ⟨_, g, c, he, hr, _⟩ | ⟨h, _⟩
 ·exact ⟨hl, g, c, he, hr⟩
 ·exact absurd rfl h
theorem settle_nobody (A1 : Option Addr) (n c1 : Nat) (S : List Int) (A2 : Option Addr) (n2 c2 : Nat) (T : List Nat) (o : Nat) (A3 : Option Addr) (n3 c3 : Nat) (R : List Nat) (w : World) (h1 : Sl w .i64 A1 n S) (h2 : Sl w .i64 A2 n2 (natL T)) (h3 : Sl w .i64 A3 n3 (natL R))
  (hs : Sound n S T (o : Int)) (hR : ∀ r ∈ R, r < n) (hn3 : n3 ≤ 100000) (hq : setl R T o = ([], o)) :
  Calls Tryz.prog 29 #[.agg #[.slice A1 n c1, .slice A2 n2 c2, .int .i64 (o : Int)], .slice A3 n3 c3] w (fun e w' => Lat w w' ∧ ∃ A m c, e = .returned (.tuple #[.slice A m c, .int .i64 (if o = 0 then 0 else 4)])) := by
 refine (settle_yes A1 n c1 S A2 n2 c2 T o A3 n3 c3 R w h1 h2 h3 hs hR hn3).mono ?_
 rintro e w' ⟨hl, h⟩
 rw [hq] at h
 rcases h with ⟨h0, g, c, he, hr, _⟩ | ⟨h0, he⟩
 ·rw [if_pos h0]
  exact ⟨hl, _, _, _, he⟩
 ·rw [if_neg h0]
  exact ⟨hl, _, _, _, he⟩
set_option maxRecDepth 100000 in
set_option maxHeartbeats 80000000 in
theorem qLots_any (Ap : Option Addr) (np cp : Nat) (ps : List Int) (u : Int) (Al : Option Addr) (nl cl : Nat) (ls : List Int) (s me tu : Int) (w : World)
  (hp : Sl w .u16 Ap np ps) (hnp : np ≤ 9223372036854775807) (hrp : ∀ x ∈ ps, 0 ≤ x ∧ x ≤ 65535) (u0 : 0 ≤ u) (u1 : u ≤ 255) (hl : Sl w .u8 Al nl ls) (hnl : nl ≤ 9223372036854775807) (hrl : ∀ x ∈ ls, 0 ≤ x ∧ x ≤ 255) (s0 : 0 ≤ s) (s1 : s ≤ 65535) (a0 : 0 ≤ me) (a1 : me ≤ 255)
  (b0 : 0 ≤ tu) (b1 : tu ≤ 255) :
  Calls Tryz.prog 9 #[.agg #[.slice Ap np cp, .int .u8 u, .slice Al nl cl, .int .u16 s], .int .u8 me, .int .u8 tu] w (Yes6 w) := by
 have HC := fun w (h : Sl w .u16 Ap np ps) => census_any Ap np cp ps u Al nl cl s w h hnp hrp u0 u1
 have HH := fun w => house_any Ap np cp u Al nl cl s w s0 s1
 have hok := draftC_ok u0 u1 hrp
 have hcs := draftC_census u0 u1 hrp
 have hhr := @houseN_range s
 obtain ⟨C, hC⟩ : ∃ C, draftC u ps = C := ⟨_, rfl⟩
 obtain ⟨h, hh⟩ : ∃ h, houseN s = h := ⟨_, rfl⟩
 rw [hC] at HC hok hcs
 rw [hh] at HH hhr
 have hc0 := hok.2.2.1
 have hc9 := hok.2.2.2
 have HCP := Lib.hid hok.1
 have HCS := Lib.hid hcs
 have hh0 := hhr.1
 have hh1 := hhr.2
 have HC' := Lib.hid HC
 have HH' := Lib.hid HH
 clear hrp hrl hC hh hok HC HH hcs hhr
 obtain ⟨kk, hkk⟩ : ∃ kk, me.tmod 4 = kk := ⟨_, rfl⟩
 have hk0 : 0 ≤ kk := by rw [← hkk, Int.tmod_eq_emod_of_nonneg a0]; omega
 have hk3 : kk ≤ 3 := by rw [← hkk, Int.tmod_eq_emod_of_nonneg a0]; omega
 have t2 : IntKind.i64.wrap kk = kk := IntWalk.i64_in _ (by omega)
 have t3 : IntKind.i64.wrap (1 + kk) = 1 + kk := IntWalk.i64_in _ (by omega)
 go_enter Tryz.func9, Tryz.ntmps9
 go_wp2_with fail
 refine name1 (Q := fun W => Calls _ _ _ W _) ?_
 intro W1 L1 hs1 kd
 refine (wakes6 W1).mono ?_
 rintro e W2 ⟨rfl, l1⟩
 have L2 := L1.trans l1
 have kd := kd.later l1
 have hp2 := hp.later L2
 clear l1
 have HX := fun w (h : Lat W2 w) => HC'.out w (hp2.later h)
 go_upto_region 3 with (fail)
 go_cut [7, 8] from 24 to 27 (fun c t wx => ∃ Ac cc, c = .slice Ac C.length cc ∧ t = .int .i64 h ∧ Sl wx .i64 Ac C.length C ∧ C.length ≤ cc ∧ Lat W2 wx)
 case first =>
  have hnn : w.heap.size ∉ ([] : List Nat) := by simp
  have b0 := kd.evS hnn 0 rfl
  have b1 := kd.evS hnn 1 rfl
  have b2 := kd.evS hnn 2 rfl
  have b3 := kd.evS hnn 3 rfl
  have L0 := Lat.drew W2
  have M0 := L0.s ([] : List Nat)
  go_region_held3 (fun w' => LatS W2 ([] : List Nat) w') (first | (with_reducible assumption) | ((repeat refine LatS.set ?_ (by simp) _); (with_reducible assumption)))
   (first
     | (go_at_call 28; (with_reducible refine (HX _ L0).mono ?_); rintro e wc ⟨Ac, cc, rfl, q1, q2, q3, q4⟩; have LC := L0.trans q3; have MC := LC.s ([] : List Nat))
     | (go_at_call 17; (with_reducible refine (HH'.out _).mono ?_); rintro e wm ⟨rfl, r3⟩; have LM := LC.trans r3; have MM := LM.s ([] : List Nat)))
  all_goals
   go_wp2_with fail
   go_meet
   exact ⟨Ac, cc, rfl, rfl, q1.later r3, q2, LM⟩
 case rest =>
  obtain ⟨Ac, cc, rfl, rfl, q1, qc1, l3⟩ := hcut
  have L3 := L2.trans l3
  have hcn : C.length ≤ 17000000000000 := by omega
  have hCn : ∀ x ∈ C, 0 ≤ x := fun x hx => (HCP.out x hx).1
  obtain ⟨F, hF⟩ : ∃ F, giveQ (1 + kk) C (List.replicate C.length 0) h = F := ⟨_, rfl⟩
  have HZL := Lib.hid (lowIs_nil (n := C.length) (L := []) (s := h) (by omega))
  have HM0 : Hid (∀ x ∈ List.replicate C.length (0 : Int), 0 ≤ x) := fun x hx => by rw [(List.mem_replicate.1 hx).2]; exact Int.le_refl _
  have HQO : Hid (∀ A, F = some A → QuoOk (atI C) (atI (List.replicate C.length 0)) (List.range C.length) (List.replicate C.length 0) h A) := fun A hA => giveQ_ok hCn HM0.out (by simp) HZL.out.2.2.1 (hF.trans hA)
  have HF := Lib.hid hF
  clear L2 hF hCn HX HH' HC' kd l3
  go_wp2_with fail
  refine (give_any Ac C.length cc C none 0 0 [] (List.replicate C.length 0) h (1 + kk) wc q1 (Sl.nil _ _ _) hc0 (by omega) HCS.out hh0 hh1 (by omega) (by omega) HZL.out).mono ?_
  rintro e w7 hp7
  rw [HF.out] at hp7
  clear hk0 hk3 t2 t3 hkk HZL HF HCS
  cases F with
  | none =>
    as_aux_lemma =>
    obtain ⟨l7, h7⟩ := hp7
    obtain rfl : e = _ := h7
    go_wp2
    go_ret
    exact ⟨rfl, (L3.trans l7).trans (Lat.alloc _ _)⟩
  | some A =>
    obtain ⟨l7, gS, cS, At, ct, rfl, s1, s2, s3, _, _⟩ := hp7
    have hsi := sumsIs (k := 1) (HQO.out A rfl) HM0.out (by simp)
    revert hsi s1 s2 s3
    generalize A.seats = S
    generalize A.tied = T
    generalize A.left = o
    intro s1 s2 s3 hsi
    have HSI := Lib.hid hsi
    have ho0 : 0 ≤ o := by rcases hsi.left with ⟨_, h9⟩ | ⟨h9, _⟩ <;> omega
    have hTn : T.length ≤ 9 := Nat.le_trans (asc_len hsi.asc hsi.lt) hc9
    obtain ⟨on, hon⟩ : ∃ on : Nat, o = (on : Int) := ⟨o.toNat, by omega⟩
    subst hon
    obtain ⟨G, hG1, hG2, hG3⟩ := lot_all (t := tu.toNat) hsi.len hsi.sum hsi.asc hsi.lt hsi.left
    have HG1 := Lib.hid hG1
    have HG2 := Lib.hid hG2
    have HSB : Hid (∀ x ∈ S, 0 ≤ x ∧ x ≤ 1000) := fun x hx => by
     have h1 := mem_le_sum hsi.nn x hx
     have h2 := hsi.nn x hx
     have h3 := hsi.sum
     omega
    have HSO : Hid (Sound C.length S T (on : Int)) := ⟨by omega, by omega, HSB.out, hsi.asc, hsi.lt, hsi.left⟩
    clear hsi HQO ho0 hG1 hG2 hG3 HM0
    go_upto_region 5 with (fail)
    refine name1 (Q := fun W => Code.wp _ _ _ _ W) ?_
    intro w8 l8 _ k9
    have l78 := l7.trans l8
    replace q1 := q1.later l78
    replace s1 := s1.later l8
    replace s2 := s2.later l8
    replace L3 := L3.trans l78
    obtain ⟨g9, hg9⟩ : ∃ z, w7.heap.size = z := ⟨_, rfl⟩
    rw [hg9] at k9 ⊢
    clear l7 l8 l78 hg9
    have c0 := k9.cell 0
    have c1 := k9.cell 1
    have c2 := k9.cell 2
    go_wp2
    go_loopw [11, 12, 50] (fun ov tv it wr => ∃ j : Nat, j ≤ C.length ∧ it = .int .i64 (j : Nat) ∧ Own wr w8.heap.size 3 .i64 ov (natL (rotL C.length tu.toNat j)) ∧ Own wr w8.heap.size 3 .i64 tv (natL (othL C.length tu.toNat T j)) ∧ ApartV ov tv ∧ Lat w8 wr) (fun _ _ it _ => C.length - (intOf it).toNat)
    case atStart => exact ⟨0, Nat.zero_le _, rfl, Own.nil _ _ _ _, Own.nil _ _ _ _, ApartV.nil _, Lat.refl _⟩
    case round =>
     obtain ⟨j, hj, rfl, ho1, ho2, hap, hlr⟩ := hrel
     clear c0 c1 c2
     have hB := hlr.size
     by_cases hjn : j < C.length
     ·as_aux_lemma =>
      obtain ⟨k, NK⟩ := lt_nums (tu := tu) b0 b1 hjn hc9
      have wU := NK.wrapU
      have w1 := NK.w1
      have w2 := NK.w2
      have w3 := NK.w3
      have w4 := NK.w4
      have rm := NK.rem
      have HNK := Lib.hid NK
      have hjI : (j : Int) < (C.length : Int) := by omega
      have hj0 : (0 : Int) ≤ (j : Int) := by omega
      have hnz : ¬ C.length = 0 := by omega
      have hol : (natL (rotL C.length tu.toNat j)).length + 1 ≤ 17000000000000 := by rw [natL_len, rotL_len]; omega
      have htl : (natL (othL C.length tu.toNat T j)).length + 1 ≤ 17000000000000 := by rw [natL_len]; have := othL_len C.length tu.toNat T j; omega
      have e1 : natL (rotL C.length tu.toNat j) ++ [(k : Int)] = natL (rotL C.length tu.toNat (j + 1)) := by rw [natL_snoc, rotL_succ, NK.isK]
      obtain ⟨R1, hR1⟩ : ∃ z, natL (rotL C.length tu.toNat j) = z := ⟨_, rfl⟩
      obtain ⟨R2, hR2⟩ : ∃ z, natL (othL C.length tu.toNat T j) = z := ⟨_, rfl⟩
      have E1 := Lib.hid e1
      have ER1 := Lib.hid hR1
      have ER2 := Lib.hid hR2
      rw [hR1] at ho1 hol E1
      rw [hR2] at ho2 htl
      have HB := Lib.hid hB
      clear NK e1 hR1 hR2 hB HSO HSB HG1 HG2
      go_wp2_with (at_builtin; refine wpList_push2 rfl _ _ 27 rfl w8.heap.size 3 3 .i64 8 Tryz.underlying27 infoI64 (by decide) _ R1 [(k : Int)] _ rfl wr (by rfl) ho1 1 rfl (by decide) (by rfl) hol HB.out w8.heap.size 3 .i64 _ R2 ho2 hap.symm ?_; intro v' w9 own1 hlat own2 hap2; have l9 := hlat w8 hlr (Nat.le_refl _); have c9 : w9.cell? ⟨g9, 1, none⟩ = some (.slice At T.length ct) := (k9.later l9).cell 1)
      refine (contains_any At T.length ct (natL T) (k : Int) w9 (s2.later l9) (by omega)).mono ?_
      rintro e w10 ⟨rfl, rfl⟩
      rw [natL_has]
      rw [E1.out] at own1
      clear hlat c9 w1 w2 w3 w4 rm wU
      by_cases hm : k ∈ T
      ·rw [decide_eq_true hm]
       have e2 : R2 = natL (othL C.length tu.toNat T (j + 1)) := by rw [← ER2.out, othL_no (by rw [HNK.out.isK]; exact hm)]
       rw [e2] at own2
       have HRel : ∃ j' : Nat, j' ≤ C.length ∧ Value.int .i64 ((j : Int) + 1) = .int .i64 (j' : Nat) ∧ Own w9 w8.heap.size 3 .i64 v' (natL (rotL C.length tu.toNat j')) ∧ Own w9 w8.heap.size 3 .i64 u12 (natL (othL C.length tu.toNat T j')) ∧ ApartV v' u12 ∧ Lat w8 w9 := ⟨j + 1, by omega, by go_num, own1, own2, hap2.symm, l9⟩
       clear e2 own1 own2 ho1 ho2 hm hap hap2 l9
       go_wp2
       go_roundw
       case rel => first | exact HRel | exact ⟨_, _, _, HRel, rfl⟩
       case measure => simp [intOf]; omega
      ·rw [decide_eq_false hm]
       have e2 : R2 ++ [(k : Int)] = natL (othL C.length tu.toNat T (j + 1)) := by rw [← ER2.out, natL_snoc, othL_yes (by rw [HNK.out.isK]; exact hm), HNK.out.isK]
       have HE2 := Lib.hid e2
       have HB2 := Lib.hid l9.size
       clear e2 ho1 ho2 hm
       go_wp2_with (at_builtin; refine wpList_push2 rfl _ _ 27 rfl w8.heap.size 3 3 .i64 8 Tryz.underlying27 infoI64 (by decide) _ R2 [(k : Int)] _ rfl w9 (by rfl) own2 1 rfl (by decide) (by rfl) htl HB2.out w8.heap.size 3 .i64 v' _ own1 hap2.symm ?_; intro v2 w10 own3 hlat own4 hap3)
       have l10 := hlat w8 l9 (Nat.le_refl _)
       rw [HE2.out] at own3
       have HRel : ∃ j' : Nat, j' ≤ C.length ∧ Value.int .i64 ((j : Int) + 1) = .int .i64 (j' : Nat) ∧ Own w10 w8.heap.size 3 .i64 v' (natL (rotL C.length tu.toNat j')) ∧ Own w10 w8.heap.size 3 .i64 v2 (natL (othL C.length tu.toNat T j')) ∧ ApartV v' v2 ∧ Lat w8 w10 := ⟨j + 1, by omega, by go_num, own4, own3, hap3, l10⟩
       go_roundw
       case rel => first | exact HRel | exact ⟨_, _, _, HRel, rfl⟩
       case measure => simp [intOf]; omega
     ·as_aux_lemma =>
      obtain rfl : C.length = j := by omega
      have hon : 0 < (natL (rotL C.length tu.toNat C.length)).length := by rw [natL_len, rotL_len]; exact hc0
      obtain ⟨Ao, co, rfl, so, _, hAo⟩ := ho1.form
      rw [natL_len, rotL_len] at so ho1 ⊢
      obtain ⟨ao, _, hao, _⟩ := so.at hc0
      subst hao
      have hro : ∀ r ∈ rotL C.length tu.toNat C.length ++ rotL C.length tu.toNat C.length, r < C.length := fun r hr => by
       rcases List.mem_append.1 hr with hr | hr <;> exact rotL_lt hc0 r hr
      have HRO := Lib.hid hro
      have HN3 : Hid ((natL (rotL C.length tu.toNat C.length)).length + (natL (rotL C.length tu.toNat C.length)).length ≤ 100000) := by show _ ≤ _; rw [natL_len, rotL_len]; omega
      have s2 : Sl w8 .i64 At T.length (natL T) := s2
      have HB := Lib.hid hB
      have hl2 : (natL (rotL C.length tu.toNat C.length)).length + C.length ≤ 17000000000000 := by rw [natL_len, rotL_len]; omega
      have b0 := k9.ever 0 rfl
      have b1 := k9.ever 1 rfl
      have b2 := k9.ever 2 rfl
      go_upto_region 18 with (fail)
      go_cut [15, 16] from 74 to 81 (fun lv fv wx => ∃ gl cl, lv = .slice (some ⟨gl, 0, none⟩) C.length cl ∧ fv = .int .i64 0 ∧ RowN wx gl C.length (bump S G) ∧ Own wx w8.heap.size 3 .i64 u12 (natL (othL C.length tu.toNat T C.length)) ∧ Lat w8 wx)
      case first =>
       have L0 : Lat w8 wr.drew := hlr.trans (Lat.drew wr)
       have ho1 := ho1.later (Lat.drew wr)
       have ho2 := ho2.later (Lat.drew wr)
       have so := so.later (Lat.drew wr)
       go_region_held3 (fun w' => Lat w8 w') (first | (with_reducible assumption))
        (first
          | (refine step_glueK rfl _ _ 27 (by rfl) w8.heap.size 3 .i64 8 Tryz.underlying27 infoI64 (by decide) _ (natL (rotL C.length tu.toNat C.length)) (natL (rotL C.length tu.toNat C.length)) wr.drew (by rfl) ho1 ao C.length co (by rfl) so hc0 hl2 HB.out w8.heap.size 3 .i64 _ _ ho2 hap.symm ?_; intro p1 x2 ownp hlat2 own2 _; have M2 := hlat2 w8 L0 (Nat.le_refl _); obtain ⟨Aq, cq, rfl, sq, _, _⟩ := ownp.form; clear hlat2)
          | (go_at_call 29; (with_reducible refine (settle_all (some ⟨gS, 0, none⟩) C.length cS S At T.length ct T on Aq _ cq _ G x2 (s1.later M2).sl (s2.later M2) (by rw [List.length_append, natL_app] at sq; exact sq) HSO.out HRO.out HN3.out HG1.out).mono ?_); rintro e x3 ⟨M3, gl, cl, rfl, RW⟩; have M4 := M2.trans M3))
       all_goals
        go_wp2_with fail
        go_meet
        exact ⟨gl, cl, rfl, rfl, RW, own2.later M3, M4⟩
      case rest =>
       obtain ⟨gl, cl, rfl, rfl, RW, own2, l18⟩ := hcut
       obtain ⟨Wd, rfl⟩ : ∃ W, W = wc := ⟨wc, rfl⟩
       obtain ⟨Ax, cx, hox, sx, _, _⟩ := own2.form
       obtain ⟨E, hE⟩ : ∃ E : Int, (if on = 0 then (0 : Int) else 4) = E := ⟨_, rfl⟩
       have HN4 : Hid ((natL (othL C.length tu.toNat T C.length)).length ≤ 100000) := by show _ ≤ _; rw [natL_len]; have := othL_len C.length tu.toNat T C.length; omega
       have HST := settle_nobody (some ⟨gS, 0, none⟩) C.length cS S At T.length ct T on Ax _ cx _ Wd (s1.later l18).sl (s2.later l18) sx HSO.out (othL_lt hc0) HN4.out lot_none
       rw [hE] at HST
       have HCE : Hid ((on = 0 ∧ E = 0) ∨ ((((on : Nat) : Int) == 0) = false ∧ E = 4)) := by
        by_cases hz : on = 0
        ·rw [if_pos hz] at hE; exact .inl ⟨hz, hE.symm⟩
        ·rw [if_neg hz] at hE; exact .inr ⟨by simp; omega, hE.symm⟩
       have k18 := k9.later l18
       have ls8 := L3.trans l18
       obtain ⟨nx, hnx⟩ : ∃ z, (natL (othL C.length tu.toNat T C.length)).length = z := ⟨_, rfl⟩
       rw [hnx] at hox HST
       subst hox
       clear sx HN4 hnx hE HG1 HRO HN3 hl2 b0 b1 b2 ho1 ho2 so hap hAo HB own2 hon hlr k9 L3 hj hjn
       have c0 := k18.cell 0
       have c1 := k18.cell 1
       have c2 := k18.cell 2
       go_wp2_with fail
       refine HST.mono ?_
       rintro e w19 ⟨l19, Ay, my, cy, rfl⟩
       have k19 := k18.later l19
       replace RW := RW.later l19
       replace ls8 := ls8.trans l19
       have l8r := l18.trans l19
       have HC2 : Hid (∀ w', Lat w19 w' → w'.cell? ⟨g9, 2, none⟩ = some (.int .i64 (on : Int))) := fun w' h => (k19.later h).cell 2
       clear HST c0 c1 c2 l19 k18 l18
       go_upto_region 20 with (fail)
       go_cut [112] from 88 to 112 (fun v wx => v = .bool false ∧ Lat w19 wx)
       case first =>
        rcases HCE.out with ⟨hz, he⟩ | ⟨hz, he⟩
        ·as_aux_lemma =>
         have HC3 : Hid (∀ w', Lat w19 w' → w'.cell? ⟨g9, 2, none⟩ = some (.int .i64 0)) := fun w' h => by
          have h9 := HC2.out w' h
          rw [hz] at h9
          exact h9
         have HE0 := Lib.hid he
         clear hz he HCE HC2 HSO HSB HG2 HSI
         rename_i KN hKN
         refine wp_region_slotsN (lt20a_rows g9 gl cl C.length Ac cc E) (lt20a_base g9 gl cl C.length Ac cc E _ _ _ _ _ _ _ _ _ _ _ _ _ _ _ _ _ _ _ _ _ _ _ _ _ _ _ _ _ _ _ _ _ _ _ _ _ _ _ _ _ _ _ _ _ _ _ _ _ _ _ _ _ _ _ _ _ _ _ _ _ _ _ _ _ _ _ _ _ _ _ _ _ _ _ _ _ _ _ _ _ _ _ _ _ _ _ _ _ _ _ _ _ _ _ _ _ _ _ _ _ _ _ _ _ _ _ _ _ _ _ _ _ _ _ _ _ _ _ _ _ _ _ _ _ _ _ _ _ _) 160 25 [[], [0], [1], [2], [3, 2], [2], [5, 2], [4, 6, 2], [2, 7], [8, 2], [9], [10, 9], [9], [12, 9], [13, 9], [11, 14, 9], [9, 15], [16, 9], [17], [18, 17], [19, 17, 17], [20], [21, 20], [20, 22, 17], [17, 23]] (by kernel_rfl) (by kernel_rfl) (by kernel_rfl) (by kernel_rfl) (by kernel_rfl) (by kernel_rfl) (by rfl) rfl (base_of (by repeat (first | exact base_nil _ | refine base_cons rfl ?_))) (lt20a_steps w19 g9 gl cl C.length Ac cc E _ _ _ _ _ _ _ _ _ _ _ _ _ _ _ _ _ _ _ _ _ _ _ _ _ _ _ _ _ _ _ _ _ _ _ _ _ _ _ _ _ _ _ _ _ _ _ _ _ _ _ _ _ _ _ _ _ _ _ _ _ _ _ _ _ _ _ _ _ _ _ _ _ _ _ _ _ _ _ _ _ _ _ _ _ _ _ _ _ _ _ _ _ _ _ _ _ _ _ _ _ _ _ _ _ _ _ _ _ _ _ _ _ _ _ _ _ _ _ _ _ _ _ _ _ _ _ _ _ _ HC3.out HE0.out) ?_
         ·intro a9 W9 hsz9 hdf9 hL9 hbs hsl
          obtain ⟨v9, h9, q9⟩ := hsl 24 _ _ rfl rfl
          obtain rfl : v9 = .bool false := q9
          have w112 := slot_getD h9
          clear h9
          refine hKN _ _ ?_
          obtain ⟨T9, df9⟩ := a9
          obtain rfl : df9 = [] := hdf9
          obtain ⟨f, hf, rfl⟩ := spell160 T9 hsz9
          have X9 := fun k v h => (hf k).trans (slot_getD (hbs k v h))
          have x112 := (hf 112).trans w112
          clear hbs hsl hf hsz9 hKN w112
          simp only [X9 7 _ rfl, X9 9 _ rfl, X9 15 _ rfl, X9 16 _ rfl, X9 18 _ rfl, X9 0 _ rfl, X9 1 _ rfl, X9 2 _ rfl, X9 3 _ rfl, X9 4 _ rfl, X9 5 _ rfl, X9 6 _ rfl, X9 8 _ rfl, X9 10 _ rfl, X9 11 _ rfl, X9 12 _ rfl, X9 13 _ rfl, X9 14 _ rfl, X9 17 _ rfl, X9 19 _ rfl, X9 20 _ rfl, X9 21 _ rfl, X9 22 _ rfl, X9 23 _ rfl, X9 24 _ rfl, X9 25 _ rfl, X9 26 _ rfl, X9 27 _ rfl, X9 28 _ rfl, X9 29 _ rfl, X9 30 _ rfl, X9 31 _ rfl, X9 32 _ rfl, X9 33 _ rfl, X9 34 _ rfl, X9 35 _ rfl, X9 36 _ rfl, X9 37 _ rfl, X9 38 _ rfl, X9 39 _ rfl, X9 40 _ rfl, X9 41 _ rfl, X9 42 _ rfl, X9 43 _ rfl, X9 44 _ rfl, X9 45 _ rfl, X9 46 _ rfl, X9 47 _ rfl, X9 48 _ rfl, X9 49 _ rfl, X9 50 _ rfl, X9 51 _ rfl, X9 52 _ rfl, X9 53 _ rfl, X9 54 _ rfl, X9 55 _ rfl, X9 56 _ rfl, X9 57 _ rfl, X9 58 _ rfl, X9 59 _ rfl, X9 60 _ rfl, X9 61 _ rfl, X9 62 _ rfl, X9 63 _ rfl, X9 64 _ rfl, X9 65 _ rfl, X9 66 _ rfl, X9 67 _ rfl, X9 68 _ rfl, X9 69 _ rfl, X9 70 _ rfl, X9 71 _ rfl, X9 72 _ rfl, X9 73 _ rfl, X9 74 _ rfl, X9 75 _ rfl, X9 76 _ rfl, X9 77 _ rfl, X9 78 _ rfl, X9 79 _ rfl, X9 80 _ rfl, X9 81 _ rfl, X9 82 _ rfl, X9 83 _ rfl, X9 84 _ rfl, X9 85 _ rfl, X9 86 _ rfl, X9 87 _ rfl, X9 113 _ rfl, X9 114 _ rfl, X9 115 _ rfl, X9 116 _ rfl, X9 117 _ rfl, X9 118 _ rfl, X9 119 _ rfl, X9 120 _ rfl, X9 121 _ rfl, X9 122 _ rfl, X9 123 _ rfl, X9 124 _ rfl, X9 125 _ rfl, X9 126 _ rfl, X9 127 _ rfl, X9 128 _ rfl, X9 129 _ rfl, X9 130 _ rfl, X9 131 _ rfl, X9 132 _ rfl, X9 133 _ rfl, X9 134 _ rfl, X9 135 _ rfl, X9 136 _ rfl, X9 137 _ rfl, X9 138 _ rfl, X9 139 _ rfl, X9 140 _ rfl, X9 141 _ rfl, X9 142 _ rfl, X9 143 _ rfl, X9 144 _ rfl, X9 145 _ rfl, X9 146 _ rfl, X9 147 _ rfl, X9 148 _ rfl, X9 149 _ rfl, X9 150 _ rfl, X9 151 _ rfl, X9 152 _ rfl, X9 153 _ rfl, X9 154 _ rfl, X9 155 _ rfl, X9 156 _ rfl, X9 157 _ rfl, X9 158 _ rfl, X9 159 _ rfl, x112]
          clear x112 X9
          go_wp2_with fail
          go_meet
          exact ⟨rfl, hL9⟩
        ·as_aux_lemma =>
         have HZ := Lib.hid hz
         have HE0 := Lib.hid he
         clear hz he HCE HSO HSB HG2 HSI
         rename_i KN hKN
         refine wp_region_slotsN (lt20b_rows g9 gl cl C.length Ac cc E (on : Int)) (lt20b_base g9 gl cl C.length Ac cc E (on : Int) _ _ _ _ _ _ _ _ _ _ _ _ _ _ _ _ _ _ _ _ _ _ _ _ _ _ _ _ _ _ _ _ _ _ _ _ _ _ _ _ _ _ _ _ _ _ _ _ _ _ _ _ _ _ _ _ _ _ _ _ _ _ _ _ _ _ _ _ _ _ _ _ _ _ _ _ _ _ _ _ _ _ _ _ _ _ _ _ _ _ _ _ _ _ _ _ _ _ _ _ _ _ _ _ _ _ _ _ _ _ _ _ _ _ _ _ _ _ _ _ _ _ _ _ _ _ _ _ _ _) 160 25 [[], [0], [1], [2], [3, 2], [2], [5, 2], [4, 6, 2], [2, 7], [8, 2], [9], [10, 9], [9], [12, 9], [13, 9], [11, 14, 9], [9, 15], [16, 9], [17], [18, 17], [19, 17, 17], [20], [21, 20], [20, 22, 17], [17, 23]] (by kernel_rfl) (by kernel_rfl) (by kernel_rfl) (by kernel_rfl) (by kernel_rfl) (by kernel_rfl) (by rfl) rfl (base_of (by repeat (first | exact base_nil _ | refine base_cons rfl ?_))) (lt20b_steps w19 g9 gl cl C.length Ac cc E (on : Int) _ _ _ _ _ _ _ _ _ _ _ _ _ _ _ _ _ _ _ _ _ _ _ _ _ _ _ _ _ _ _ _ _ _ _ _ _ _ _ _ _ _ _ _ _ _ _ _ _ _ _ _ _ _ _ _ _ _ _ _ _ _ _ _ _ _ _ _ _ _ _ _ _ _ _ _ _ _ _ _ _ _ _ _ _ _ _ _ _ _ _ _ _ _ _ _ _ _ _ _ _ _ _ _ _ _ _ _ _ _ _ _ _ _ _ _ _ _ _ _ _ _ _ _ _ _ _ _ _ _ HC2.out HZ.out HE0.out) ?_
         ·intro a9 W9 hsz9 hdf9 hL9 hbs hsl
          obtain ⟨v9, h9, q9⟩ := hsl 24 _ _ rfl rfl
          obtain rfl : v9 = .bool false := q9
          have w112 := slot_getD h9
          clear h9
          refine hKN _ _ ?_
          obtain ⟨T9, df9⟩ := a9
          obtain rfl : df9 = [] := hdf9
          obtain ⟨f, hf, rfl⟩ := spell160 T9 hsz9
          have X9 := fun k v h => (hf k).trans (slot_getD (hbs k v h))
          have x112 := (hf 112).trans w112
          clear hbs hsl hf hsz9 hKN w112
          simp only [X9 7 _ rfl, X9 9 _ rfl, X9 15 _ rfl, X9 16 _ rfl, X9 18 _ rfl, X9 0 _ rfl, X9 1 _ rfl, X9 2 _ rfl, X9 3 _ rfl, X9 4 _ rfl, X9 5 _ rfl, X9 6 _ rfl, X9 8 _ rfl, X9 10 _ rfl, X9 11 _ rfl, X9 12 _ rfl, X9 13 _ rfl, X9 14 _ rfl, X9 17 _ rfl, X9 19 _ rfl, X9 20 _ rfl, X9 21 _ rfl, X9 22 _ rfl, X9 23 _ rfl, X9 24 _ rfl, X9 25 _ rfl, X9 26 _ rfl, X9 27 _ rfl, X9 28 _ rfl, X9 29 _ rfl, X9 30 _ rfl, X9 31 _ rfl, X9 32 _ rfl, X9 33 _ rfl, X9 34 _ rfl, X9 35 _ rfl, X9 36 _ rfl, X9 37 _ rfl, X9 38 _ rfl, X9 39 _ rfl, X9 40 _ rfl, X9 41 _ rfl, X9 42 _ rfl, X9 43 _ rfl, X9 44 _ rfl, X9 45 _ rfl, X9 46 _ rfl, X9 47 _ rfl, X9 48 _ rfl, X9 49 _ rfl, X9 50 _ rfl, X9 51 _ rfl, X9 52 _ rfl, X9 53 _ rfl, X9 54 _ rfl, X9 55 _ rfl, X9 56 _ rfl, X9 57 _ rfl, X9 58 _ rfl, X9 59 _ rfl, X9 60 _ rfl, X9 61 _ rfl, X9 62 _ rfl, X9 63 _ rfl, X9 64 _ rfl, X9 65 _ rfl, X9 66 _ rfl, X9 67 _ rfl, X9 68 _ rfl, X9 69 _ rfl, X9 70 _ rfl, X9 71 _ rfl, X9 72 _ rfl, X9 73 _ rfl, X9 74 _ rfl, X9 75 _ rfl, X9 76 _ rfl, X9 77 _ rfl, X9 78 _ rfl, X9 79 _ rfl, X9 80 _ rfl, X9 81 _ rfl, X9 82 _ rfl, X9 83 _ rfl, X9 84 _ rfl, X9 85 _ rfl, X9 86 _ rfl, X9 87 _ rfl, X9 113 _ rfl, X9 114 _ rfl, X9 115 _ rfl, X9 116 _ rfl, X9 117 _ rfl, X9 118 _ rfl, X9 119 _ rfl, X9 120 _ rfl, X9 121 _ rfl, X9 122 _ rfl, X9 123 _ rfl, X9 124 _ rfl, X9 125 _ rfl, X9 126 _ rfl, X9 127 _ rfl, X9 128 _ rfl, X9 129 _ rfl, X9 130 _ rfl, X9 131 _ rfl, X9 132 _ rfl, X9 133 _ rfl, X9 134 _ rfl, X9 135 _ rfl, X9 136 _ rfl, X9 137 _ rfl, X9 138 _ rfl, X9 139 _ rfl, X9 140 _ rfl, X9 141 _ rfl, X9 142 _ rfl, X9 143 _ rfl, X9 144 _ rfl, X9 145 _ rfl, X9 146 _ rfl, X9 147 _ rfl, X9 148 _ rfl, X9 149 _ rfl, X9 150 _ rfl, X9 151 _ rfl, X9 152 _ rfl, X9 153 _ rfl, X9 154 _ rfl, X9 155 _ rfl, X9 156 _ rfl, X9 157 _ rfl, X9 158 _ rfl, X9 159 _ rfl, x112]
          clear x112 X9
          go_wp2_with fail
          go_meet
          exact ⟨rfl, hL9⟩
       case rest =>
        obtain ⟨rfl, l20⟩ := hcut
        obtain ⟨We, rfl⟩ : ∃ W, W = wc := ⟨wc, rfl⟩
        have HK0 : Hid (∀ w', Lat We w' → w'.cell? ⟨g9, 0, none⟩ = some (.slice (some ⟨gS, 0, none⟩) C.length cS)) := fun w' h => (k19.later (l20.trans h)).cell 0
        have HK1 : Hid (∀ w', Lat We w' → w'.cell? ⟨g9, 1, none⟩ = some (.slice At T.length ct)) := fun w' h => (k19.later (l20.trans h)).cell 1
        replace RW := RW.later l20
        replace s1 := s1.later (l8r.trans l20)
        replace s2 := s2.later (l8r.trans l20)
        replace ls8 := ls8.trans l20
        obtain ⟨L, hL⟩ : ∃ L, bump S G = L := ⟨_, rfl⟩
        rw [hL] at RW HG2
        clear k19 HC2 HCE HSO l20 l8r hL
        go_wp2
        go_loopw [115, 19] (fun it ts wr => ∃ j : Nat, j ≤ C.length ∧ it = .int .i64 (j : Nat) ∧ ts = .int .i64 (L.take j).sum ∧ Lat We wr) (fun it _ _ => C.length - (intOf it).toNat)
        case atStart => exact ⟨0, Nat.zero_le _, rfl, rfl, Lat.refl _⟩
        case round =>
         obtain ⟨j, hj, rfl, rfl, hlr⟩ := hrel
         by_cases hjn : j < C.length
         ·as_aux_lemma =>
          obtain ⟨x, hx⟩ : ∃ x, S[j]? = some x := ⟨_, List.getElem?_eq_getElem (by rw [HSI.out.len]; exact hjn)⟩
          obtain ⟨y, hy⟩ : ∃ y, L[j]? = some y := ⟨_, List.getElem?_eq_getElem (by rw [HG2.out.len]; exact hjn)⟩
          have hxb := HSB.out x (List.mem_of_getElem? hx)
          have hxy := HG2.out.at_ j x y hx hy
          have hyy := lt_y hxb.1 hxb.2 (show y = x ∨ y = x + 1 by rcases hxy with h | ⟨h, _⟩; exact .inl h; exact .inr h)
          have hLn : ∀ z ∈ L, 0 ≤ z := fun z hz => by
           obtain ⟨q, hq⟩ := List.getElem?_of_mem hz
           obtain ⟨x', hx'⟩ : ∃ x, S[q]? = some x := ⟨_, List.getElem?_eq_getElem (by rw [HSI.out.len, ← HG2.out.len]; exact (List.getElem?_eq_some_iff.1 hq).1)⟩
           have h1 := HSI.out.nn x' (List.mem_of_getElem? hx')
           rcases HG2.out.at_ q x' z hx' hq with h | ⟨h, _⟩ <;> omega
          have ht := take_sum hLn j
          have ht2 := take_sum hLn (j + 1)
          have hsn := take_snoc hy
          rw [HG2.out.sum] at ht ht2
          rw [hsn] at ht2
          have HSN := Lib.hid hsn
          obtain ⟨sj, hsj⟩ : ∃ z, (L.take j).sum = z := ⟨_, rfl⟩
          rw [hsj] at ht ht2 HSN ⊢
          have v1 : wrap64 (sj + y) = sj + y := IntWalk.wrap64_in _ (by omega)
          have v2 : IntKind.i64.wrap (sj + y) = sj + y := IntWalk.i64_in _ (by omega)
          have HE : Hid (sj + y = (L.take (j + 1)).sum) := HSN.out.symm
          have hcy := (RW.later hlr).cell hy
          have HC3 : Hid (∀ w', Lat wr w' → w'.cell? ⟨gS, j, none⟩ = some (.int .i64 x)) := fun w' h9 => (s1.later (hlr.trans h9)).cell hx
          have HC0 : Hid (∀ w', Lat wr w' → w'.cell? ⟨g9, 0, none⟩ = some (.slice (some ⟨gS, 0, none⟩) C.length cS)) := fun w' h9 => HK0.out w' (hlr.trans h9)
          have HC1 : Hid (∀ w', Lat wr w' → w'.cell? ⟨g9, 1, none⟩ = some (.slice At T.length ct)) := fun w' h9 => HK1.out w' (hlr.trans h9)
          have HHC : Hid (j ∈ T → ∀ w', Lat wr w' → Calls Tryz.prog 34 #[.slice At T.length ct, .int .i64 (j : Int)] w' (fun e w'' => e = .returned (.bool true) ∧ Lat w' w'')) := fun hm w' h9 =>
           (contains_any At T.length ct (natL T) (j : Int) w' (s2.later (hlr.trans h9)) (by omega)).mono (fun e w'' h8 => ⟨h8.1.trans (by rw [natL_has, decide_eq_true hm]), h8.2 ▸ Lat.refl _⟩)
          have hjI : (j : Int) < (C.length : Int) := by omega
          have hj0 : (0 : Int) ≤ (j : Int) := by omega
          have HJ := Lib.hid hjn
          have HYY := Lib.hid hyy
          have HXY := Lib.hid hxy
          have HLR := Lib.hid hlr
          clear hx hy hsj hsn HSN ht ht2 hLn hxb hxy hyy HSI HSB HG2 s1 s2 RW HK0 HK1 hj hjn hlr
          obtain ⟨Wj, hWj⟩ : ∃ W, W = wr := ⟨wr, rfl⟩
          subst hWj
          go_upto_region 27 with (fail)
          clear v1 v2 hcy
          rcases HXY.out with hq | ⟨hq, hm⟩
          ·as_aux_lemma =>
           have HQ := Lib.hid hq
           clear hq
           rename_i KN hKN
           refine wp_region_slotsN (lt27a_rows g9 gS C.length cS x y j At T.length ct) (lt27a_base g9 gS C.length cS x y j At T.length ct _ _ _ _ _ _ _ _ _ _ _ _ _ _ _ _ _ _ _ _ _ _ _ _ _ _ _ _ _ _ _ _ _ _ _ _ _ _ _ _ _ _ _ _ _ _ _ _ _ _ _ _ _ _ _ _ _ _ _ _ _ _ _ _ _ _ _ _ _ _ _ _ _ _ _ _ _ _ _ _ _ _ _ _ _ _ _ _ _ _ _ _ _ _ _ _ _ _ _ _ _ _ _ _ _ _ _ _ _ _ _ _ _ _ _ _ _ _ _ _ _ _ _ _) 160 33 [[], [], [1], [], [2, 3], [4], [0, 5], [6], [7], [7], [9, 7], [7], [10, 11, 7], [12, 7], [13, 7], [8, 14, 7], [7, 15], [16, 7], [17], [17], [19, 17], [17], [20, 21, 17], [22, 17], [18, 23, 17], [24, 17, 17], [25], [26, 25], [25], [27, 28, 25, 25], [29, 25], [25, 30, 17], [17, 31]] (by kernel_rfl) (by kernel_rfl) (by kernel_rfl) (by kernel_rfl) (by kernel_rfl) (by kernel_rfl) (by rfl) rfl (base_of (by repeat (first | exact base_nil _ | refine base_cons rfl ?_))) (lt27a_steps Wj g9 gS C.length cS x y j At T.length ct _ _ _ _ _ _ _ _ _ _ _ _ _ _ _ _ _ _ _ _ _ _ _ _ _ _ _ _ _ _ _ _ _ _ _ _ _ _ _ _ _ _ _ _ _ _ _ _ _ _ _ _ _ _ _ _ _ _ _ _ _ _ _ _ _ _ _ _ _ _ _ _ _ _ _ _ _ _ _ _ _ _ _ _ _ _ _ _ _ _ _ _ _ _ _ _ _ _ _ _ _ _ _ _ _ _ _ _ _ _ _ _ _ _ _ _ _ _ _ _ _ _ _ _ HC0.out HC3.out (by have h9 := HJ.out; omega) HYY.out.2.2.1 HYY.out.2.2.2.1 HYY.out.2.2.2.2.1 HYY.out.2.2.2.2.2 HYY.out.1 HYY.out.2.1 (by have h9 := HQ.out; omega) (by have h9 := HQ.out; omega)) ?_
           ·intro a9 W9 hsz9 hdf9 hL9 hbs hsl
            obtain ⟨v9, h9, q9⟩ := hsl 32 _ _ rfl rfl
            obtain rfl : v9 = .bool false := q9
            have w155 := slot_getD h9
            clear h9
            refine hKN _ _ ?_
            obtain ⟨T9, df9⟩ := a9
            obtain rfl : df9 = [] := hdf9
            obtain ⟨f, hf, rfl⟩ := spell160 T9 hsz9
            have X9 := fun k v h => (hf k).trans (slot_getD (hbs k v h))
            have x155 := (hf 155).trans w155
            clear hbs hsl hf hsz9 hKN w155
            simp only [X9 9 _ rfl, X9 20 _ rfl, X9 21 _ rfl, X9 0 _ rfl, X9 1 _ rfl, X9 2 _ rfl, X9 3 _ rfl, X9 4 _ rfl, X9 5 _ rfl, X9 6 _ rfl, X9 7 _ rfl, X9 8 _ rfl, X9 10 _ rfl, X9 11 _ rfl, X9 12 _ rfl, X9 13 _ rfl, X9 14 _ rfl, X9 15 _ rfl, X9 16 _ rfl, X9 17 _ rfl, X9 18 _ rfl, X9 19 _ rfl, X9 22 _ rfl, X9 23 _ rfl, X9 24 _ rfl, X9 25 _ rfl, X9 26 _ rfl, X9 27 _ rfl, X9 28 _ rfl, X9 29 _ rfl, X9 30 _ rfl, X9 31 _ rfl, X9 32 _ rfl, X9 33 _ rfl, X9 34 _ rfl, X9 35 _ rfl, X9 36 _ rfl, X9 37 _ rfl, X9 38 _ rfl, X9 39 _ rfl, X9 40 _ rfl, X9 41 _ rfl, X9 42 _ rfl, X9 43 _ rfl, X9 44 _ rfl, X9 45 _ rfl, X9 46 _ rfl, X9 47 _ rfl, X9 48 _ rfl, X9 49 _ rfl, X9 50 _ rfl, X9 51 _ rfl, X9 52 _ rfl, X9 53 _ rfl, X9 54 _ rfl, X9 55 _ rfl, X9 56 _ rfl, X9 57 _ rfl, X9 58 _ rfl, X9 59 _ rfl, X9 60 _ rfl, X9 61 _ rfl, X9 62 _ rfl, X9 63 _ rfl, X9 64 _ rfl, X9 65 _ rfl, X9 66 _ rfl, X9 67 _ rfl, X9 68 _ rfl, X9 69 _ rfl, X9 70 _ rfl, X9 71 _ rfl, X9 72 _ rfl, X9 73 _ rfl, X9 74 _ rfl, X9 75 _ rfl, X9 76 _ rfl, X9 77 _ rfl, X9 78 _ rfl, X9 79 _ rfl, X9 80 _ rfl, X9 81 _ rfl, X9 82 _ rfl, X9 83 _ rfl, X9 84 _ rfl, X9 85 _ rfl, X9 86 _ rfl, X9 87 _ rfl, X9 88 _ rfl, X9 89 _ rfl, X9 90 _ rfl, X9 91 _ rfl, X9 92 _ rfl, X9 93 _ rfl, X9 94 _ rfl, X9 95 _ rfl, X9 96 _ rfl, X9 97 _ rfl, X9 98 _ rfl, X9 99 _ rfl, X9 100 _ rfl, X9 101 _ rfl, X9 102 _ rfl, X9 103 _ rfl, X9 104 _ rfl, X9 105 _ rfl, X9 106 _ rfl, X9 107 _ rfl, X9 108 _ rfl, X9 109 _ rfl, X9 110 _ rfl, X9 111 _ rfl, X9 112 _ rfl, X9 113 _ rfl, X9 114 _ rfl, X9 115 _ rfl, X9 116 _ rfl, X9 117 _ rfl, X9 118 _ rfl, X9 119 _ rfl, X9 120 _ rfl, X9 121 _ rfl, X9 122 _ rfl, X9 156 _ rfl, X9 157 _ rfl, X9 158 _ rfl, X9 159 _ rfl, x155]
            clear x155 X9
            go_wp2
            go_roundw
            case rel =>
             have HRel : ∃ j' : Nat, j' ≤ C.length ∧ Value.int .i64 ((j : Int) + 1) = .int .i64 (j' : Nat) ∧ Value.int .i64 (sj + y) = .int .i64 (L.take j').sum ∧ Lat We W9 := ⟨j + 1, by have h9 := HJ.out; omega, by go_num, by rw [HE.out], HLR.out.trans hL9⟩
             first | exact HRel | exact ⟨_, HRel, rfl⟩ | exact ⟨_, _, HRel, rfl, rfl⟩ | exact ⟨_, _, _, HRel, rfl, rfl, rfl⟩ | exact ⟨_, _, _, _, HRel, rfl, rfl, rfl, rfl⟩ | exact ⟨_, _, _, _, _, HRel, rfl, rfl, rfl, rfl, rfl⟩ | exact ⟨_, _, _, _, _, _, HRel, rfl, rfl, rfl, rfl, rfl, rfl⟩ | exact ⟨_, _, _, _, _, _, _, HRel, rfl, rfl, rfl, rfl, rfl, rfl, rfl⟩ | exact ⟨_, _, _, _, _, _, _, _, HRel, rfl, rfl, rfl, rfl, rfl, rfl, rfl, rfl⟩ | exact ⟨_, _, _, _, _, _, _, _, _, HRel, rfl, rfl, rfl, rfl, rfl, rfl, rfl, rfl, rfl⟩
            case measure =>
             have h9 := HJ.out
             simp [intOf]; omega
          ·as_aux_lemma =>
           have HQ := Lib.hid hq
           have HM := Lib.hid hm
           clear hq hm
           rename_i KN hKN
           refine wp_region_slotsN (lt27b_rows g9 gS C.length cS x y j At T.length ct) (lt27b_base g9 gS C.length cS x y j At T.length ct _ _ _ _ _ _ _ _ _ _ _ _ _ _ _ _ _ _ _ _ _ _ _ _ _ _ _ _ _ _ _ _ _ _ _ _ _ _ _ _ _ _ _ _ _ _ _ _ _ _ _ _ _ _ _ _ _ _ _ _ _ _ _ _ _ _ _ _ _ _ _ _ _ _ _ _ _ _ _ _ _ _ _ _ _ _ _ _ _ _ _ _ _ _ _ _ _ _ _ _ _ _ _ _ _ _ _ _ _ _ _ _ _ _ _ _ _ _ _ _ _ _ _ _) 160 33 [[], [], [1], [], [2, 3], [4], [0, 5], [6], [7], [7], [9, 7], [7], [10, 11, 7], [12, 7], [13, 7], [8, 14, 7], [7, 15], [16, 7], [17], [17], [19, 17], [17], [20, 21, 17], [22, 17], [18, 23, 17], [24, 17, 17], [25], [26, 25], [25], [27, 28, 25, 25], [29, 25], [25, 30, 17], [17, 31]] (by kernel_rfl) (by kernel_rfl) (by kernel_rfl) (by kernel_rfl) (by kernel_rfl) (by kernel_rfl) (by rfl) rfl (base_of (by repeat (first | exact base_nil _ | refine base_cons rfl ?_))) (lt27b_steps Wj g9 gS C.length cS x y j At T.length ct _ _ _ _ _ _ _ _ _ _ _ _ _ _ _ _ _ _ _ _ _ _ _ _ _ _ _ _ _ _ _ _ _ _ _ _ _ _ _ _ _ _ _ _ _ _ _ _ _ _ _ _ _ _ _ _ _ _ _ _ _ _ _ _ _ _ _ _ _ _ _ _ _ _ _ _ _ _ _ _ _ _ _ _ _ _ _ _ _ _ _ _ _ _ _ _ _ _ _ _ _ _ _ _ _ _ _ _ _ _ _ _ _ _ _ _ _ _ _ _ _ _ _ _ HC0.out HC3.out (by have h9 := HJ.out; omega) HYY.out.2.2.1 HYY.out.2.2.2.1 HYY.out.2.2.2.2.1 HYY.out.2.2.2.2.2 HYY.out.1 HYY.out.2.1 (by have h9 := HQ.out; omega) HC1.out (HHC.out HM.out)) ?_
           ·intro a9 W9 hsz9 hdf9 hL9 hbs hsl
            obtain ⟨v9, h9, q9⟩ := hsl 32 _ _ rfl rfl
            obtain rfl : v9 = .bool false := q9
            have w155 := slot_getD h9
            clear h9
            refine hKN _ _ ?_
            obtain ⟨T9, df9⟩ := a9
            obtain rfl : df9 = [] := hdf9
            obtain ⟨f, hf, rfl⟩ := spell160 T9 hsz9
            have X9 := fun k v h => (hf k).trans (slot_getD (hbs k v h))
            have x155 := (hf 155).trans w155
            clear hbs hsl hf hsz9 hKN w155
            simp only [X9 9 _ rfl, X9 20 _ rfl, X9 21 _ rfl, X9 0 _ rfl, X9 1 _ rfl, X9 2 _ rfl, X9 3 _ rfl, X9 4 _ rfl, X9 5 _ rfl, X9 6 _ rfl, X9 7 _ rfl, X9 8 _ rfl, X9 10 _ rfl, X9 11 _ rfl, X9 12 _ rfl, X9 13 _ rfl, X9 14 _ rfl, X9 15 _ rfl, X9 16 _ rfl, X9 17 _ rfl, X9 18 _ rfl, X9 19 _ rfl, X9 22 _ rfl, X9 23 _ rfl, X9 24 _ rfl, X9 25 _ rfl, X9 26 _ rfl, X9 27 _ rfl, X9 28 _ rfl, X9 29 _ rfl, X9 30 _ rfl, X9 31 _ rfl, X9 32 _ rfl, X9 33 _ rfl, X9 34 _ rfl, X9 35 _ rfl, X9 36 _ rfl, X9 37 _ rfl, X9 38 _ rfl, X9 39 _ rfl, X9 40 _ rfl, X9 41 _ rfl, X9 42 _ rfl, X9 43 _ rfl, X9 44 _ rfl, X9 45 _ rfl, X9 46 _ rfl, X9 47 _ rfl, X9 48 _ rfl, X9 49 _ rfl, X9 50 _ rfl, X9 51 _ rfl, X9 52 _ rfl, X9 53 _ rfl, X9 54 _ rfl, X9 55 _ rfl, X9 56 _ rfl, X9 57 _ rfl, X9 58 _ rfl, X9 59 _ rfl, X9 60 _ rfl, X9 61 _ rfl, X9 62 _ rfl, X9 63 _ rfl, X9 64 _ rfl, X9 65 _ rfl, X9 66 _ rfl, X9 67 _ rfl, X9 68 _ rfl, X9 69 _ rfl, X9 70 _ rfl, X9 71 _ rfl, X9 72 _ rfl, X9 73 _ rfl, X9 74 _ rfl, X9 75 _ rfl, X9 76 _ rfl, X9 77 _ rfl, X9 78 _ rfl, X9 79 _ rfl, X9 80 _ rfl, X9 81 _ rfl, X9 82 _ rfl, X9 83 _ rfl, X9 84 _ rfl, X9 85 _ rfl, X9 86 _ rfl, X9 87 _ rfl, X9 88 _ rfl, X9 89 _ rfl, X9 90 _ rfl, X9 91 _ rfl, X9 92 _ rfl, X9 93 _ rfl, X9 94 _ rfl, X9 95 _ rfl, X9 96 _ rfl, X9 97 _ rfl, X9 98 _ rfl, X9 99 _ rfl, X9 100 _ rfl, X9 101 _ rfl, X9 102 _ rfl, X9 103 _ rfl, X9 104 _ rfl, X9 105 _ rfl, X9 106 _ rfl, X9 107 _ rfl, X9 108 _ rfl, X9 109 _ rfl, X9 110 _ rfl, X9 111 _ rfl, X9 112 _ rfl, X9 113 _ rfl, X9 114 _ rfl, X9 115 _ rfl, X9 116 _ rfl, X9 117 _ rfl, X9 118 _ rfl, X9 119 _ rfl, X9 120 _ rfl, X9 121 _ rfl, X9 122 _ rfl, X9 156 _ rfl, X9 157 _ rfl, X9 158 _ rfl, X9 159 _ rfl, x155]
            clear x155 X9
            go_wp2
            go_roundw
            case rel =>
             have HRel : ∃ j' : Nat, j' ≤ C.length ∧ Value.int .i64 ((j : Int) + 1) = .int .i64 (j' : Nat) ∧ Value.int .i64 (sj + y) = .int .i64 (L.take j').sum ∧ Lat We W9 := ⟨j + 1, by have h9 := HJ.out; omega, by go_num, by rw [HE.out], HLR.out.trans hL9⟩
             first | exact HRel | exact ⟨_, HRel, rfl⟩ | exact ⟨_, _, HRel, rfl, rfl⟩ | exact ⟨_, _, _, HRel, rfl, rfl, rfl⟩ | exact ⟨_, _, _, _, HRel, rfl, rfl, rfl, rfl⟩ | exact ⟨_, _, _, _, _, HRel, rfl, rfl, rfl, rfl, rfl⟩ | exact ⟨_, _, _, _, _, _, HRel, rfl, rfl, rfl, rfl, rfl, rfl⟩ | exact ⟨_, _, _, _, _, _, _, HRel, rfl, rfl, rfl, rfl, rfl, rfl, rfl⟩ | exact ⟨_, _, _, _, _, _, _, _, HRel, rfl, rfl, rfl, rfl, rfl, rfl, rfl, rfl⟩ | exact ⟨_, _, _, _, _, _, _, _, _, HRel, rfl, rfl, rfl, rfl, rfl, rfl, rfl, rfl, rfl⟩
            case measure =>
             have h9 := HJ.out
             simp [intOf]; omega
         ·as_aux_lemma =>
          obtain rfl : C.length = j := by omega
          rw [List.take_of_length_le (by rw [HG2.out.len]; exact Nat.le_refl _), HG2.out.sum]
          go_wp2
          go_ret
          exact ⟨rfl, ls8.trans hlr⟩
end Go.Proofs.YtbgngmamnonlbaaGreat
