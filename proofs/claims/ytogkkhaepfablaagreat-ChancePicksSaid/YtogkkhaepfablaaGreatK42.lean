/- Several texts in one: Short, Cat, PkC. -/
import Derived.Test.YtogkkhaepfablaaGreatWeB
import Derived.Test.YtogkkhaepfablaaGreatCwC
import Derived.Test.YtogkkhaepfablaaGreatJ18
import Derived.Test.YtogkkhaepfablaaGreatRpA
import Derived.Test.YtogkkhaepfablaaGreatK40
import Derived.Test.YtogkkhaepfablaaGreatK44
import Derived.Test.YtogkkhaepfablaaGreatK43
namespace Go.Proofs.YtogkkhaepfablaaGreat
open Go.RowKit
set_option linter.unusedSimpArgs false
set_option linter.unusedVariables false
set_option maxRecDepth 100000 in
set_option maxHeartbeats 8000000 in
theorem rShort_n (b1 b2 : Bool) (A1 A2 : Option Addr) (n1 c1 n2 c2 : Nat) (l1 l2 p q b r z dd : Int) (zw dw u v : W8) (HS1 : ∀ w, Calls Tryz.prog 55 #[.agg #[.bool b1, .slice A1 n1 c1, .int .u32 l1]] w (fun e w' => e = .returned (.int .i64 p) ∧ Lat w w')) (HS2 : ∀ w, Calls Tryz.prog 55 #[.agg #[.bool b2, .slice A2 n2 c2, .int .u32 l2]] w (fun e w' => e = .returned (.int .i64 q) ∧ Lat w w'))
  (hq : q < 0) (wq : wrap64 (-q) = b) (f1 : b.tmod 24 = r) (f2 : wrap64 r = r) (f4 : wrap64 (1 + r) = dd) (f6 : p.tmod 1000 = z) (f7 : wrap64 z = z)
  (HO1 : ∀ w, Calls Tryz.prog 12 #[.int .i64 z] w (fun e w' => e = .returned (.agg #[.int .u64 zw.a0, .int .u64 zw.a1, .int .u64 zw.a2, .int .u64 zw.a3, .int .u64 zw.a4, .int .u64 zw.a5, .int .u64 zw.a6, .int .u64 zw.a7]) ∧ Lat w w')) (HO2 : ∀ w, Calls Tryz.prog 12 #[.int .i64 dd] w (fun e w' => e = .returned (.agg #[.int .u64 dw.a0, .int .u64 dw.a1, .int .u64 dw.a2, .int .u64 dw.a3, .int .u64 dw.a4, .int .u64 dw.a5, .int .u64 dw.a6, .int .u64 dw.a7]) ∧ Lat w w')) (HM : ∀ w, Calls Tryz.prog 56 #[.agg #[.int .u64 zw.a0, .int .u64 zw.a1, .int .u64 zw.a2, .int .u64 zw.a3, .int .u64 zw.a4, .int .u64 zw.a5, .int .u64 zw.a6, .int .u64 zw.a7], .agg #[.int .u64 dw.a0, .int .u64 dw.a1, .int .u64 dw.a2, .int .u64 dw.a3, .int .u64 dw.a4, .int .u64 dw.a5, .int .u64 dw.a6, .int .u64 dw.a7]] w (fun e w' => e = .returned (.agg #[.int .u64 u.a0, .int .u64 u.a1, .int .u64 u.a2, .int .u64 u.a3, .int .u64 u.a4, .int .u64 u.a5, .int .u64 u.a6, .int .u64 u.a7, .int .u64 v.a0, .int .u64 v.a1, .int .u64 v.a2, .int .u64 v.a3, .int .u64 v.a4, .int .u64 v.a5, .int .u64 v.a6, .int .u64 v.a7]) ∧ Lat w w')) (w : World) :
  Calls Tryz.prog 28 #[.agg #[.bool b1, .slice A1 n1 c1, .int .u32 l1, .bool b2, .slice A2 n2 c2, .int .u32 l2]] w (fun e w' => e = .returned (.agg #[.int .u64 u.a0, .int .u64 u.a1, .int .u64 u.a2, .int .u64 u.a3, .int .u64 u.a4, .int .u64 u.a5, .int .u64 u.a6, .int .u64 u.a7, .int .u64 v.a0, .int .u64 v.a1, .int .u64 v.a2, .int .u64 v.a3, .int .u64 v.a4, .int .u64 v.a5, .int .u64 v.a6, .int .u64 v.a7]) ∧ Lat w w') := by
 go_enter Tryz.func28, Tryz.ntmps28
 go_upto_region 1 with (fail)
 refine name2 (Q := fun W => Code.wp _ _ _ _ W) ?_
 intro W hl hs k1 k2
 obtain ⟨g2, hg2'⟩ : ∃ z, w.heap.size + 1 = z := ⟨_, rfl⟩
 obtain ⟨g1, hg1⟩ : ∃ z, w.heap.size = z := ⟨_, rfl⟩
 have hg2 : w.heap.size ≤ g2 := by omega
 rw [hg2'] at k2
 rw [hg1] at k1
 rw [hg2', hg1]
 clear hg2' hg1 hs
 have d0 := k1.cell 0
 have d1 := k1.cell 1
 have d2 := k1.cell 2
 have d3 := k1.cell 3
 have d4 := k1.cell 4
 have d5 := k1.cell 5
 go_wp2_with fail
 refine (HS2 _).mono ?_
 rintro e V1 ⟨rfl, la⟩
 clear d0 d1 d2 d3 d4 d5
 replace k1 := k1.later la
 replace k2 := k2.later la
 replace hl := hl.trans la
 clear la HS2
 have d0 := k1.cell 0
 have d1 := k1.cell 1
 have d2 := k1.cell 2
 have d3 := k1.cell 3
 have d4 := k1.cell 4
 have d5 := k1.cell 5
 go_wp2_with fail
 refine (HS1 _).mono ?_
 rintro e V2 ⟨rfl, la⟩
 clear d0 d1 d2 d3 d4 d5
 replace k2 := k2.later la
 replace hl := hl.trans la
 clear la HS1 k1
 go_wp2_with fail
 refine (HO1 _).mono ?_
 rintro e V3 ⟨rfl, m1⟩
 go_wp2_with fail
 refine (HO2 _).mono ?_
 rintro e V4 ⟨rfl, m2⟩
 go_wp2_with fail
 refine (HM _).mono ?_
 rintro e V5 ⟨rfl, m3⟩
 have LL := m1.trans (m2.trans m3)
 replace k2 := k2.later LL
 have L4 := hl.trans LL
 clear HO1 HO2 HM m1 m2 m3 LL
 have e0 := k2.cell 0
 have e1 := k2.cell 1
 have e2 := k2.cell 2
 have e3 := k2.cell 3
 have e4 := k2.cell 4
 have e5 := k2.cell 5
 have e6 := k2.cell 6
 have e7 := k2.cell 7
 have e8 := k2.cell 8
 have e9 := k2.cell 9
 have e10 := k2.cell 10
 have e11 := k2.cell 11
 have e12 := k2.cell 12
 have e13 := k2.cell 13
 have e14 := k2.cell 14
 have e15 := k2.cell 15
 have f0 := k2.frozen 0
 have f1 := k2.frozen 1
 have f2 := k2.frozen 2
 have f3 := k2.frozen 3
 have f4 := k2.frozen 4
 have f5 := k2.frozen 5
 have f6 := k2.frozen 6
 have f7 := k2.frozen 7
 have f8 := k2.frozen 8
 have f9 := k2.frozen 9
 have f10 := k2.frozen 10
 have f11 := k2.frozen 11
 have f12 := k2.frozen 12
 have f13 := k2.frozen 13
 have f14 := k2.frozen 14
 have f15 := k2.frozen 15
 have hlt := k2.lt
 go_wp2
 clear e0 e1 e2 e3 e4 e5 e6 e7 e8 e9 e10 e11 e12 e13 e14 e15
 clear f0 f1 f2 f3 f4 f5 f6 f7 f8 f9 f10 f11 f12 f13 f14 f15
 refine name_put16 (Q := fun W => bodyPost _ _ _ _ _ W) k2 ?_
 intro w9 k9 l9
 clear k2 hlt
 have e0 := k9.cell 0
 have e1 := k9.cell 1
 have e2 := k9.cell 2
 have e3 := k9.cell 3
 have e4 := k9.cell 4
 have e5 := k9.cell 5
 have e6 := k9.cell 6
 have e7 := k9.cell 7
 have e8 := k9.cell 8
 have e9 := k9.cell 9
 have e10 := k9.cell 10
 have e11 := k9.cell 11
 have e12 := k9.cell 12
 have e13 := k9.cell 13
 have e14 := k9.cell 14
 have e15 := k9.cell 15
 refine bodyPost_ret (v := .agg #[.int .u64 u.a0, .int .u64 u.a1, .int .u64 u.a2, .int .u64 u.a3, .int .u64 u.a4, .int .u64 u.a5, .int .u64 u.a6, .int .u64 u.a7, .int .u64 v.a0, .int .u64 v.a1, .int .u64 v.a2, .int .u64 v.a3, .int .u64 v.a4, .int .u64 v.a5, .int .u64 v.a6, .int .u64 v.a7]) (by simp [results, Tryz.results28, go_sem, e0, e1, e2, e3, e4, e5, e6, e7, e8, e9, e10, e11, e12, e13, e14, e15]) rfl ?_
 exact ⟨rfl, l9.narrow L4 hg2⟩
set_option maxRecDepth 100000 in
set_option maxHeartbeats 8000000 in
theorem rShort_p (b1 b2 : Bool) (A1 A2 : Option Addr) (n1 c1 n2 c2 : Nat) (l1 l2 p q b r z dd : Int) (zw dw u v : W8) (HS1 : ∀ w, Calls Tryz.prog 55 #[.agg #[.bool b1, .slice A1 n1 c1, .int .u32 l1]] w (fun e w' => e = .returned (.int .i64 p) ∧ Lat w w')) (HS2 : ∀ w, Calls Tryz.prog 55 #[.agg #[.bool b2, .slice A2 n2 c2, .int .u32 l2]] w (fun e w' => e = .returned (.int .i64 q) ∧ Lat w w'))
  (hq : ¬ q < 0) (f1 : q.tmod 24 = r) (f2 : wrap64 r = r) (f4 : wrap64 (1 + r) = dd) (f6 : p.tmod 1000 = z) (f7 : wrap64 z = z)
  (HO1 : ∀ w, Calls Tryz.prog 12 #[.int .i64 z] w (fun e w' => e = .returned (.agg #[.int .u64 zw.a0, .int .u64 zw.a1, .int .u64 zw.a2, .int .u64 zw.a3, .int .u64 zw.a4, .int .u64 zw.a5, .int .u64 zw.a6, .int .u64 zw.a7]) ∧ Lat w w')) (HO2 : ∀ w, Calls Tryz.prog 12 #[.int .i64 dd] w (fun e w' => e = .returned (.agg #[.int .u64 dw.a0, .int .u64 dw.a1, .int .u64 dw.a2, .int .u64 dw.a3, .int .u64 dw.a4, .int .u64 dw.a5, .int .u64 dw.a6, .int .u64 dw.a7]) ∧ Lat w w')) (HM : ∀ w, Calls Tryz.prog 56 #[.agg #[.int .u64 zw.a0, .int .u64 zw.a1, .int .u64 zw.a2, .int .u64 zw.a3, .int .u64 zw.a4, .int .u64 zw.a5, .int .u64 zw.a6, .int .u64 zw.a7], .agg #[.int .u64 dw.a0, .int .u64 dw.a1, .int .u64 dw.a2, .int .u64 dw.a3, .int .u64 dw.a4, .int .u64 dw.a5, .int .u64 dw.a6, .int .u64 dw.a7]] w (fun e w' => e = .returned (.agg #[.int .u64 u.a0, .int .u64 u.a1, .int .u64 u.a2, .int .u64 u.a3, .int .u64 u.a4, .int .u64 u.a5, .int .u64 u.a6, .int .u64 u.a7, .int .u64 v.a0, .int .u64 v.a1, .int .u64 v.a2, .int .u64 v.a3, .int .u64 v.a4, .int .u64 v.a5, .int .u64 v.a6, .int .u64 v.a7]) ∧ Lat w w')) (w : World) :
  Calls Tryz.prog 28 #[.agg #[.bool b1, .slice A1 n1 c1, .int .u32 l1, .bool b2, .slice A2 n2 c2, .int .u32 l2]] w (fun e w' => e = .returned (.agg #[.int .u64 u.a0, .int .u64 u.a1, .int .u64 u.a2, .int .u64 u.a3, .int .u64 u.a4, .int .u64 u.a5, .int .u64 u.a6, .int .u64 u.a7, .int .u64 v.a0, .int .u64 v.a1, .int .u64 v.a2, .int .u64 v.a3, .int .u64 v.a4, .int .u64 v.a5, .int .u64 v.a6, .int .u64 v.a7]) ∧ Lat w w') := by
 go_enter Tryz.func28, Tryz.ntmps28
 go_upto_region 1 with (fail)
 refine name2 (Q := fun W => Code.wp _ _ _ _ W) ?_
 intro W hl hs k1 k2
 obtain ⟨g2, hg2'⟩ : ∃ z, w.heap.size + 1 = z := ⟨_, rfl⟩
 obtain ⟨g1, hg1⟩ : ∃ z, w.heap.size = z := ⟨_, rfl⟩
 have hg2 : w.heap.size ≤ g2 := by omega
 rw [hg2'] at k2
 rw [hg1] at k1
 rw [hg2', hg1]
 clear hg2' hg1 hs
 have d0 := k1.cell 0
 have d1 := k1.cell 1
 have d2 := k1.cell 2
 have d3 := k1.cell 3
 have d4 := k1.cell 4
 have d5 := k1.cell 5
 go_wp2_with fail
 refine (HS2 _).mono ?_
 rintro e V1 ⟨rfl, la⟩
 clear d0 d1 d2 d3 d4 d5
 replace k1 := k1.later la
 replace k2 := k2.later la
 replace hl := hl.trans la
 clear la HS2
 have d0 := k1.cell 0
 have d1 := k1.cell 1
 have d2 := k1.cell 2
 have d3 := k1.cell 3
 have d4 := k1.cell 4
 have d5 := k1.cell 5
 go_wp2_with fail
 refine (HS1 _).mono ?_
 rintro e V2 ⟨rfl, la⟩
 clear d0 d1 d2 d3 d4 d5
 replace k2 := k2.later la
 replace hl := hl.trans la
 clear la HS1 k1
 go_wp2_with fail
 refine (HO1 _).mono ?_
 rintro e V3 ⟨rfl, m1⟩
 go_wp2_with fail
 refine (HO2 _).mono ?_
 rintro e V4 ⟨rfl, m2⟩
 go_wp2_with fail
 refine (HM _).mono ?_
 rintro e V5 ⟨rfl, m3⟩
 have LL := m1.trans (m2.trans m3)
 replace k2 := k2.later LL
 have L4 := hl.trans LL
 clear HO1 HO2 HM m1 m2 m3 LL
 have e0 := k2.cell 0
 have e1 := k2.cell 1
 have e2 := k2.cell 2
 have e3 := k2.cell 3
 have e4 := k2.cell 4
 have e5 := k2.cell 5
 have e6 := k2.cell 6
 have e7 := k2.cell 7
 have e8 := k2.cell 8
 have e9 := k2.cell 9
 have e10 := k2.cell 10
 have e11 := k2.cell 11
 have e12 := k2.cell 12
 have e13 := k2.cell 13
 have e14 := k2.cell 14
 have e15 := k2.cell 15
 have f0 := k2.frozen 0
 have f1 := k2.frozen 1
 have f2 := k2.frozen 2
 have f3 := k2.frozen 3
 have f4 := k2.frozen 4
 have f5 := k2.frozen 5
 have f6 := k2.frozen 6
 have f7 := k2.frozen 7
 have f8 := k2.frozen 8
 have f9 := k2.frozen 9
 have f10 := k2.frozen 10
 have f11 := k2.frozen 11
 have f12 := k2.frozen 12
 have f13 := k2.frozen 13
 have f14 := k2.frozen 14
 have f15 := k2.frozen 15
 have hlt := k2.lt
 go_wp2
 clear e0 e1 e2 e3 e4 e5 e6 e7 e8 e9 e10 e11 e12 e13 e14 e15
 clear f0 f1 f2 f3 f4 f5 f6 f7 f8 f9 f10 f11 f12 f13 f14 f15
 refine name_put16 (Q := fun W => bodyPost _ _ _ _ _ W) k2 ?_
 intro w9 k9 l9
 clear k2 hlt
 have e0 := k9.cell 0
 have e1 := k9.cell 1
 have e2 := k9.cell 2
 have e3 := k9.cell 3
 have e4 := k9.cell 4
 have e5 := k9.cell 5
 have e6 := k9.cell 6
 have e7 := k9.cell 7
 have e8 := k9.cell 8
 have e9 := k9.cell 9
 have e10 := k9.cell 10
 have e11 := k9.cell 11
 have e12 := k9.cell 12
 have e13 := k9.cell 13
 have e14 := k9.cell 14
 have e15 := k9.cell 15
 refine bodyPost_ret (v := .agg #[.int .u64 u.a0, .int .u64 u.a1, .int .u64 u.a2, .int .u64 u.a3, .int .u64 u.a4, .int .u64 u.a5, .int .u64 u.a6, .int .u64 u.a7, .int .u64 v.a0, .int .u64 v.a1, .int .u64 v.a2, .int .u64 v.a3, .int .u64 v.a4, .int .u64 v.a5, .int .u64 v.a6, .int .u64 v.a7]) (by simp [results, Tryz.results28, go_sem, e0, e1, e2, e3, e4, e5, e6, e7, e8, e9, e10, e11, e12, e13, e14, e15]) rfl ?_
 exact ⟨rfl, l9.narrow L4 hg2⟩
end Go.Proofs.YtogkkhaepfablaaGreat
namespace Go.Proofs.YtogkkhaepfablaaGreat
open Go.RowKit Go.Shelf
set_option linter.unusedSimpArgs false
set_option linter.unusedVariables false
theorem run_append_make {P : Program} (w : World) (t ti ty e : TypeId) (i : TypeInfo) (z : Value) (ht : P.underlying t = some (.slice e)) (hti : P.underlying ti = some (.int .i64)) (hi : P.info? e = some i) (hz : i.zero = some z) (hz0 : 0 < i.size)
  (n : Nat) (h0 : 0 < n) (h63 : n ≤ 1000000) (hb : i.bytes ≤ 1000) :
  (Builtin.append_ #[t, ti] ty #[.slice none 0 0, .int .i64 n]).run P w =
    .ok (.slice (some ⟨w.heap.size, 0, none⟩) n (grownCap w n 0 e)) (w.drew.alloc (.cells (Builtin.zeroCells z.cells n ++ Builtin.zeroCells z.cells (grownCap w n 0 e - n)) e)) := by
 have hn : n ≠ 0 := by omega
 have hm : n * i.bytes ≤ 1000000 * 1000 := Nat.mul_le_mul h63 hb
 have hm2 : ((n * i.bytes : Nat) : Int) = (n : Int) * (i.bytes : Int) := by simp
 have h48' : ¬ (281474976710656 < Builtin.nextslicecap n 0 * i.bytes) := by rw [nextslicecap_zero h0]; omega
 have hneg : ¬ ((n : Int) < 0) := by omega
 have hw : IntKind.i64.wrap (n : Int) = (n : Int) := by rw [IntWalk.i64_left]; exact IntWalk.wrap64_in _ (by omega)
 have hlen : ¬ (281474976710656 < (n : Int) * (i.bytes : Int)) := by omega
 have h63' : ¬ (9223372036854775807 < (n : Int)) := by omega
 have hs0 : i.size ≠ 0 := by omega
 simp [Builtin.append_, run_underlying ht, run_underlying hti, sizeOf, typeInfo, zeroValue, hi, hz, Builtin.lenOf, hn, h63', h48', Question.forced, run_firstCells_none, newRow, grownCap, asInt, asIntOf, hw, hneg, hlen, hs0]
 intro hc
 exact absurd hc (Nat.mul_ne_zero hn hs0)
theorem wpList_make {P : Program} {ops : Array Oper} {rest : List Oper} {o : Oper} {a : Act} {Q : Exit → Act → World → Prop} (hgd : o.guard = none) (s x : Operand) (t ti : TypeId)
  (ho : o.op = .call { callee := .builtin .append, args := #[s, x], argTypes := #[t, ti] })
  (E : TypeId) (z : Value) (m by_ : Nat) (ht : P.underlying t = some (.slice E)) (hti : P.underlying ti = some (.int .i64)) (hinfo : (P.info? E).map (fun i => (i.zero, i.size, i.bytes)) = some (some z, m, by_)) (hz : z.cells.size = m) (hm : 0 < m) (hby : by_ ≤ 1000)
  (n : Nat) (h0 : 0 < n) (hn : n ≤ 1000000) (w : World) (hs : a.eval s = .slice none 0 0) (hx : a.eval x = .int .i64 n)
  (h : ∀ cap cur, n ≤ cap → cap ≤ maxLen → cur.size = cap * m → wpList P ops Q rest (a.put o.dst (.slice (some ⟨w.heap.size, 0, none⟩) n cap)) (w.drew.alloc (.cells cur E))) : wpList P ops Q (o :: rest) a w := by
 obtain ⟨i0, hi, hz0, hz1, hz2⟩ := info_parts hinfo
 refine wpList_plain hgd fun K hK => ?_
 have hrun := run_append_make (P := P) w t ti o.type E i0 z ht hti hi hz0 (by omega) n h0 hn (by omega)
 unfold Oper.wp
 simp only [execOp, ho, resolve, invoke, builtin, Sem.run_bind, Sem.run_pure, Result.andThen_ok, List.map_toArray, List.map_cons, List.map_nil, hs, hx, hrun]
 refine hK _ _ (h _ _ (grownCap_ge w n 0 E) (grownCap_le_maxLen w n 0 E (by unfold maxLen; omega)) ?_)
 simp only [Array.size_append, size_zeroCells, hz, ← Nat.add_mul]
 congr 1
 have := grownCap_ge w n 0 E
 omega
theorem wpList_glueM {P : Program} {ops : Array Oper} {rest : List Oper} {o : Oper} {a : Act} {Q : Exit → Act → World → Prop} (hgd : o.guard = none) (s x : Operand) (t : TypeId)
  (ho : o.op = .call { callee := .builtin .append, args := #[s, x], argTypes := #[t, t] })
  (B : Nat) (E : TypeId) (z : Value) (m by_ : Nat) (ht : P.underlying t = some (.slice E)) (hinfo : (P.info? E).map (fun i => (i.zero, i.size, i.bytes)) = some (some z, m, by_)) (hz : z.cells.size = m) (hm : 0 < m) (hby : by_ ≤ 1000)
  (v : Value) (os xs : List (List Value)) (h1 : ∀ l ∈ xs, ∀ u ∈ l, u.oneCell' = true) (w : World) (hs : a.eval s = v) (hown : OwnM w B E m v os)
  (A : Option Addr) (n c : Nat) (hx : a.eval x = .slice A n c) (hxs : RowM w A m n xs) (hlen : os.length + n ≤ 100000000) (hB : B ≤ w.heap.size)
  (h : ∀ v' w', OwnM w' B E m v' (os ++ xs) → w.grownBy w' v.ownBlock → (∀ W0, Lat W0 w → W0.heap.size ≤ B → Lat W0 w') → wpList P ops Q rest (a.put o.dst v') w') : wpList P ops Q (o :: rest) a w := by
 obtain ⟨i0, hi, hz0, hz1, hz2⟩ := info_parts hinfo
 have hl := hxs.1
 cases A with
 | none =>
   obtain rfl : n = 0 := by
    rcases Nat.eq_zero_or_pos n with h0 | h0
    ·exact h0
    ·obtain ⟨g, o', e, _⟩ := hxs.2.2 h0
     cases e
   have : xs = [] := List.eq_nil_of_length_eq_zero hl
   subst this
   refine wpList_plain hgd fun K hK => ?_
   have hrun := run_glue_nil (P := P) (w := w) B t o.type E i0 m ht hi v os.length _ hown.2 c
   unfold Oper.wp
   simp [execOp, ho, resolve, invoke, builtin, hs, hx, hrun, Result.andThen]
   exact hK _ _ (h v w (by rw [List.append_nil]; exact hown) ⟨rfl, rfl, rfl, Nat.le_refl _, fun _ _ _ => rfl⟩ (fun W0 hl _ => hl))
 | some ad =>
   have hfl := flat_length hxs.2.1
   refine wpList_append_own _ hgd s x t ho B E i0 z m by_ ht hi hz0 hz1 hz2 hz hm v os.length _ hs hown.2 ad n c xs.flatten hx (by rw [hfl, hl]) ?_ ?_ ?_ ?_ hB ?_
   ·intro j u hu
    have hj : j < n * m := by
     have := (List.getElem?_eq_some_iff.1 hu).1
     rw [hfl, hl] at this
     exact this
    have hnp : 0 < n := by
     rcases Nat.eq_zero_or_pos n with h0 | h0
     ·rw [h0, Nat.zero_mul] at hj; omega
     ·exact h0
    obtain ⟨g, of, e, _, hc⟩ := hxs.2.2 hnp
    cases e
    have hi2 : j / m < xs.length := by rw [hl]; exact Nat.div_lt_of_lt_mul (by rw [Nat.mul_comm]; exact hj)
    have hxi := List.getElem?_eq_getElem hi2
    have hrem : j % m < m := Nat.mod_lt _ hm
    have hxl : (xs[j / m]).length = m := hxs.2.1 _ (List.getElem_mem hi2)
    have hv := List.getElem?_eq_getElem (l := xs[j / m]) (i := j % m) (by omega)
    have hg := flat_get hxs.2.1 hxi hv
    have hj2 : j / m * m + j % m = j := by rw [Nat.mul_comm]; exact Nat.div_add_mod j m
    rw [hj2, hu] at hg
    cases hg
    have hcell := hc (j / m) _ hxi (j % m) _ hv
    have e : (⟨g, of, none⟩ : Addr).add j = ⟨g, of + j / m * m + j % m, none⟩ := by
     rw [Nat.add_assoc, hj2]
     unfold Addr.add
     split <;> simp_all
    rw [e]
    exact hcell
   ·intro u hu
    obtain ⟨l, hl1, hl2⟩ := List.mem_flatten.1 hu
    exact h1 l hl1 u hl2
   ·unfold maxLen; omega
   ·have := Nat.mul_le_mul_left (os.length + n) hby; omega
   ·intro v' w' h2 h3 _
    refine h v' w' ⟨fun y hy => ?_, ?_⟩ h3 (fun W0 hl hle => hown.lat hl hle h3)
    ·rcases List.mem_append.1 hy with hy | hy
     ·exact hown.1 y hy
     ·exact hxs.2.1 y hy
    ·rw [List.length_append, List.flatten_append, hl]
     exact h2
theorem OwnM.fresh {w : World} {B m cap : Nat} {E : TypeId} {cur : Array Value} (hB : B ≤ w.heap.size) (hc : cap ≤ maxLen) (hs : cur.size = cap * m) : OwnM (w.drew.alloc (.cells cur E)) B E m (.slice (some ⟨w.heap.size, 0, none⟩) 0 cap) [] :=
 ⟨fun x h => by simp at h, by simp, .inr ⟨w.heap.size, cap, cur, rfl, hB, heap_alloc_new w.drew _, Nat.zero_le _, hc, hs, by simp⟩⟩
set_option maxRecDepth 100000 in
set_option maxHeartbeats 4000000 in
theorem grow_nil (n : Nat) (hn : n ≤ 1000000) (w : World) : Calls Tryz.prog 62 #[.slice none 0 0, .int .i64 n] w (fun e w' => ∃ v, e = .returned v ∧ OwnM w' w.heap.size 26 8 v [] ∧ Lat w w') := by
 rcases Nat.eq_zero_or_pos n with rfl | h0
 ·go_enter Tryz.func62, Tryz.ntmps62
  go_wp2
  go_ret
  exact ⟨_, rfl, OwnM.nil _ _ _ _, Lat.refl _⟩
 ·have hI : (0 : Int) < (n : Int) := by omega
  have hN : ¬ ((n : Int) < 0) := by omega
  go_enter Tryz.func62, Tryz.ntmps62
  go_wp2_with (at_builtin; refine wpList_make rfl _ _ 45 3 (by rfl) 26 (.agg #[.int .u64 0, .int .u64 0, .int .u64 0, .int .u64 0, .int .u64 0, .int .u64 0, .int .u64 0, .int .u64 0]) 8 64 Tryz.underlying45 Tryz.underlying3 wideInfoA rfl (by decide) (by decide) n h0 hn w (by rfl) (by rfl) ?_; intro cap cur hcap hmax hcur)
  go_ret
  exact ⟨_, rfl, OwnM.fresh (Nat.le_refl _) hmax hcur, (Lat.drew w).trans (Lat.alloc _ _)⟩
def catR (r0 r1 : List (List Value)) : Nat → List (List Value)
 | 0 => []
 | 1 => r0
 | _ => r0 ++ r1
def catN (n0 n1 : Nat) : Nat → Nat
 | 0 => 0
 | 1 => n0
 | _ => n0 + n1
set_option maxRecDepth 100000 in
set_option maxHeartbeats 8000000 in
theorem concat_two (A0 A1 : Option Addr) (n0 c0 n1 c1 c gb : Nat) (r0 r1 : List (List Value)) (ho0 : ∀ l ∈ r0, ∀ u ∈ l, u.oneCell' = true) (ho1 : ∀ l ∈ r1, ∀ u ∈ l, u.oneCell' = true) (hn0 : n0 ≤ 100000) (hn1 : n1 ≤ 100000) (w : World)
  (hb : Blk w gb 45 #[.slice A0 n0 c0, .slice A1 n1 c1]) (h0 : RowM w A0 8 n0 r0) (h1 : RowM w A1 8 n1 r1) :
  Calls Tryz.prog 26 #[.slice (some ⟨gb, 0, none⟩) 2 c] w (fun e w' => ∃ v, e = .returned v ∧ OwnM w' w.heap.size 26 8 v (r0 ++ r1) ∧ Lat w w') := by
 have HO0 := Lib.hid ho0
 have HO1 := Lib.hid ho1
 have HR0 := Lib.hid h0
 have HR1 := Lib.hid h1
 have hl0 := h0.1
 have hl1 := h1.1
 clear ho0 ho1 h0 h1
 go_enter Tryz.func26, Tryz.ntmps26
 go_upto_region 3 with (fail)
 go_loopw [3, 5, 11] (fun sv _ i wr => ∃ j : Nat, j ≤ 2 ∧ i = .int .i64 j ∧ sv = .int .i64 (catN n0 n1 j : Nat) ∧ Lat w wr) (fun _ _ i _ => 2 - (intOf i).toNat)
 case atStart => exact ⟨0, by omega, rfl, rfl, Lat.refl _⟩
 case round =>
  obtain ⟨j, hj, rfl, rfl, hlr⟩ := hrel
  have B := hb.later hlr
  have k0 := B.cell 0
  have k1 := B.cell 1
  rcases (show j = 0 ∨ j = 1 ∨ j = 2 by omega) with rfl | rfl | rfl
  ·have f1 : wrap64 (((catN n0 n1 0 : Nat) : Int) + (n0 : Int)) = ((catN n0 n1 1 : Nat) : Int) := by show wrap64 (((0 : Nat) : Int) + n0) = n0; rw [IntWalk.wrap64_in _ (by omega)]; omega
   have f2 : ¬ (((catN n0 n1 1 : Nat) : Int) < 0) := by omega
   go_wp2
   go_roundw
   case rel => exact ⟨1, by omega, rfl, by rw [f1], hlr⟩
   case measure => simp [intOf]
  ·have f1 : wrap64 (((catN n0 n1 1 : Nat) : Int) + (n1 : Int)) = ((catN n0 n1 2 : Nat) : Int) := by show wrap64 ((n0 : Int) + n1) = ((n0 + n1 : Nat) : Int); rw [IntWalk.wrap64_in _ (by omega)]; omega
   have f2 : ¬ (((catN n0 n1 2 : Nat) : Int) < 0) := by omega
   go_wp2
   go_roundw
   case rel => exact ⟨2, by omega, rfl, by rw [f1], hlr⟩
   case measure => simp [intOf]
  ·clear k0 k1 B
   have HG := grow_nil (catN n0 n1 2) (by show n0 + n1 ≤ 1000000; omega) wr
   go_wp2_with fail
   refine HG.mono ?_
   rintro e W ⟨v, rfl, O, hlW⟩
   have O0 : OwnM W w.heap.size 26 8 v (catR r0 r1 0) := O.low hlr.size
   have L0 := hlr.trans hlW
   clear O HG hlr hlW
   go_upto_region 11 with (fail)
   go_loopw [6, 8, 27] (fun ov _ i wr => ∃ j : Nat, j ≤ 2 ∧ i = .int .i64 j ∧ OwnM wr w.heap.size 26 8 ov (catR r0 r1 j) ∧ Lat w wr) (fun _ _ i _ => 2 - (intOf i).toNat)
   case atStart => exact ⟨0, by omega, rfl, O0, L0⟩
   case round =>
    clear O0 L0
    obtain ⟨j, hj, rfl, O, hlr⟩ := hrel
    have B := hb.later hlr
    have k0 := B.cell 0
    have k1 := B.cell 1
    have hsz := hlr.size
    rcases (show j = 0 ∨ j = 1 ∨ j = 2 by omega) with rfl | rfl | rfl
    ·have R0 := HR0.out.later hlr
     go_wp2_with (at_builtin; refine wpList_glueM rfl _ _ 45 (by rfl) w.heap.size 26 (.agg #[.int .u64 0, .int .u64 0, .int .u64 0, .int .u64 0, .int .u64 0, .int .u64 0, .int .u64 0, .int .u64 0]) 8 64 Tryz.underlying45 wideInfoA rfl (by decide) (by decide) _ _ r0 HO0.out _ (by rfl) O A0 n0 c0 (by rfl) R0 (by show 0 + n0 ≤ _; omega) hsz ?_; intro v' w' h1 h2 h3)
     have L4 := h3 _ hlr (Nat.le_refl _)
     go_roundw
     case rel => exact ⟨1, by omega, rfl, h1, L4⟩
     case measure => simp [intOf]
    ·have R1 := HR1.out.later hlr
     go_wp2_with (at_builtin; refine wpList_glueM rfl _ _ 45 (by rfl) w.heap.size 26 (.agg #[.int .u64 0, .int .u64 0, .int .u64 0, .int .u64 0, .int .u64 0, .int .u64 0, .int .u64 0, .int .u64 0]) 8 64 Tryz.underlying45 wideInfoA rfl (by decide) (by decide) _ _ r1 HO1.out _ (by rfl) O A1 n1 c1 (by rfl) R1 (by show r0.length + n1 ≤ _; omega) hsz ?_; intro v' w' h1 h2 h3)
     have L4 := h3 _ hlr (Nat.le_refl _)
     go_roundw
     case rel => exact ⟨2, by omega, rfl, h1, L4⟩
     case measure => simp [intOf]
    ·go_wp2
     go_ret
     exact ⟨_, rfl, O, hlr⟩
end Go.Proofs.YtogkkhaepfablaaGreat
namespace Go.Proofs.YtogkkhaepfablaaGreat
open Go.RowKit Go.Shelf
set_option linter.unusedSimpArgs false
set_option linter.unusedVariables false
theorem spell10 (T : Array Value) (h : T.size = 10) : ∃ f : Nat → Value, (∀ k, f k = T.getD k undef) ∧ T = #[f 0, f 1, f 2, f 3, f 4, f 5, f 6, f 7, f 8, f 9] := ⟨fun k => T.getD k undef, fun _ => rfl, (spell 10 T h).trans (by kernel_rfl)⟩
noncomputable def rcm_rows (x y : W8) (g2 g3 : Nat) (z u o : Int) : List SRow := [
 ⟨Op.load 26 (Operand.tmp 2), some 5, none, [], fun v _ => v = .agg #[.int .u64 x.a0, .int .u64 x.a1, .int .u64 x.a2, .int .u64 x.a3, .int .u64 x.a4, .int .u64 x.a5, .int .u64 x.a6, .int .u64 x.a7]⟩,
 ⟨Op.call { callee := Callee.value (Operand.func 49), args := #[Operand.tmp 5], argTypes := #[26] }, some 6, none, [0], LV z 17⟩,
 ⟨Op.load 26 (Operand.tmp 3), some 7, none, [], fun v _ => v = .agg #[.int .u64 y.a0, .int .u64 y.a1, .int .u64 y.a2, .int .u64 y.a3, .int .u64 y.a4, .int .u64 y.a5, .int .u64 y.a6, .int .u64 y.a7]⟩,
 ⟨Op.call { callee := Callee.value (Operand.func 49), args := #[Operand.tmp 7], argTypes := #[26] }, some 8, none, [2, 1], LV u 17⟩,
 ⟨Op.call { callee := Callee.value (Operand.func 41), args := #[Operand.tmp 6, Operand.tmp 8], argTypes := #[85, 85] }, some 9, none, [1, 3, 3], fun v _ => v = .int .i64 o⟩,
 ⟨Op.assign (Operand.tmp 9), some 4, none, [4, 4, 0, 1, 2, 3, 4], fun v _ => v = .int .i64 o⟩]
noncomputable def rcm_base (x y : W8) (g2 g3 : Nat) (z u o : Int) (v0 v1 : Value) : List (Nat × Value) := [(2, .pointer (some ⟨g2, 0, none⟩)), (3, .pointer (some ⟨g3, 0, none⟩)), (0, v0), (1, v1)]
set_option maxRecDepth 100000 in
set_option maxHeartbeats 4000000 in
theorem rcm_steps (V : World) (x y : W8) (g2 g3 : Nat) (z u o : Int) (v0 v1 : Value) (R2 : ∀ w', Lat V w' → w'.rangeAt g2 0 [.int .u64 x.a0, .int .u64 x.a1, .int .u64 x.a2, .int .u64 x.a3, .int .u64 x.a4, .int .u64 x.a5, .int .u64 x.a6, .int .u64 x.a7]) (R3 : ∀ w', Lat V w' → w'.rangeAt g3 0 [.int .u64 y.a0, .int .u64 y.a1, .int .u64 y.a2, .int .u64 y.a3, .int .u64 y.a4, .int .u64 y.a5, .int .u64 y.a6, .int .u64 y.a7]) (J26 : (Tryz.prog.info? 26).map (·.size) = some 8)
  (HI : ∀ w, Calls Tryz.prog 49 #[.agg #[.int .u64 x.a0, .int .u64 x.a1, .int .u64 x.a2, .int .u64 x.a3, .int .u64 x.a4, .int .u64 x.a5, .int .u64 x.a6, .int .u64 x.a7]] w (RefPost w z 17)) (HJ : ∀ w, Calls Tryz.prog 49 #[.agg #[.int .u64 y.a0, .int .u64 y.a1, .int .u64 y.a2, .int .u64 y.a3, .int .u64 y.a4, .int .u64 y.a5, .int .u64 y.a6, .int .u64 y.a7]] w (RefPost w u 17))
  (HO : ∀ b1 A1 n1 c1 b2 A2 n2 c2 w, Rg w b1 A1 n1 c1 z → n1 ≤ 17 → Rg w b2 A2 n2 c2 u → n2 ≤ 17 → Calls Tryz.prog 41 #[.agg #[.bool b1, .slice A1 n1 c1], .agg #[.bool b2, .slice A2 n2 c2]] w (fun e w' => e = .returned (.int .i64 o) ∧ Lat w w')) :
  AllSteps Tryz.prog (rcm_rows x y g2 g3 z u o) (rcm_base x y g2 g3 z u o v0 v1) V (rcm_rows x y g2 g3 z u o) := by
 refine AllSteps.next (fun _ _ _ h _ => h) (fun j b h => by cases h) (fun a w hl hb hd o ho => by have e1 := hb 2 _ rfl; exact Runs.val (yv_load (S := Lat V) e1 R2 Tryz.underlying26 rfl J26 o w ho hl) ⟨Lat.refl _, fun _ => rfl⟩) ?_
 refine AllSteps.next (fun _ _ _ h hl => h.mono hl) (fun j b h => by cases h) (fun a w hl hb hd o ho => by obtain ⟨v1, e1, q1⟩ := hd 0 _ _ (by simp) rfl rfl; subst q1; exact Runs.call (yv_call (f := 49) (fun _ => by go_simp) o ho (by simp only [List.map_toArray, List.map_cons, List.map_nil, eval_const, e1])) ((HI w).mono fun e w' h => h.run)) ?_
 refine AllSteps.next (fun _ _ _ h _ => h) (fun j b h => by cases h) (fun a w hl hb hd o ho => by have e1 := hb 3 _ rfl; exact Runs.val (yv_load (S := Lat V) e1 R3 Tryz.underlying26 rfl J26 o w ho hl) ⟨Lat.refl _, fun _ => rfl⟩) ?_
 refine AllSteps.next (fun _ _ _ h hl => h.mono hl) (fun j b h => by cases h) (fun a w hl hb hd o ho => by obtain ⟨v1, e1, q1⟩ := hd 2 _ _ (by simp) rfl rfl; subst q1; exact Runs.call (yv_call (f := 49) (fun _ => by go_simp) o ho (by simp only [List.map_toArray, List.map_cons, List.map_nil, eval_const, e1])) ((HJ w).mono fun e w' h => h.run)) ?_
 refine AllSteps.next (fun _ _ _ h _ => h) (fun j b h => by cases h) (fun a w hl hb hd o ho => by obtain ⟨v1, e1, q1⟩ := hd 1 _ _ (by simp) rfl rfl; obtain ⟨b1, A1, n1, c1, rfl, r1, m1⟩ := (show LV z 17 v1 w from q1); obtain ⟨v2, e2, q2⟩ := hd 3 _ _ (by simp) rfl rfl; obtain ⟨b2, A2, n2, c2, rfl, r2, m2⟩ := (show LV u 17 v2 w from q2); exact Runs.call (yv_call (f := 41) (fun _ => by go_simp) o ho (by simp only [List.map_toArray, List.map_cons, List.map_nil, eval_const, e1, e2])) ((HO _ _ _ _ _ _ _ _ w r1 m1 r2 m2).mono fun e w' h => ⟨_, h.1, h.2, fun _ => rfl⟩)) ?_
 refine AllSteps.next (fun _ _ _ h _ => h) (fun j b h => by cases h) (fun a w hl hb hd o ho => by obtain ⟨v1, e1, q1⟩ := hd 4 _ _ (by simp) rfl rfl; subst q1; exact Runs.val (yv_assignS (S := fun _ => True) e1 o w ho trivial) ⟨Lat.refl _, fun _ => rfl⟩) ?_
 exact AllSteps.none
set_option maxRecDepth 100000 in
set_option maxHeartbeats 4000000 in
theorem rCmp01_any (x y : W8) (hx : x.ok) (hy : y.ok) (w : World) : Calls Tryz.prog 64 #[.agg #[.int .u64 x.a0, .int .u64 x.a1, .int .u64 x.a2, .int .u64 x.a3, .int .u64 x.a4, .int .u64 x.a5, .int .u64 x.a6, .int .u64 x.a7], .agg #[.int .u64 y.a0, .int .u64 y.a1, .int .u64 y.a2, .int .u64 y.a3, .int .u64 y.a4, .int .u64 y.a5, .int .u64 y.a6, .int .u64 y.a7]] w (fun e w' => e = .returned (.int .i64 (ordR (x.toInt - y.toInt))) ∧ Lat w w') := by
 have HI := rIn_any x hx
 have HJ := rIn_any y hy
 have HO : ∀ b1 A1 n1 c1 b2 A2 n2 c2 w, Rg w b1 A1 n1 c1 x.toInt → n1 ≤ 17 → Rg w b2 A2 n2 c2 y.toInt → n2 ≤ 17 → Calls Tryz.prog 41 #[.agg #[.bool b1, .slice A1 n1 c1], .agg #[.bool b2, .slice A2 n2 c2]] w (fun e w' => e = .returned (.int .i64 (ordR (x.toInt - y.toInt))) ∧ Lat w w') :=
  fun b1 A1 n1 c1 b2 A2 n2 c2 w h1 m1 h2 m2 => rOrder_any b1 A1 n1 c1 _ b2 A2 n2 c2 _ w h1 h2 (by omega) (by omega)
 obtain ⟨o, ho⟩ : ∃ o, ordR (x.toInt - y.toInt) = o := ⟨_, rfl⟩
 rw [ho] at HO ⊢
 generalize x.toInt = z at HI HO
 generalize y.toInt = u at HJ HO
 clear ho hx hy
 go_enter Tryz.func64, Tryz.ntmps64
 go_upto_region 1 with (fail)
 refine name2 (Q := fun W => Code.wp _ _ _ _ W) ?_
 intro W l0 hs k2 k3
 obtain ⟨g3, hg3⟩ : ∃ z, w.heap.size + 1 = z := ⟨_, rfl⟩
 obtain ⟨g2, hg2⟩ : ∃ z, w.heap.size = z := ⟨_, rfl⟩
 rw [hg3] at k3 ⊢
 rw [hg2] at k2 ⊢
 clear hg3 hg2 hs
 have R2 : ∀ w', Lat W w' → w'.rangeAt g2 0 [.int .u64 x.a0, .int .u64 x.a1, .int .u64 x.a2, .int .u64 x.a3, .int .u64 x.a4, .int .u64 x.a5, .int .u64 x.a6, .int .u64 x.a7] := fun w' hl => (k2.later hl).rangeAll
 have R3 : ∀ w', Lat W w' → w'.rangeAt g3 0 [.int .u64 y.a0, .int .u64 y.a1, .int .u64 y.a2, .int .u64 y.a3, .int .u64 y.a4, .int .u64 y.a5, .int .u64 y.a6, .int .u64 y.a7] := fun w' hl => (k3.later hl).rangeAll
 have J26 : (Tryz.prog.info? 26).map (·.size) = some 8 := by kernel_rfl
 rename_i KN hKN
 refine wp_region_slots (rcm_rows x y g2 g3 z u o) (rcm_base x y g2 g3 z u o _ _) 10 6 [[], [0], [], [2, 1], [1, 3, 3], [4, 4, 0, 1, 2, 3, 4]] (by kernel_rfl) (by kernel_rfl) (by kernel_rfl) (by kernel_rfl) (by kernel_rfl) (by kernel_rfl) (by rfl) rfl (base_of (base_cons rfl (base_cons rfl (base_cons rfl (base_cons rfl (base_nil _)))))) (rcm_steps W x y g2 g3 z u o _ _ R2 R3 J26 HI HJ HO) ?_
 ·intro a9 W9 hsz9 hdf9 hL9 hbs hsl
  obtain ⟨v9, h9, q9⟩ := hsl 5 _ _ rfl rfl
  obtain rfl : v9 = .int .i64 o := q9
  have w4 := slot_getD h9
  clear h9
  refine hKN _ _ ?_
  obtain ⟨T9, df9⟩ := a9
  obtain rfl : df9 = [] := hdf9
  obtain ⟨f, hf, rfl⟩ := spell10 T9 hsz9
  have X9 := fun k v h => (hf k).trans (slot_getD (hbs k v h))
  have x4 := (hf 4).trans w4
  clear hbs hsl hf hsz9 hKN w4
  simp only [X9 2 _ rfl, X9 3 _ rfl, X9 0 _ rfl, X9 1 _ rfl, x4]
  clear x4 X9
  have LF := l0.trans hL9
  clear l0 hL9
  go_wp2
  go_ret
  exact ⟨rfl, LF⟩
set_option maxRecDepth 100000 in
set_option maxHeartbeats 4000000 in
theorem sums_empty (A : Option Addr) (c : Nat) (f : FuncId) (vs : Array Value) (w : World) :
  Calls Tryz.prog 51 #[.slice A 0 c, .func (.func f) #[] vs] w (fun e w' => e = .returned (.slice none 0 0) ∧ Lat w w') := by
 go_enter Tryz.func51, Tryz.ntmps51
 go_upto_region 3 with (fail)
 refine name1 (Q := fun W => Code.wp _ _ _ _ W) ?_
 intro W hl hs k6
 go_wp2
 go_loopw [5, 11] (fun ov i wr => i = .int .i64 0 ∧ ov = .slice none 0 0 ∧ Lat w wr) (fun _ i _ => 0)
 case atStart => exact ⟨rfl, rfl, hl⟩
 case round =>
  obtain ⟨rfl, rfl, hlr⟩ := hrel
  go_wp2
  go_ret
  exact ⟨rfl, hlr⟩
theorem pick_empty (A : Option Addr) (c s : Nat) (w : World) : Calls Tryz.prog 16 #[.agg #[.int .u64 s], .slice A 0 c] w (PickEnd w 0 0 7) :=
 pick_none A 0 c s [] (by decide) (fun _ => 0) (fun i x h => by simp at h) w rfl (fun _ => W8.zero) (Lib.hid fun i hi => absurd hi (by omega)) (fun g9 W hl hg hgw hb => by
  refine (sums_empty A c 52 #[.pointer (some ⟨g9, 0, none⟩)] W).mono ?_
  rintro e w' ⟨rfl, hl'⟩
  exact ⟨_, rfl, OwnM.nil _ _ _ _, hb.later hl', hl'.p _⟩) (RowM.nil w A 8)
theorem first_neg : ∀ (ws : List W8), (∃ x ∈ ws, x.toInt < 0) → ∃ p, p < ws.length ∧ (∀ (i : Nat) (x : W8), ws[i]? = some x → i < p → 0 ≤ x.toInt) ∧ ∀ (i : Nat) (x : W8), ws[i]? = some x → i = p → x.toInt < 0
 | [], h => by obtain ⟨x, hx, _⟩ := h; cases hx
 | y :: l, h => by
   by_cases hy : y.toInt < 0
   ·exact ⟨0, by simp, fun i x hx hi => absurd hi (by omega), fun i x hx hi => by subst hi; simp at hx; rw [← hx]; exact hy⟩
   ·obtain ⟨p, hp, h1, h2⟩ := first_neg l (by
     obtain ⟨x, hx, h⟩ := h
     rcases List.mem_cons.1 hx with rfl | hx
     ·exact absurd h hy
     ·exact ⟨x, hx, h⟩)
    refine ⟨p + 1, by simp; omega, fun i x hx hi => ?_, fun i x hx hi => ?_⟩
    ·cases i with
     | zero => simp at hx; rw [← hx]; omega
     | succ i => exact h1 i x (by simpa using hx) (by omega)
    ·cases i with
     | zero => omega
     | succ i => exact h2 i x (by simpa using hx) (by omega)
theorem pre_step {ws : List W8} {i : Nat} {x : W8} (h : ws[i]? = some x) : preS (ws.map W8.toInt) (i + 1) = preS (ws.map W8.toInt) i + x.toInt := preS_succ (by rw [List.getElem?_map, h]; rfl)
structure PkT (s : Nat) (ws : List W8) (k : Int) (t : Nat) (en : Int) : Prop where
 p : ∀ (A : Option Addr) (c : Nat) (w : World), RowM w A 8 ws.length (wRows ws) → Calls Tryz.prog 16 #[.agg #[.int .u64 s], .slice A ws.length c] w (PickEnd w k t en)
 r : ∀ (A : Option Addr) (c : Nat) (w : World), RowM w A 8 ws.length (wRows ws) → Calls Tryz.prog 27 #[.agg #[.int .u64 s], .slice A ws.length c] w (PickEnd w k t en)
 q : ∀ w, (Op.equalIn 10000 24 (.agg #[.int .u64 (t : Nat)]) (.agg #[.int .u64 (t : Nat)])).run Tryz.prog w = .ok true w
theorem picks_any (s : Nat) (hs : s < 18446744073709551616) (ws : List W8) (hok : ∀ x ∈ ws, x.ok) : ∃ k t en, PkT s ws k t en := by
 have hP := P511_pos
 have h0 : (0 : Nat) < 18446744073709551616 := by decide
 by_cases hlen : ws.length ≤ 400
 ·by_cases hneg : ∃ x ∈ ws, x.toInt < 0
  ·obtain ⟨p, hp, h1, h2⟩ := first_neg ws hneg
   refine ⟨0, 0, 2, fun A c w hr => ?_, fun A c w hr => rpick_neg A ws.length c s ws hok hlen p hp h1 h2 w hr, chance_sameF 0 h0⟩
   have hgd : ∀ (i : Nat) (x : W8), ws[i]? = some x → ws.getD i W8.zero = x := fun i x h => by rw [List.getD_eq_getElem?_getD, h]; rfl
   refine pick_neg A ws.length c s ws hlen (fun i => sideOf ((ws.getD i W8.zero).toInt)) (fun i x h w => ?_) p hp (Lib.hid fun i hi => ?_) ?_ w hr
   ·show Calls _ _ _ _ (fun e w' => e = .returned (.int .i64 (sideOf (ws.getD i W8.zero).toInt)) ∧ Lat w w')
    rw [hgd i x h]
    exact wSign_any x (hok x (List.mem_of_getElem? h)) w
   ·have hi2 : i < ws.length := by omega
    show 0 ≤ sideOf (ws.getD i W8.zero).toInt
    rw [hgd i _ (List.getElem?_eq_getElem hi2)]
    exact (side_nonneg (h1 i _ (List.getElem?_eq_getElem hi2) hi)).1
   ·show sideOf (ws.getD p W8.zero).toInt < 0
    rw [hgd p _ (List.getElem?_eq_getElem hp)]
    exact side_neg (h2 p _ (List.getElem?_eq_getElem hp) rfl)
  ·have hns : ∀ x ∈ ws, 0 ≤ x.toInt := fun x hx => Int.not_lt.1 fun h => hneg ⟨x, hx, h⟩
   have hs0 : ∀ (i : Nat) (x : W8), ws[i]? = some x → 0 ≤ x.toInt := fun i x h => hns x (List.mem_of_getElem? h)
   obtain ⟨zs, hzs⟩ : ∃ zs, ws.map W8.toInt = zs := ⟨_, rfl⟩
   have hx0 : ∀ (i : Nat) (x : W8), ws[i]? = some x → x.ok ∧ preS zs (i + 1) = preS zs i + x.toInt := fun i x h => ⟨hok x (List.mem_of_getElem? h), by rw [← hzs]; exact pre_step h⟩
   have hzl : zs.length = ws.length := by rw [← hzs]; simp
   have hall : preS zs ws.length = zs.sum := by rw [← hzl]; exact preS_all zs
   have hz0 : ∀ z ∈ zs, 0 ≤ z := fun z hz => by
    rw [← hzs] at hz
    obtain ⟨x, hx, rfl⟩ := List.mem_map.1 hz
    exact hns x hx
   by_cases hbig : P511 ≤ zs.sum
   ·exact ⟨0, 0, 6, fun A c w hr => pick_big s ws hok hns hlen (by rw [hzs]; exact hbig) A c w hr, fun A c w hr => rpick_big A ws.length c s ws hok hlen hs0 zs hx0 (by rw [hall]; exact hbig) w hr, chance_sameF 0 h0⟩
   ·have hfit : zs.sum < P511 := by omega
    have hws : zs.map W8.of = ws := by
     rw [← hzs, List.map_map]
     refine (List.map_congr_left fun x hx => ?_).trans (List.map_id ws)
     exact (W8.eq_of (hok x hx) rfl).symm
    obtain ⟨k, t, en, HPI, HP⟩ := pick_nn s hs zs hz0 (by omega) hfit
    rw [hws, hzl] at HP
    obtain ⟨_, ht⟩ := pickIs_nat hs HPI
    have hpos := (preS_top hz0 0).2
    rw [preS_zero] at hpos
    have hft : 0 ≤ preS zs ws.length ∧ preS zs ws.length < P511 := by rw [hall]; exact ⟨hpos, hfit⟩
    have HWD := fun w => rWide_any s hs (W8.of zs.sum) (W8.of_ok _) w
    rw [W8.of_toInt (by omega) hfit] at HWD
    rcases HPI with ⟨z1, rfl, rfl, rfl⟩ | ⟨z1, z2, rfl, rfl, rfl⟩ | ⟨z1, z2, rfl, rfl, K, rfl, z3, z4, z5⟩
    ·refine ⟨0, 0, 7, fun A c w hr => ?_, fun A c w hr => rpick_zero A ws.length c s ws hok hlen hs0 zs hx0 hft (by rw [hall]; exact z1) w hr, chance_sameF 0 h0⟩
     rcases Nat.eq_zero_or_pos ws.length with hn | hn
     ·rw [hn]; exact pick_empty A c s w
     ·exact HP A c w (fun h => absurd h (by omega)) hr
    ·have hn : ws.length ≠ 0 := fun h => by rw [h, preS_zero] at hall; omega
     refine ⟨0, 0, 9, fun A c w hr => HP A c w (fun h => absurd h hn) hr, fun A c w hr => ?_, chance_sameF 0 h0⟩
     rw [z2] at HWD
     exact rpick_err A ws.length c s ws hok hlen hs0 zs hx0 hft (by rw [hall]; exact z1) _ _ _ (by rw [hall]; exact HWD) (by decide) w hr
    ·have hn : ws.length ≠ 0 := fun h => by rw [h, preS_zero] at hall; omega
     refine ⟨K, _, 0, fun A c w hr => HP A c w (fun h => absurd h hn) hr, fun A c w hr => ?_, chance_sameF _ (wid_ltF hs _)⟩
     rw [z2] at HWD
     rcases wid_in (s := s) (n := zs.sum) (by omega) with he | ⟨_, v0, v1⟩
     ·rw [he] at z2; exact absurd z2 (by decide)
     ·refine rpick_ok A ws.length c s ws hok hlen hs0 zs hx0 hft (by rw [hall]; exact z1) _ _ (by rw [hall]; exact HWD) (widV s zs.sum) ⟨W8.of_ok _, W8.of_toInt (by omega) (by omega)⟩ K ⟨by omega, z4, z5⟩ (fun j hj => ?_) w hr
      refine Int.le_trans ?_ z4
      obtain ⟨d, hd⟩ := Nat.exists_eq_add_of_le (show j + 1 ≤ K by omega)
      rw [hd]
      exact preS_mono hz0 (j + 1) d
 ·exact ⟨0, 0, 3, fun A c w _ => pick_long A ws.length c s (by omega) w, fun A c w _ => rpick_long A ws.length c s ws hok (by omega) w, chance_sameF 0 h0⟩
structure CoT (s : Nat) (u v : W8) (b : Bool) (t : Nat) (en : Int) : Prop where
 p : ∀ w, Calls Tryz.prog 21 #[.agg #[.int .u64 s], .agg #[.int .u64 u.a0, .int .u64 u.a1, .int .u64 u.a2, .int .u64 u.a3, .int .u64 u.a4, .int .u64 u.a5, .int .u64 u.a6, .int .u64 u.a7, .int .u64 v.a0, .int .u64 v.a1, .int .u64 v.a2, .int .u64 v.a3, .int .u64 v.a4, .int .u64 v.a5, .int .u64 v.a6, .int .u64 v.a7]] w (CoinEnd w b t en)
 r : ∀ w, Calls Tryz.prog 29 #[.agg #[.int .u64 s], .agg #[.int .u64 u.a0, .int .u64 u.a1, .int .u64 u.a2, .int .u64 u.a3, .int .u64 u.a4, .int .u64 u.a5, .int .u64 u.a6, .int .u64 u.a7, .int .u64 v.a0, .int .u64 v.a1, .int .u64 v.a2, .int .u64 v.a3, .int .u64 v.a4, .int .u64 v.a5, .int .u64 v.a6, .int .u64 v.a7]] w (CoinEnd w b t en)
 q : ∀ w, (Op.equalIn 10000 24 (.agg #[.int .u64 (t : Nat)]) (.agg #[.int .u64 (t : Nat)])).run Tryz.prog w = .ok true w
theorem ord_neg {z : Int} (h : z < 0) : ordR z < 0 := by unfold ordR; rw [if_pos h]; decide
theorem ord_nn {z : Int} (h : 0 ≤ z) : 0 ≤ ordR z := by unfold ordR; rw [if_neg (by omega)]; split <;> decide
theorem ord_pos {z : Int} (h : 0 < z) : 0 < ordR z := by unfold ordR; rw [if_neg (by omega), if_neg (by omega)]; decide
theorem ord_np {z : Int} (h : z ≤ 0) : ¬ 0 < ordR z := by
 unfold ordR
 split
 ·decide
 ·rw [if_pos (by omega)]; decide
theorem ord_lt (z : Int) : decide (ordR z < 0) = decide (sideOf z < 0) := by
 refine decide_eq_decide.2 ⟨fun h => ?_, fun h => ?_⟩
 ·by_cases hz : z < 0
  ·exact side_neg hz
  ·have := ord_nn (z := z) (by omega); omega
 ·by_cases hz : z < 0
  ·exact ord_neg hz
  ·have := (side_nonneg (z := z) (by omega)).1; omega
theorem coins_any (s : Nat) (hs : s < 18446744073709551616) (u v : W8) (hu : u.ok) (hv : v.ok) : ∃ b t en, CoT s u v b t en := by
 have h0 : (0 : Nat) < 18446744073709551616 := by decide
 by_cases hok : ShOk u.toInt v.toInt
 ·have HK := fun w => shCheck_ok u v hu hv hok w
  have HR := fun w => rRight_ok u v hu hv hok w
  have HS := fun w => wSign_any u hu w
  have HS2 := fun w => rSign_any u hu w
  have HC := fun w => wCmp_any u v hu hv w
  have HC2 := fun w => rCmp01_any u v hu hv w
  by_cases hn : u.toInt < 0
  ·exact ⟨false, 0, 2, fun w => coin_neg s u v HK _ (side_neg hn) HS w, fun w => rcoin_neg s u v HR _ (ord_neg hn) HS2 w, chance_sameF 0 h0⟩
  ·have hn0 : 0 ≤ u.toInt := by omega
   by_cases hd : v.toInt < u.toInt
   ·exact ⟨false, 0, 2, fun w => coin_over s u v HK _ (side_nonneg hn0).1 HS _ (side_pos (by omega)) HC w, fun w => rcoin_over s u v HR _ (ord_nn hn0) HS2 _ (ord_pos (by omega)) HC2 w, chance_sameF 0 h0⟩
   ·have hc1 : ¬ 0 < sideOf (u.toInt - v.toInt) := by have := side_npos (z := u.toInt - v.toInt) (by omega); omega
    have HW := fun w => cWide_any s hs v hv w
    have HW2 := fun w => rWide_any s hs v hv w
    have hD := hok.1
    rcases wid_in (s := s) (n := v.toInt) (by omega) with he | ⟨he, v0, v1⟩
    ·rw [he] at HW HW2
     exact ⟨false, 0, 9, fun w => coin_err s u v HK _ (side_nonneg hn0).1 HS _ hc1 HC _ _ 9 (by decide) HW w, fun w => rcoin_err s u v HR _ (ord_nn hn0) HS2 _ (ord_np (by omega)) HC2 _ _ 9 (by decide) HW2 w, chance_sameF 0 h0⟩
    ·rw [he] at HW HW2
     have hx : (W8.of (widV s v.toInt)).ok := W8.of_ok _
     refine ⟨_, _, 0, fun w => coin_ok s u v HK _ (side_nonneg hn0).1 HS _ hc1 HC _ _ HW _ (fun w => wCmp_any _ u hx hu w) w, fun w => ?_, chance_sameF _ (wid_ltF hs _)⟩
     have := rcoin_ok s u v HR _ (ord_nn hn0) HS2 _ (ord_np (by omega)) HC2 _ _ HW2 _ (fun w => rCmp01_any _ u hx hu w) w
     rwa [ord_lt] at this
 ·exact ⟨false, 0, 20, fun w => coin_bad s u v (fun w => shCheck_bad u v hu hv hok w) w, fun w => rcoin_bad s u v (fun w => rRight_bad u v hu hv hok w) w, chance_sameF 0 h0⟩
end Go.Proofs.YtogkkhaepfablaaGreat
