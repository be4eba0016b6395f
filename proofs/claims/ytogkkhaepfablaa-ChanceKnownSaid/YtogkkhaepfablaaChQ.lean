
/- Chance: a wide number below another: the method. -/
import Derived.Test.YtogkkhaepfablaaChM
import Derived.Test.YtogkkhaepfablaaK06
import Derived.Test.YtogkkhaepfablaaK29
namespace Go.Proofs.Ytogkkhaepfablaa
open Go.RowKit Go.Shelf
set_option linter.unusedSimpArgs false
set_option linter.unusedVariables false

theorem candW_fn (b1 b2 : Nat) (w : World) : Calls Try.prog 55 #[.func (.func 54) #[] #[.pointer (some ⟨b1, 0, none⟩), .pointer (some ⟨b2, 0, none⟩)]] w (fun e w' => e = .returned (.func (.func 82) #[] #[.pointer (some ⟨w.heap.size, 0, none⟩)]) ∧ Lat w w' ∧
    Blk w' w.heap.size 103 #[.func (.func 54) #[] #[.pointer (some ⟨b1, 0, none⟩), .pointer (some ⟨b2, 0, none⟩)]]) := by
  go_enter Try.func55, Try.ntmps55
  go_wp2
  refine name1 (Q := fun W => bodyPost _ _ _ _ _ W) ?_
  intro W hl hs k1
  go_ret
  exact ⟨rfl, hl, k1⟩

/-- What holds while the candidates are drawn. -/
structure WidF (w W : World) (b g8 bt D : Nat) (o : Obj) (k s : Nat) (n r : W8) (e : Int) : Prop where
  l : W.heap[D + 1]? = some o
  d : W.heap[D]? = some (.deferred (some []))
  F : WdsF W g8 w.heap.size b k s
  k3 : Blk W (w.heap.size + 1) 44 #[.int .u64 n.a0, .int .u64 n.a1, .int .u64 n.a2, .int .u64 n.a3, .int .u64 n.a4, .int .u64 n.a5, .int .u64 n.a6, .int .u64 n.a7]
  k4 : Blk W (w.heap.size + 1 + 1) 44 #[.int .u64 r.a0, .int .u64 r.a1, .int .u64 r.a2, .int .u64 r.a3, .int .u64 r.a4, .int .u64 r.a5, .int .u64 r.a6, .int .u64 r.a7]
  k5 : Blk W (w.heap.size + 1 + 1 + 1) 29 #[.int .i64 e]
  kt : Blk W bt 103 #[.func (.func 54) #[] #[.pointer (some ⟨g8, 0, none⟩), .pointer (some ⟨w.heap.size, 0, none⟩)]]
  lp : LatP (· = b) w W
  hb : b < w.heap.size
  h8 : w.heap.size + 4 ≤ g8
  ht : g8 < bt
  hD : bt < D
theorem WidF.step {w W W' : World} {b g8 bt D : Nat} {o : Obj} {k s s' : Nat} {n r : W8} {e : Int} (h : WidF w W b g8 bt D o k s n r e) (kb : Blk W' b 72 #[.int .u64 (s' : Nat)]) (hl : LatP (· = b) W W') : WidF w W' b g8 bt D o k s' n r e := by
  obtain ⟨h1, h2, F, k3, k4, k5, kt, lp, hb, h8, ht, hD⟩ := h
  exact ⟨hl.at_ h1 (by omega), hl.at_ h2 (by omega), F.step kb hl, k3.keepP hl (by omega), k4.keepP hl (by omega), k5.keepP hl (by omega), kt.keepP hl (by omega), lp.trans hl, hb, h8, ht, hD⟩
theorem WidF.later {w W W' : World} {b g8 bt D : Nat} {o : Obj} {k s : Nat} {n r : W8} {e : Int} (h : WidF w W b g8 bt D o k s n r e) (hl : Lat W W') : WidF w W' b g8 bt D o k s n r e := by
  obtain ⟨h1, h2, F, k3, k4, k5, kt, lp, hb, h8, ht, hD⟩ := h
  exact ⟨(hl.p (· = b)).at_ h1 (by omega), (hl.p (· = b)).at_ h2 (by omega), F.later hl, k3.later hl, k4.later hl, k5.later hl, kt.later hl, lp.trans (hl.p _), hb, h8, ht, hD⟩
theorem WidF.put {w W : World} {b g8 bt D : Nat} {o : Obj} {k s : Nat} {n r : W8} {e : Int} (h : WidF w W b g8 bt D o k s n r e) (o' : Obj) : WidF w (W.putObj (D + 1) o') b g8 bt D o' k s n r e := by
  obtain ⟨h1, h2, F, k3, k4, k5, kt, lp, hb, h8, ht, hD⟩ := h
  have hl := lat_putObj (o := o') (heap_lt h1)
  exact ⟨putObj_at (heap_lt h1), hl.at_ h2 (by omega), ⟨F.kk.keepP hl (by omega), F.ks.keepP hl (by omega), F.kb.keepP hl (by omega), F.n1, F.n2⟩, k3.keepP hl (by omega), k4.keepP hl (by omega), k5.keepP hl (by omega), kt.keepP hl (by omega),
    lp.over hl (by omega), hb, h8, ht, hD⟩
theorem WidF.set {w W W' : World} {b g8 bt D : Nat} {o : Obj} {k s : Nat} {n r r' : W8} {e e' : Int} (h : WidF w W b g8 bt D o k s n r e) (hl : LatP (fun q => q = w.heap.size + 1 + 1 ∨ q = w.heap.size + 1 + 1 + 1) W W')
    (j4 : Blk W' (w.heap.size + 1 + 1) 44 #[.int .u64 r'.a0, .int .u64 r'.a1, .int .u64 r'.a2, .int .u64 r'.a3, .int .u64 r'.a4, .int .u64 r'.a5, .int .u64 r'.a6, .int .u64 r'.a7]) (j5 : Blk W' (w.heap.size + 1 + 1 + 1) 29 #[.int .i64 e']) : WidF w W' b g8 bt D o k s n r' e' := by
  obtain ⟨h1, h2, F, k3, k4, k5, kt, lp, hb, h8, ht, hD⟩ := h
  exact ⟨hl.at_ h1 (by omega), hl.at_ h2 (by omega), ⟨F.kk.keepP hl (by omega), F.ks.keepP hl (by omega), F.kb.keepP hl (by omega), F.n1, F.n2⟩, k3.keepP hl (by omega), j4, j5, kt.keepP hl (by omega),
    ⟨hl.os.trans lp.os, hl.tape.trans lp.tape, hl.output.trans lp.output, Nat.le_trans lp.size hl.size, fun q hq hm => (hl.block q (Nat.lt_of_lt_of_le hq lp.size) (by omega)).trans (lp.block q hq hm)⟩, hb, h8, ht, hD⟩
theorem WidF.out {w W : World} {b g8 bt D : Nat} {o : Obj} {k s : Nat} {n r : W8} {e : Int} (h : WidF w W b g8 bt D o k s n r e) :
    Blk (W.putObj D (.deferred none)) (w.heap.size + 1 + 1) 44 #[.int .u64 r.a0, .int .u64 r.a1, .int .u64 r.a2, .int .u64 r.a3, .int .u64 r.a4, .int .u64 r.a5, .int .u64 r.a6, .int .u64 r.a7] ∧ (W.putObj D (.deferred none)).cell? ⟨w.heap.size + 1 + 1 + 1, 0, none⟩ = some (.int .i64 e) ∧
    Blk (W.putObj D (.deferred none)) b 72 #[.int .u64 (s : Nat)] ∧ LatP (· = b) w (W.putObj D (.deferred none)) := by
  obtain ⟨h1, h2, F, k3, k4, k5, kt, lp, hb, h8, ht, hD⟩ := h
  have hl := lat_putObj (o := .deferred none) (heap_lt h2)
  exact ⟨k4.keepP hl (by omega), (k5.keepP hl (by omega)).cell 0, F.kb.keepP hl (by omega), lp.over hl (by omega)⟩
/-- Two stores: a wide number and an error. -/
theorem name_put8e {w : World} {g g2 : Nat} {t t2 : TypeId} {c0 c1 c2 c3 c4 c5 c6 c7 v0 v1 v2 v3 v4 v5 v6 v7 d v : Value} {Q : World → Prop} (hb : Blk w g t #[c0, c1, c2, c3, c4, c5, c6, c7]) (hb2 : Blk w g2 t2 #[d]) (hg : g2 ≠ g)
    (h : ∀ W', Blk W' g t #[v0, v1, v2, v3, v4, v5, v6, v7] → Blk W' g2 t2 #[v] → LatP (fun q => q = g ∨ q = g2) w W' → Q W') :
    Q (((((((((w.setCell ⟨g, 0, none⟩ v0).setCell ⟨g, 1, none⟩ v1).setCell ⟨g, 2, none⟩ v2).setCell ⟨g, 3, none⟩ v3).setCell ⟨g, 4, none⟩ v4).setCell ⟨g, 5, none⟩ v5).setCell ⟨g, 6, none⟩ v6).setCell ⟨g, 7, none⟩ v7).setCell ⟨g2, 0, none⟩ v) := by
  refine name_put8 (Q := fun W => Q (W.setCell ⟨g2, 0, none⟩ v)) hb ?_
  intro W1 j1 l1
  refine name_set (Q := Q) (hb2.keepP l1 hg) ?_
  intro W2 j2 _ _ l2
  exact h W2 (j1.keepP l2 (fun e => hg e.symm)) j2 ((l1.wider (fun q h => .inl h)).trans (l2.wider (fun q h => .inr h)))

theorem LatP.overN {M N : Nat → Prop} {W w X : World} (h : LatP M W w) (k : LatP N w X) (hN : ∀ q, N q → W.heap.size ≤ q) : LatP M W X :=
  ⟨k.os.trans h.os, k.tape.trans h.tape, k.output.trans h.output, Nat.le_trans h.size k.size, fun i hi hm => (k.block i (Nat.lt_of_lt_of_le hi h.size) (fun hn => by have := hN i hn; omega)).trans (h.block i hi hm)⟩
/-- What the call leaves: the answer, and the state. -/
def WidPost (b : Nat) (w : World) (u : W8) (en : Int) (t : Nat) (e : Ending) (w' : World) : Prop :=
  e = .returned (.tuple #[.agg #[.int .u64 u.a0, .int .u64 u.a1, .int .u64 u.a2, .int .u64 u.a3, .int .u64 u.a4, .int .u64 u.a5, .int .u64 u.a6, .int .u64 u.a7], .int .i64 en]) ∧ Blk w' b 72 #[.int .u64 (t : Nat)] ∧ LatP (· = b) w w'


theorem spell37 (T : Array Value) (h : T.size = 37) : ∃ f : Nat → Value, (∀ k, f k = T.getD k undef) ∧ T = #[f 0, f 1, f 2, f 3, f 4, f 5, f 6, f 7, f 8, f 9, f 10, f 11, f 12, f 13, f 14, f 15, f 16, f 17, f 18, f 19, f 20, f 21, f 22, f 23, f 24, f 25, f 26, f 27, f 28, f 29, f 30, f 31, f 32, f 33, f 34, f 35, f 36] := ⟨fun k => T.getD k undef, fun _ => rfl, (spell 37 T h).trans (by kernel_rfl)⟩
noncomputable def wz1_rows (g3 : Nat) (n u o1 : W8) : List SRow := [
  ⟨Op.load 44 (Operand.tmp 3), some 12, none, [], fun v _ => v = .agg #[.int .u64 n.a0, .int .u64 n.a1, .int .u64 n.a2, .int .u64 n.a3, .int .u64 n.a4, .int .u64 n.a5, .int .u64 n.a6, .int .u64 n.a7]⟩,
  ⟨Op.call { callee := Callee.value (Operand.func 21), args := #[Operand.const (Value.int IntKind.i64 1)], argTypes := #[3] }, some 13, none, [], fun v _ => v = .agg #[.int .u64 o1.a0, .int .u64 o1.a1, .int .u64 o1.a2, .int .u64 o1.a3, .int .u64 o1.a4, .int .u64 o1.a5, .int .u64 o1.a6, .int .u64 o1.a7]⟩,
  ⟨Op.call { callee := Callee.value (Operand.func 52), args := #[Operand.tmp 12, Operand.tmp 13], argTypes := #[44, 44] }, some 14, none, [0, 1, 1], fun v _ => v = .tuple #[.agg #[.int .u64 u.a0, .int .u64 u.a1, .int .u64 u.a2, .int .u64 u.a3, .int .u64 u.a4, .int .u64 u.a5, .int .u64 u.a6, .int .u64 u.a7], .int .i64 0]⟩,
  ⟨Op.move (Operand.tmp 14), some 11, none, [2], fun v _ => v = .tuple #[.agg #[.int .u64 u.a0, .int .u64 u.a1, .int .u64 u.a2, .int .u64 u.a3, .int .u64 u.a4, .int .u64 u.a5, .int .u64 u.a6, .int .u64 u.a7], .int .i64 0]⟩,
  ⟨Op.extract (Operand.tmp 11) 0, some 15, none, [3], fun v _ => v = .agg #[.int .u64 u.a0, .int .u64 u.a1, .int .u64 u.a2, .int .u64 u.a3, .int .u64 u.a4, .int .u64 u.a5, .int .u64 u.a6, .int .u64 u.a7]⟩,
  ⟨Op.extract (Operand.tmp 11) 1, some 16, none, [3], fun v _ => v = .int .i64 0⟩,
  ⟨Op.alloc 44, some 6, none, [], fun _ _ => True⟩,
  ⟨Op.store 44 (Operand.tmp 6) (Operand.tmp 15), none, none, [6, 4, 2, 0, 1, 2, 3, 4, 6], fun _ _ => True⟩,
  ⟨Op.assign (Operand.tmp 16), some 7, none, [5, 7, 0, 1, 2, 3, 4, 5, 6, 7], fun v _ => v = .int .i64 0⟩]
noncomputable def wz1_base (g3 : Nat) (n u o1 : W8) (v0 v1 v2 v4 v5 v8 v9 v10 v17 v18 v19 v20 v21 v22 v23 v24 v25 v26 v27 v28 v29 v30 v31 v32 v33 v34 v35 v36 : Value) : List (Nat × Value) := [(3, .pointer (some ⟨g3, 0, none⟩)), (0, v0), (1, v1), (2, v2), (4, v4), (5, v5), (8, v8), (9, v9), (10, v10), (17, v17), (18, v18), (19, v19), (20, v20), (21, v21), (22, v22), (23, v23), (24, v24), (25, v25), (26, v26), (27, v27), (28, v28), (29, v29), (30, v30), (31, v31), (32, v32), (33, v33), (34, v34), (35, v35), (36, v36)]
def wz1_mem : List MRow := [⟨6, 6, 44, #[.int .u64 0, .int .u64 0, .int .u64 0, .int .u64 0, .int .u64 0, .int .u64 0, .int .u64 0, .int .u64 0], 7, 15, 4⟩]
theorem wz1_pure (g3 : Nat) (n u o1 : W8) : AllPure (wz1_rows g3 n u o1) := ⟨fun _ _ _ h => h, ⟨fun _ _ _ h => h, ⟨fun _ _ _ h => h, ⟨fun _ _ _ h => h, ⟨fun _ _ _ h => h, ⟨fun _ _ _ h => h, ⟨fun _ _ _ h => h, ⟨fun _ _ _ h => h, ⟨fun _ _ _ h => h, trivial⟩⟩⟩⟩⟩⟩⟩⟩⟩
set_option maxRecDepth 100000 in
set_option maxHeartbeats 4000000 in
theorem wz1_allm (g3 : Nat) (n u o1 : W8) : AllMem Try.prog (wz1_rows g3 n u o1) wz1_mem := by
  refine ⟨⟨fun ev w o ho => ?_, by rfl, fun r v w hr => ?_, by rfl, fun r hr => ?_, by rfl, fun r v w hr h => ?_, by kernel_rfl⟩, ?_⟩
  · obtain ⟨d, op, ty, p, af, g⟩ := o
    simp only at ho
    subst ho
    unfold execOp
    go_simp
  · obtain rfl := Option.some.inj (show some _ = some r from hr); trivial
  · obtain rfl := Option.some.inj (show some _ = some r from hr); exact ⟨by simp, by simp⟩
  · obtain rfl := Option.some.inj (show some _ = some r from hr); exact ⟨_, h, rfl, by simp [Value.oneCell']⟩
  trivial
set_option maxRecDepth 100000 in
set_option maxHeartbeats 4000000 in
theorem wz1_steps (V : World) (g3 : Nat) (n u o1 : W8) (v0 v1 v2 v4 v5 v8 v9 v10 v17 v18 v19 v20 v21 v22 v23 v24 v25 v26 v27 v28 v29 v30 v31 v32 v33 v34 v35 v36 : Value) (R1 : ∀ w', Lat V w' → w'.rangeAt g3 0 [.int .u64 n.a0, .int .u64 n.a1, .int .u64 n.a2, .int .u64 n.a3, .int .u64 n.a4, .int .u64 n.a5, .int .u64 n.a6, .int .u64 n.a7]) (J26 : (Try.prog.info? 44).map (·.size) = some 8) (HO1 : ∀ w, Calls Try.prog 21 #[.int .i64 1] w (fun e w' => e = .returned (.agg #[.int .u64 o1.a0, .int .u64 o1.a1, .int .u64 o1.a2, .int .u64 o1.a3, .int .u64 o1.a4, .int .u64 o1.a5, .int .u64 o1.a6, .int .u64 o1.a7]) ∧ Lat w w'))
    (HS : ∀ w, Calls Try.prog 52 #[.agg #[.int .u64 n.a0, .int .u64 n.a1, .int .u64 n.a2, .int .u64 n.a3, .int .u64 n.a4, .int .u64 n.a5, .int .u64 n.a6, .int .u64 n.a7], .agg #[.int .u64 o1.a0, .int .u64 o1.a1, .int .u64 o1.a2, .int .u64 o1.a3, .int .u64 o1.a4, .int .u64 o1.a5, .int .u64 o1.a6, .int .u64 o1.a7]] w (fun e w' => e = .returned (.tuple #[.agg #[.int .u64 u.a0, .int .u64 u.a1, .int .u64 u.a2, .int .u64 u.a3, .int .u64 u.a4, .int .u64 u.a5, .int .u64 u.a6, .int .u64 u.a7], .int .i64 0]) ∧ Lat w w')) :
    StepsAt Try.prog (wz1_rows g3 n u o1) (wz1_base g3 n u o1 v0 v1 v2 v4 v5 v8 v9 v10 v17 v18 v19 v20 v21 v22 v23 v24 v25 v26 v27 v28 v29 v30 v31 v32 v33 v34 v35 v36) V (wz1_mem.flatMap fun M => [M.ia, M.is]) 0 (wz1_rows g3 n u o1) := by
  refine StepsAt.next (fun _ _ _ h _ => h) (fun j b h => by cases h) (fun a w hl hb hd o ho => by have e1 := hb 3 _ rfl; exact Runs.val (yv_load (S := Lat V) e1 R1 Try.underlying44 rfl J26 o w ho hl) ⟨Lat.refl _, fun _ => rfl⟩) ?_
  refine StepsAt.next (fun _ _ _ h _ => h) (fun j b h => by cases h) (fun a w hl hb hd o ho => by exact Runs.call (yv_call (f := 21) (fun _ => by go_simp) o ho (by simp only [List.map_toArray, List.map_cons, List.map_nil, eval_const])) ((HO1 w).mono fun e w' h => ⟨_, h.1, h.2, fun _ => rfl⟩)) ?_
  refine StepsAt.next (fun _ _ _ h _ => h) (fun j b h => by cases h) (fun a w hl hb hd o ho => by obtain ⟨v1, e1, q1⟩ := hd 0 _ _ (by simp) rfl rfl; subst q1; obtain ⟨v2, e2, q2⟩ := hd 1 _ _ (by simp) rfl rfl; subst q2; exact Runs.call (yv_call (f := 52) (fun _ => by go_simp) o ho (by simp only [List.map_toArray, List.map_cons, List.map_nil, eval_const, e1, e2])) ((HS w).mono fun e w' h => ⟨_, h.1, h.2, fun _ => rfl⟩)) ?_
  refine StepsAt.next (fun _ _ _ h _ => h) (fun j b h => by cases h) (fun a w hl hb hd o ho => by obtain ⟨v1, e1, q1⟩ := hd 2 _ _ (by simp) rfl rfl; subst q1; exact Runs.val (yv_move (S := fun _ => True) e1 o w ho trivial) ⟨Lat.refl _, fun _ => rfl⟩) ?_
  refine StepsAt.next (fun _ _ _ h _ => h) (fun j b h => by cases h) (fun a w hl hb hd o ho => by obtain ⟨v1, e1, q1⟩ := hd 3 _ _ (by simp) rfl rfl; subst q1; obtain ⟨d, op, ty, p, af, g⟩ := o; simp only at ho; subst ho; have ec : ∀ v, a.eval (.const v) = v := fun _ => rfl; exact Runs.val (by unfold execOp; generalize a.eval = ev at e1 ec ⊢; simp only [e1, ec]; go_simp) ⟨Lat.refl _, fun _ => rfl⟩) ?_
  refine StepsAt.next (fun _ _ _ h _ => h) (fun j b h => by cases h) (fun a w hl hb hd o ho => by obtain ⟨v1, e1, q1⟩ := hd 3 _ _ (by simp) rfl rfl; subst q1; obtain ⟨d, op, ty, p, af, g⟩ := o; simp only at ho; subst ho; have ec : ∀ v, a.eval (.const v) = v := fun _ => rfl; exact Runs.val (by unfold execOp; generalize a.eval = ev at e1 ec ⊢; simp only [e1, ec]; go_simp) ⟨Lat.refl _, fun _ => rfl⟩) ?_
  refine StepsAt.skip (by simp [wz1_mem]) ?_
  refine StepsAt.skip (by simp [wz1_mem]) ?_
  refine StepsAt.next (fun _ _ _ h _ => h) (fun j b h => by cases h) (fun a w hl hb hd o ho => by obtain ⟨v1, e1, q1⟩ := hd 5 _ _ (by simp) rfl rfl; subst q1; exact Runs.val (yv_assignS (S := fun _ => True) e1 o w ho trivial) ⟨Lat.refl _, fun _ => rfl⟩) ?_
  exact StepsAt.none
set_option maxRecDepth 100000 in
set_option maxHeartbeats 8000000 in
theorem wide_zero (b s : Nat) (n u : W8) (HS : ∀ w, Calls Try.prog 52 #[.agg #[.int .u64 n.a0, .int .u64 n.a1, .int .u64 n.a2, .int .u64 n.a3, .int .u64 n.a4, .int .u64 n.a5, .int .u64 n.a6, .int .u64 n.a7], .agg #[.int .u64 (W8.of 1).a0, .int .u64 (W8.of 1).a1, .int .u64 (W8.of 1).a2, .int .u64 (W8.of 1).a3, .int .u64 (W8.of 1).a4, .int .u64 (W8.of 1).a5, .int .u64 (W8.of 1).a6, .int .u64 (W8.of 1).a7]] w (fun e w' => e = .returned (.tuple #[.agg #[.int .u64 u.a0, .int .u64 u.a1, .int .u64 u.a2, .int .u64 u.a3, .int .u64 u.a4, .int .u64 u.a5, .int .u64 u.a6, .int .u64 u.a7], .int .i64 0]) ∧ Lat w w'))
    (HL : ∀ w, Calls Try.prog 53 #[.agg #[.int .u64 u.a0, .int .u64 u.a1, .int .u64 u.a2, .int .u64 u.a3, .int .u64 u.a4, .int .u64 u.a5, .int .u64 u.a6, .int .u64 u.a7]] w (fun e w' => e = .returned (.int .i64 0) ∧ Lat w w')) (w : World) (hb : Blk w b 72 #[.int .u64 (s : Nat)]) :
    Calls Try.prog 33 #[.pointer (some ⟨b, 0, none⟩), .agg #[.int .u64 n.a0, .int .u64 n.a1, .int .u64 n.a2, .int .u64 n.a3, .int .u64 n.a4, .int .u64 n.a5, .int .u64 n.a6, .int .u64 n.a7]] w (WidPost b w W8.zero 0 s) := by
  have HO1 := of_any 1 (by decide) (by decide)
  obtain ⟨o1, ho1⟩ : ∃ o, W8.of 1 = o := ⟨_, rfl⟩
  rw [ho1] at HS HO1
  clear ho1
  have hbl := hb.lt
  go_enter Try.func33, Try.ntmps33
  go_upto_region 1 with (fail)
  refine name4 (Q := fun W => Code.wp _ _ _ _ W) ?_
  intro W hl hs k2 k3 k4 k5
  rename_i KN hKN
  have TAIL : ∀ (g6 : Nat) (a11 a12 a13 a14 a15 a16 : Value) (V : World), Lat W V → Blk V g6 44 #[.int .u64 u.a0, .int .u64 u.a1, .int .u64 u.a2, .int .u64 u.a3, .int .u64 u.a4, .int .u64 u.a5, .int .u64 u.a6, .int .u64 u.a7] →
      KN { tmps := #[.pointer (some ⟨b, 0, none⟩), .agg #[.int .u64 n.a0, .int .u64 n.a1, .int .u64 n.a2, .int .u64 n.a3, .int .u64 n.a4, .int .u64 n.a5, .int .u64 n.a6, .int .u64 n.a7], .pointer (some ⟨w.heap.size, 0, none⟩), .pointer (some ⟨w.heap.size + 1, 0, none⟩), .pointer (some ⟨w.heap.size + 1 + 1, 0, none⟩), .pointer (some ⟨w.heap.size + 1 + 1 + 1, 0, none⟩), .pointer (some ⟨g6, 0, none⟩), .int .i64 0, undef, undef, undef,
        a11, a12, a13, a14, a15, a16, undef, undef, undef, undef, undef, undef, undef, undef, undef, undef, undef, undef, undef, undef, undef, undef, undef, undef, undef, undef], defers := [] } V := by
    intro g6 a11 a12 a13 a14 a15 a16 V LV K6
    replace k2 := k2.later LV
    replace k3 := k3.later LV
    replace k4 := k4.later LV
    replace k5 := k5.later LV
    have LW := hl.trans LV
    have hs4 : w.heap.size + 4 ≤ V.heap.size := by have := LV.size; omega
    have KB := hb.later LW
    clear HS HO1 hl hs LV hb
    refine hKN _ _ ?_
    clear hKN
    have d0 := K6.cell 0
    have d1 := K6.cell 1
    have d2 := K6.cell 2
    have d3 := K6.cell 3
    have d4 := K6.cell 4
    have d5 := K6.cell 5
    have d6 := K6.cell 6
    have d7 := K6.cell 7
    go_wp2_with fail
    refine (HL V).mono ?_
    rintro e V1 ⟨rfl, l1⟩
    replace k2 := k2.later l1
    replace k3 := k3.later l1
    replace k4 := k4.later l1
    replace k5 := k5.later l1
    replace LW := LW.trans l1
    replace KB := KB.later l1
    have hs5 : w.heap.size + 4 ≤ V1.heap.size := Nat.le_trans hs4 l1.size
    clear d0 d1 d2 d3 d4 d5 d6 d7
    clear K6 l1 HL hs4
    have d0 := k4.cell 0
    have d1 := k4.cell 1
    have d2 := k4.cell 2
    have d3 := k4.cell 3
    have d4 := k4.cell 4
    have d5 := k4.cell 5
    have d6 := k4.cell 6
    have d7 := k4.cell 7
    have f0 := k4.frozen 0
    have f1 := k4.frozen 1
    have f2 := k4.frozen 2
    have f3 := k4.frozen 3
    have f4 := k4.frozen 4
    have f5 := k4.frozen 5
    have f6 := k4.frozen 6
    have f7 := k4.frozen 7
    have e5 : V1.cell? ⟨w.heap.size + 1 + 1 + 1, 0, none⟩ = some (.int .i64 0) := k5.cell 0
    have f5 := k5.frozen 0
    have h4 := k4.lt
    have h5 := k5.lt
    go_wp2
    refine name_put8e (Q := fun W => bodyPost _ _ _ _ _ (W.alloc _)) k4 k5 (by omega) ?_
    intro V2 j4 j5 l2
    refine name1 (Q := fun W => bodyPost _ _ _ _ _ W) ?_
    intro V3 l3 hs3 k8
    have i4 := j4.later l3
    have i5 : V3.cell? ⟨w.heap.size + 1 + 1 + 1, 0, none⟩ = some (.int .i64 0) := (j5.later l3).cell 0
    clear d0 d1 d2 d3 d4 d5 d6 d7
    have e0 := i4.cell 0
    have e1 := i4.cell 1
    have e2 := i4.cell 2
    have e3 := i4.cell 3
    have e4 := i4.cell 4
    have e5 := i4.cell 5
    have e6 := i4.cell 6
    have e7 := i4.cell 7
    refine bodyPost_ret (v := .tuple #[.agg #[.int .u64 W8.zero.a0, .int .u64 W8.zero.a1, .int .u64 W8.zero.a2, .int .u64 W8.zero.a3, .int .u64 W8.zero.a4, .int .u64 W8.zero.a5, .int .u64 W8.zero.a6, .int .u64 W8.zero.a7], .int .i64 0]) (by simp [results, Try.results33, go_sem, e0, e1, e2, e3, e4, e5, e6, e7, i5, W8.zero]) rfl ?_
    exact ⟨rfl, (KB.keepP l2 (by omega)).later l3, ((LW.p _).overN l2 (fun q h => by omega)).trans (l3.p _)⟩
  clear hKN
  have R1 : ∀ w', Lat W w' → w'.rangeAt (w.heap.size + 1) 0 [.int .u64 n.a0, .int .u64 n.a1, .int .u64 n.a2, .int .u64 n.a3, .int .u64 n.a4, .int .u64 n.a5, .int .u64 n.a6, .int .u64 n.a7] := fun w' hl => Blk.rangeAll (l := [.int .u64 n.a0, .int .u64 n.a1, .int .u64 n.a2, .int .u64 n.a3, .int .u64 n.a4, .int .u64 n.a5, .int .u64 n.a6, .int .u64 n.a7]) (k3.later hl)
  have J26 : (Try.prog.info? 44).map (·.size) = some 8 := by kernel_rfl
  clear k2 k3 k4 k5
  refine wp_region_mem (wz1_rows (w.heap.size + 1) n u o1) (wz1_base (w.heap.size + 1) n u o1 _ _ _ _ _ _ _ _ _ _ _ _ _ _ _ _ _ _ _ _ _ _ _ _ _ _ _ _) wz1_mem 37 9 [[], [], [0, 1, 1], [2], [3], [3], [], [6, 4, 2, 0, 1, 2, 3, 4, 6], [5, 7, 0, 1, 2, 3, 4, 5, 6, 7]] (by kernel_rfl) (by kernel_rfl) (by kernel_rfl) (by kernel_rfl) (by kernel_rfl) (by kernel_rfl) (by kernel_rfl) (by rfl) rfl (base_of (base_cons rfl (base_cons rfl (base_cons rfl (base_cons rfl (base_cons rfl (base_cons rfl (base_cons rfl (base_cons rfl (base_cons rfl (base_cons rfl (base_cons rfl (base_cons rfl (base_cons rfl (base_cons rfl (base_cons rfl (base_cons rfl (base_cons rfl (base_cons rfl (base_cons rfl (base_cons rfl (base_cons rfl (base_cons rfl (base_cons rfl (base_cons rfl (base_cons rfl (base_cons rfl (base_cons rfl (base_cons rfl (base_cons rfl (base_nil _))))))))))))))))))))))))))))))) (wz1_pure (w.heap.size + 1) n u o1) (wz1_allm (w.heap.size + 1) n u o1) (wz1_steps W (w.heap.size + 1) n u o1 _ _ _ _ _ _ _ _ _ _ _ _ _ _ _ _ _ _ _ _ _ _ _ _ _ _ _ _ R1 J26 HO1 HS) ?_
  · intro a9 W9 hsz9 hdf9 hL9 hbs hsl hmm
    obtain ⟨g6, c6, s6, n6, b6, p6, far6⟩ := hmm 0 _ rfl
    obtain ⟨v9, h9, q9⟩ := hsl 4 _ _ rfl rfl
    obtain rfl : v9 = .agg #[.int .u64 u.a0, .int .u64 u.a1, .int .u64 u.a2, .int .u64 u.a3, .int .u64 u.a4, .int .u64 u.a5, .int .u64 u.a6, .int .u64 u.a7] := q9
    obtain rfl := slot_agg p6 h9
    clear h9
    obtain ⟨v9, h9, q9⟩ := hsl 8 _ _ rfl rfl
    obtain rfl : v9 = .int .i64 0 := q9
    have w7 := slot_getD h9
    clear h9
    have w6 := slot_getD s6
    obtain ⟨T9, df9⟩ := a9
    obtain rfl : df9 = [] := hdf9
    obtain ⟨f, hf, rfl⟩ := spell37 T9 hsz9
    have X9 := fun k v h => (hf k).trans (slot_getD (hbs k v h))
    have x7 : f 7 = .int .i64 0 := (hf 7).trans w7
    have x6 : f 6 = .pointer (some ⟨g6, 0, none⟩) := (hf 6).trans w6
    clear hbs hsl hmm hf hsz9 s6 p6 far6 w7 w6
    simp only [X9 3 _ rfl, X9 0 _ rfl, X9 1 _ rfl, X9 2 _ rfl, X9 4 _ rfl, X9 5 _ rfl, X9 8 _ rfl, X9 9 _ rfl, X9 10 _ rfl, X9 17 _ rfl, X9 18 _ rfl, X9 19 _ rfl, X9 20 _ rfl, X9 21 _ rfl, X9 22 _ rfl, X9 23 _ rfl, X9 24 _ rfl, X9 25 _ rfl, X9 26 _ rfl, X9 27 _ rfl, X9 28 _ rfl, X9 29 _ rfl, X9 30 _ rfl, X9 31 _ rfl, X9 32 _ rfl, X9 33 _ rfl, X9 34 _ rfl, X9 35 _ rfl, X9 36 _ rfl, x7, x6]
    clear x7 x6 X9
    exact TAIL g6 _ _ _ _ _ _ W9 hL9 b6
set_option maxRecDepth 100000 in
set_option maxHeartbeats 8000000 in
theorem wide_pos (b s k : Nat) (n u : W8) (hk : ¬ (k : Int) = 0) (st : Nat → Nat) (z : Nat → Int) (h0 : st 0 = s) (HW : ∀ j bk bs W, WdsF W bk bs b k (st j) → Calls Try.prog 54 #[.pointer (some ⟨bk, 0, none⟩), .pointer (some ⟨bs, 0, none⟩)] W (WdsPost W b (z j) (st (j + 1))))
    (ok : Nat → Bool) (cc sg : Nat → Int) (HC : ∀ j w, Calls Try.prog 19 #[.agg #[.int .u64 (W8.of (z j)).a0, .int .u64 (W8.of (z j)).a1, .int .u64 (W8.of (z j)).a2, .int .u64 (W8.of (z j)).a3, .int .u64 (W8.of (z j)).a4, .int .u64 (W8.of (z j)).a5, .int .u64 (W8.of (z j)).a6, .int .u64 (W8.of (z j)).a7], .agg #[.int .u64 n.a0, .int .u64 n.a1, .int .u64 n.a2, .int .u64 n.a3, .int .u64 n.a4, .int .u64 n.a5, .int .u64 n.a6, .int .u64 n.a7]] w (fun e w' => e = .returned (.int .i64 (cc j)) ∧ Lat w w')) (HG : ∀ j w, Calls Try.prog 32 #[.agg #[.int .u64 (W8.of (z j)).a0, .int .u64 (W8.of (z j)).a1, .int .u64 (W8.of (z j)).a2, .int .u64 (W8.of (z j)).a3, .int .u64 (W8.of (z j)).a4, .int .u64 (W8.of (z j)).a5, .int .u64 (W8.of (z j)).a6, .int .u64 (W8.of (z j)).a7]] w (fun e w' => e = .returned (.int .i64 (sg j)) ∧ Lat w w'))
    (hok : ∀ j, ok j = true → cc j < 0 ∧ 0 ≤ sg j) (hno : ∀ j, ok j = false → ¬ cc j < 0) (HS : ∀ w, Calls Try.prog 52 #[.agg #[.int .u64 n.a0, .int .u64 n.a1, .int .u64 n.a2, .int .u64 n.a3, .int .u64 n.a4, .int .u64 n.a5, .int .u64 n.a6, .int .u64 n.a7], .agg #[.int .u64 (W8.of 1).a0, .int .u64 (W8.of 1).a1, .int .u64 (W8.of 1).a2, .int .u64 (W8.of 1).a3, .int .u64 (W8.of 1).a4, .int .u64 (W8.of 1).a5, .int .u64 (W8.of 1).a6, .int .u64 (W8.of 1).a7]] w (fun e w' => e = .returned (.tuple #[.agg #[.int .u64 u.a0, .int .u64 u.a1, .int .u64 u.a2, .int .u64 u.a3, .int .u64 u.a4, .int .u64 u.a5, .int .u64 u.a6, .int .u64 u.a7], .int .i64 0]) ∧ Lat w w'))
    (HL : ∀ w, Calls Try.prog 53 #[.agg #[.int .u64 u.a0, .int .u64 u.a1, .int .u64 u.a2, .int .u64 u.a3, .int .u64 u.a4, .int .u64 u.a5, .int .u64 u.a6, .int .u64 u.a7]] w (fun e w' => e = .returned (.int .i64 (k : Nat)) ∧ Lat w w')) (w : World) (hb : Blk w b 72 #[.int .u64 (s : Nat)]) :
    Calls Try.prog 33 #[.pointer (some ⟨b, 0, none⟩), .agg #[.int .u64 n.a0, .int .u64 n.a1, .int .u64 n.a2, .int .u64 n.a3, .int .u64 n.a4, .int .u64 n.a5, .int .u64 n.a6, .int .u64 n.a7]] w (fun e w' =>
      (∃ j, j < 200 ∧ (∀ i, i < j → ok i = false) ∧ ok j = true ∧ WidPost b w (W8.of (z j)) 0 (st (j + 1)) e w') ∨ ((∀ i, i < 200 → ok i = false) ∧ WidPost b w W8.zero 9 (st 200) e w')) := by
  have HWH := Lib.hid HW
  have HCH := Lib.hid HC
  have HGH := Lib.hid HG
  have HOK := Lib.hid hok
  have HNO := Lib.hid hno
  have H0 := Lib.hid h0
  clear HW HC HG hok hno h0
  have HO1 := of_any 1 (by decide) (by decide)
  obtain ⟨o1, ho1⟩ : ∃ o, W8.of 1 = o := ⟨_, rfl⟩
  rw [ho1] at HS HO1
  clear ho1
  have hbl := hb.lt
  refine calls_of_marks Try.func33 rfl ?_
  simp only [Try.ntmps33, List.size_toArray, List.length_cons, List.length_nil, Nat.reduceAdd, Nat.reduceSub, Array.replicate_succ, Array.replicate_zero, List.push_toArray, List.append_toArray, List.nil_append, List.cons_append]
  go_upto_region 1 with (fail)
  refine name4 (Q := fun W => Code.wp _ _ _ _ W) ?_
  intro W hl hs k2 k3 k4 k5
  rename_i KN hKN
  have TAIL : ∀ (g6 : Nat) (a11 a12 a13 a14 a15 a16 : Value) (V : World), Lat W V → Blk V g6 44 #[.int .u64 u.a0, .int .u64 u.a1, .int .u64 u.a2, .int .u64 u.a3, .int .u64 u.a4, .int .u64 u.a5, .int .u64 u.a6, .int .u64 u.a7] →
      KN { tmps := #[.pointer (some ⟨b, 0, none⟩), .agg #[.int .u64 n.a0, .int .u64 n.a1, .int .u64 n.a2, .int .u64 n.a3, .int .u64 n.a4, .int .u64 n.a5, .int .u64 n.a6, .int .u64 n.a7], .pointer (some ⟨w.heap.size, 0, none⟩), .pointer (some ⟨w.heap.size + 1, 0, none⟩), .pointer (some ⟨w.heap.size + 1 + 1, 0, none⟩), .pointer (some ⟨w.heap.size + 1 + 1 + 1, 0, none⟩), .pointer (some ⟨g6, 0, none⟩), .int .i64 0, undef, undef, undef,
        a11, a12, a13, a14, a15, a16, undef, undef, undef, undef, undef, undef, undef, undef, undef, undef, undef, undef, undef, undef, undef, undef, undef, undef, undef, undef], defers := [] } V := by
    intro g6 a11 a12 a13 a14 a15 a16 V LV K6
    replace k2 := k2.later LV
    replace k3 := k3.later LV
    replace k4 := k4.later LV
    replace k5 := k5.later LV
    have LW := hl.trans LV
    have hs4 : w.heap.size + 4 ≤ V.heap.size := by have := LV.size; omega
    have KB := hb.later LW
    clear HS HO1 hl hs LV hb
    refine hKN _ _ ?_
    clear hKN
    have d0 := K6.cell 0
    have d1 := K6.cell 1
    have d2 := K6.cell 2
    have d3 := K6.cell 3
    have d4 := K6.cell 4
    have d5 := K6.cell 5
    have d6 := K6.cell 6
    have d7 := K6.cell 7
    go_wp2_with fail
    refine (HL V).mono ?_
    rintro e V1 ⟨rfl, l1⟩
    replace k2 := k2.later l1
    replace k3 := k3.later l1
    replace k4 := k4.later l1
    replace k5 := k5.later l1
    replace LW := LW.trans l1
    replace KB := KB.later l1
    have hs5 : w.heap.size + 4 ≤ V1.heap.size := Nat.le_trans hs4 l1.size
    clear d0 d1 d2 d3 d4 d5 d6 d7
    clear K6 l1 HL hs4
    go_wp2_with fail
    refine name1 (Q := fun W => Calls _ _ _ W _) ?_
    intro V2 l2 hs2 k8
    refine (candW_fn V1.heap.size w.heap.size V2).mono ?_
    rintro e V5 ⟨rfl, l5, kt⟩
    obtain ⟨g8, eg8⟩ : ∃ z, V1.heap.size = z := ⟨_, rfl⟩
    obtain ⟨bt, ebt⟩ : ∃ z, V2.heap.size = z := ⟨_, rfl⟩
    rw [eg8] at hs5 hs2 k8 kt ⊢
    rw [ebt] at hs2 kt ⊢
    have l25 := l2.trans l5
    replace k2 := k2.later l25
    replace k3 := k3.later l25
    replace k4 := k4.later l25
    replace k5 := k5.later l25
    replace k8 := k8.later l5
    replace KB := KB.later l25
    replace LW := LW.trans l25
    have hbD := kt.lt
    clear l2 l5 l25 eg8 ebt
    go_wp2_with fail
    rename_i KN2 hKN2
    refine rangeFunc_ret (gf := 82) (lb := #[.pointer (some ⟨bt, 0, none⟩)]) (by rfl) (enters_of Try.func82 (by kernel_rfl) rfl) ?_
    intro fn W1 hW1
    generalize hrec : recOf _ fn _ _ _ _ = rec at hW1 ⊢
    obtain ⟨D, hD⟩ : ∃ z, V5.heap.size = z := ⟨_, rfl⟩
    have hl1 : Lat V5 W1 := by rw [hW1]; exact (Lat.alloc _ _).trans (Lat.alloc _ _)
    have hL1 : W1.heap[V5.heap.size + 1]? = some (.loop (rec .ready none)) := by
      rw [hW1]; have := World.alloc_heap_new (V5.alloc (.deferred (some []))) (.loop (rec .ready none)); rwa [World.size_alloc] at this
    have hK1 : W1.heap[V5.heap.size]? = some (.deferred (some [])) := by
      rw [hW1]; exact (Below.heap_alloc _ _ _ (by simp)).trans (World.alloc_heap_new V5 _)
    clear hW1
    rw [hD] at hL1 hK1 hbD ⊢
    have F1 : WidF w W1 b g8 bt D (.loop (rec .ready none)) k s n W8.zero 0 := ⟨hL1, hK1, ⟨k8.later hl1, k2.later hl1, KB.later hl1, by omega, by omega⟩, k3.later hl1, k4.later hl1, k5.later hl1, kt.later hl1, (LW.trans hl1).p _, hbl, hs5, hs2, hbD⟩
    clear hL1 hK1 hl1 KB k2 k3 k4 k5 k8 kt LW hD
    have hY : YieldsC (D + 1) 200 (fun j W => (∀ i, i < j → ok i = false) ∧ WidF w W b g8 bt D (.loop (rec .ready none)) k (st j) n W8.zero 0)
        (fun j v W => v = .agg #[.int .u64 (W8.of (z j)).a0, .int .u64 (W8.of (z j)).a1, .int .u64 (W8.of (z j)).a2, .int .u64 (W8.of (z j)).a3, .int .u64 (W8.of (z j)).a4, .int .u64 (W8.of (z j)).a5, .int .u64 (W8.of (z j)).a6, .int .u64 (W8.of (z j)).a7] ∧ (∀ i, i < j → ok i = false) ∧ WidF w W b g8 bt D (.loop (rec .ready none)) k (st (j + 1)) n W8.zero 0)
        (fun W => ∃ j, j < 200 ∧ (∀ i, i < j → ok i = false) ∧ ok j = true ∧ WidF w W b g8 bt D (.loop (rec .done (some .ret))) k (st (j + 1)) n (W8.of (z j)) 0) := by
      rintro j v W hj ⟨rfl, hnone, F⟩
      have HC1 := HCH.out j
      have HG1 := HGH.out j
      have hok := HOK.out j
      have hno := HNO.out j
      obtain ⟨x, hx⟩ : ∃ x, W8.of (z j) = x := ⟨_, rfl⟩
      rw [hx] at HC1 HG1
      have q1 := F.l
      rw [← hrec] at q1
      refine round_ret (R := fun bb W' => (bb = true ∧ ((∀ i, i < j + 1 → ok i = false) ∧ WidF w W' b g8 bt D (.loop (rec .ready none)) k (st (j + 1)) n W8.zero 0)) ∨
        (bb = false ∧ ∃ j, j < 200 ∧ (∀ i, i < j → ok i = false) ∧ ok j = true ∧ WidF w W' b g8 bt D (.loop (rec .done (some .ret))) k (st (j + 1)) n (W8.of (z j)) 0)) q1 rfl ?_
      rw [hrec]
      rw [zip_one]
      rw [hx]
      have HX := Lib.hid hx
      clear hx q1 hrec
      refine round_region (fun ⟨_, _, h⟩ => h) rfl ?_
      simp only [List.size_toArray, List.length_cons, List.length_nil, List.foldl_toArray, List.foldl_cons, List.foldl_nil, List.setIfInBounds_toArray, List.set_cons_zero, List.set_cons_succ]
      go_wp2
      have hDl := heap_lt F.l
      have ka := Blk.new W 44 #[.int .u64 x.a0, .int .u64 x.a1, .int .u64 x.a2, .int .u64 x.a3, .int .u64 x.a4, .int .u64 x.a5, .int .u64 x.a6, .int .u64 x.a7]
      have la := Lat.alloc W (.cells #[.int .u64 x.a0, .int .u64 x.a1, .int .u64 x.a2, .int .u64 x.a3, .int .u64 x.a4, .int .u64 x.a5, .int .u64 x.a6, .int .u64 x.a7] 44)
      obtain ⟨ga, hga⟩ : ∃ z, W.heap.size = z := ⟨_, rfl⟩
      obtain ⟨Wa, hWa⟩ : ∃ Wa, W.alloc (.cells #[.int .u64 x.a0, .int .u64 x.a1, .int .u64 x.a2, .int .u64 x.a3, .int .u64 x.a4, .int .u64 x.a5, .int .u64 x.a6, .int .u64 x.a7] 44) = Wa := ⟨_, rfl⟩
      rw [hga] at ka hDl ⊢
      rw [hWa] at ka la ⊢
      have Fa := F.later la
      clear hga hWa la F
      refine ⟨Fa.l, ?_⟩
      have Fb := Fa.put (.loop (rec .busy none))
      have kb := ka.keepP (lat_putObj (o := .loop (rec .busy none)) (heap_lt Fa.l)) (by omega)
      obtain ⟨Wb, hWb⟩ : ∃ Wb, Wa.putObj (D + 1) (.loop (rec .busy none)) = Wb := ⟨_, rfl⟩
      rw [hWb] at Fb kb ⊢
      clear hWb Fa ka
      have ba := Fb.k3
      have HF := Lib.hid Fb
      clear Fb
      have a0 := kb.cell 0
      have a1 := kb.cell 1
      have a2 := kb.cell 2
      have a3 := kb.cell 3
      have a4 := kb.cell 4
      have a5 := kb.cell 5
      have a6 := kb.cell 6
      have a7 := kb.cell 7
      have d0 := ba.cell 0
      have d1 := ba.cell 1
      have d2 := ba.cell 2
      have d3 := ba.cell 3
      have d4 := ba.cell 4
      have d5 := ba.cell 5
      have d6 := ba.cell 6
      have d7 := ba.cell 7
      refine wpIn_block ?_
      refine wpIn_seq ?_
      cases hc : ok j with
      | true =>
        obtain ⟨hc1, hc2⟩ := hok hc
        have hcd : decide (cc j < 0) = true := decide_eq_true (by omega)
        have hsd : decide (0 ≤ sg j) = true := decide_eq_true (by omega)
        have HP := Lib.hid (show j < 200 ∧ (∀ i, i < j → ok i = false) ∧ ok j = true from ⟨hj, hnone, hc⟩)
        obtain ⟨c, hcc⟩ : ∃ c, cc j = c := ⟨_, rfl⟩
        obtain ⟨g, hgg⟩ : ∃ g, sg j = g := ⟨_, rfl⟩
        rw [hcc] at HC1 hc1 hcd
        rw [hgg] at HG1 hc2 hsd
        clear hnone hok hno hc hj hcc hgg
        refine round_region (fun ⟨_, _, h⟩ => h) rfl ?_
        go_wp2_with fail
        refine (HC1 Wb).mono ?_
        rintro e W2 ⟨rfl, l2⟩
        have F2 := Lib.hid (HF.out.later l2)
        have kb2 := kb.later l2
        clear a0 a1 a2 a3 a4 a5 a6 a7
        clear d0 d1 d2 d3 d4 d5 d6 d7
        clear HF ba kb l2
        have a0 := kb2.cell 0
        have a1 := kb2.cell 1
        have a2 := kb2.cell 2
        have a3 := kb2.cell 3
        have a4 := kb2.cell 4
        have a5 := kb2.cell 5
        have a6 := kb2.cell 6
        have a7 := kb2.cell 7
        go_wp2_with fail
        refine (HG1 W2).mono ?_
        rintro e W3 ⟨rfl, l3⟩
        have F3 := Lib.hid (F2.out.later l3)
        have kb3 := kb2.later l3
        clear a0 a1 a2 a3 a4 a5 a6 a7
        clear F2 kb2 l3
        have a0 := kb3.cell 0
        have a1 := kb3.cell 1
        have a2 := kb3.cell 2
        have a3 := kb3.cell 3
        have a4 := kb3.cell 4
        have a5 := kb3.cell 5
        have a6 := kb3.cell 6
        have a7 := kb3.cell 7
        go_wp2
        refine wpIn_cond_true rfl ?_
        refine wpIn_seq ?_
        refine round_region (fun ⟨_, _, h⟩ => h) rfl ?_
        have c4 := F3.out.k4
        have c5 := F3.out.k5
        have d0 := c4.cell 0
        have d1 := c4.cell 1
        have d2 := c4.cell 2
        have d3 := c4.cell 3
        have d4 := c4.cell 4
        have d5 := c4.cell 5
        have d6 := c4.cell 6
        have d7 := c4.cell 7
        have f0 := c4.frozen 0
        have f1 := c4.frozen 1
        have f2 := c4.frozen 2
        have f3 := c4.frozen 3
        have f4 := c4.frozen 4
        have f5 := c4.frozen 5
        have f6 := c4.frozen 6
        have f7 := c4.frozen 7
        have e5 : W3.cell? ⟨w.heap.size + 1 + 1 + 1, 0, none⟩ = some (.int .i64 0) := c5.cell 0
        have f9 := c5.frozen 0
        have h4 := c4.lt
        have h5 := c5.lt
        go_wp2
        refine name_put8e (Q := fun W => Code.wpIn _ _ _ _ _ _ W) c4 c5 (by omega) ?_
        intro W4 j4 j5 l4
        refine wpIn_ret ?_
        have F4 : WidF w W4 b g8 bt D (.loop (rec .busy none)) k (st (j + 1)) n x 0 := F3.out.set l4 j4 j5
        rw [← HX.out] at F4
        exact ⟨F4.l, .inr ⟨rfl, j, HP.out.1, HP.out.2.1, HP.out.2.2, F4.put _⟩⟩
      | false =>
        have hcn := hno hc
        have hcd : decide (cc j < 0) = false := decide_eq_false (by omega)
        have hN : ∀ i, i < j + 1 → ok i = false := fun i hi => by
          rcases Nat.lt_or_ge i j with h | h
          · exact hnone i h
          · obtain rfl : i = j := by omega
            exact hc
        have HN1 := Lib.hid hN
        obtain ⟨c, hcc⟩ : ∃ c, cc j = c := ⟨_, rfl⟩
        rw [hcc] at HC1 hcn hcd
        clear hN hnone hok hno hc hj hcc HG1
        refine round_region (fun ⟨_, _, h⟩ => h) rfl ?_
        go_wp2_with fail
        refine (HC1 Wb).mono ?_
        rintro e W2 ⟨rfl, l2⟩
        have F2 := Lib.hid (HF.out.later l2)
        have kb2 := kb.later l2
        clear a0 a1 a2 a3 a4 a5 a6 a7
        clear d0 d1 d2 d3 d4 d5 d6 d7
        clear HF ba kb l2
        have a0 := kb2.cell 0
        have a1 := kb2.cell 1
        have a2 := kb2.cell 2
        have a3 := kb2.cell 3
        have a4 := kb2.cell 4
        have a5 := kb2.cell 5
        have a6 := kb2.cell 6
        have a7 := kb2.cell 7
        go_wp2
        exact wpIn_cond_false rfl (wpIn_skip ⟨F2.out.l, .inl ⟨rfl, HN1.out, F2.out.put _⟩⟩)
    refine (candW_iter (D + 1) bt g8 w.heap.size _ _ _ (fun j W h => h.2.kt) (fun j W hj h => ?_) hY W1 ⟨fun i h => absurd h (by omega), by rw [H0.out]; exact F1⟩).mono ?_
    · refine (HWH.out j g8 w.heap.size W h.2.F).mono ?_
      rintro e W' ⟨rfl, kb, lp⟩
      exact ⟨_, rfl, rfl, h.1, h.2.step kb lp⟩
    · rintro e W9 ⟨v, rfl, h9⟩
      clear hY F1 HOK HNO HWH HCH HGH H0 hrec
      rcases h9 with ⟨hn, F⟩ | ⟨j, hj, hn, hc, F⟩
      · refine ⟨v, rfl, .inl ⟨F.l, ?_⟩⟩
        have FZ := F.put (.loop (rec .exhausted none))
        obtain ⟨Z, hZ⟩ : ∃ Z, W9.putObj (D + 1) (.loop (rec .exhausted none)) = Z := ⟨_, rfl⟩
        rw [hZ] at FZ ⊢
        clear hZ F
        have c4 := FZ.k4
        have c5 := FZ.k5
        have HF := Lib.hid FZ
        have HN := Lib.hid hn
        clear FZ hn
        have d0 := c4.cell 0
        have d1 := c4.cell 1
        have d2 := c4.cell 2
        have d3 := c4.cell 3
        have d4 := c4.cell 4
        have d5 := c4.cell 5
        have d6 := c4.cell 6
        have d7 := c4.cell 7
        have f0 := c4.frozen 0
        have f1 := c4.frozen 1
        have f2 := c4.frozen 2
        have f3 := c4.frozen 3
        have f4 := c4.frozen 4
        have f5 := c4.frozen 5
        have f6 := c4.frozen 6
        have f7 := c4.frozen 7
        have e5 : Z.cell? ⟨w.heap.size + 1 + 1 + 1, 0, none⟩ = some (.int .i64 0) := c5.cell 0
        have f9 := c5.frozen 0
        have h4 := c4.lt
        have h5 := c5.lt
        refine hKN2 _ _ ?_
        go_wp2
        refine name_put8e (Q := fun W => marksPost _ _ _ _ _ W) c4 c5 (by omega) ?_
        intro Z2 j4 j5 l4
        have F4 : WidF w Z2 b g8 bt D (.loop (rec .exhausted none)) k (st 200) n W8.zero 9 := HF.out.set l4 j4 j5
        obtain ⟨o1, o2, o3, o4⟩ := F4.out
        clear d0 d1 d2 d3 d4 d5 d6 d7
        have e0 := o1.cell 0
        have e1 := o1.cell 1
        have e2 := o1.cell 2
        have e3 := o1.cell 3
        have e4 := o1.cell 4
        have e5 := o1.cell 5
        have e6 := o1.cell 6
        have e7 := o1.cell 7
        refine leave_mark F4.d (v := .tuple #[.agg #[.int .u64 W8.zero.a0, .int .u64 W8.zero.a1, .int .u64 W8.zero.a2, .int .u64 W8.zero.a3, .int .u64 W8.zero.a4, .int .u64 W8.zero.a5, .int .u64 W8.zero.a6, .int .u64 W8.zero.a7], .int .i64 9]) (by simp [results, Try.results33, go_sem, e0, e1, e2, e3, e4, e5, e6, e7, o2, W8.zero]) ?_
        exact .inr ⟨HN.out, rfl, o3, o4⟩
      · refine ⟨v, rfl, .inr ⟨F.l, ?_⟩⟩
        have FZ := F.put (.loop (rec .exhausted (some .ret)))
        obtain ⟨o1, o2, o3, o4⟩ := FZ.out
        have e0 := o1.cell 0
        have e1 := o1.cell 1
        have e2 := o1.cell 2
        have e3 := o1.cell 3
        have e4 := o1.cell 4
        have e5 := o1.cell 5
        have e6 := o1.cell 6
        have e7 := o1.cell 7
        refine leave_mark FZ.d (v := .tuple #[.agg #[.int .u64 (W8.of (z j)).a0, .int .u64 (W8.of (z j)).a1, .int .u64 (W8.of (z j)).a2, .int .u64 (W8.of (z j)).a3, .int .u64 (W8.of (z j)).a4, .int .u64 (W8.of (z j)).a5, .int .u64 (W8.of (z j)).a6, .int .u64 (W8.of (z j)).a7], .int .i64 0]) (by simp [results, Try.results33, go_sem, e0, e1, e2, e3, e4, e5, e6, e7, o2]) ?_
        exact .inl ⟨j, hj, hn, hc, rfl, o3, o4⟩
  clear hKN
  have R1 : ∀ w', Lat W w' → w'.rangeAt (w.heap.size + 1) 0 [.int .u64 n.a0, .int .u64 n.a1, .int .u64 n.a2, .int .u64 n.a3, .int .u64 n.a4, .int .u64 n.a5, .int .u64 n.a6, .int .u64 n.a7] := fun w' hl => Blk.rangeAll (l := [.int .u64 n.a0, .int .u64 n.a1, .int .u64 n.a2, .int .u64 n.a3, .int .u64 n.a4, .int .u64 n.a5, .int .u64 n.a6, .int .u64 n.a7]) (k3.later hl)
  have J26 : (Try.prog.info? 44).map (·.size) = some 8 := by kernel_rfl
  clear k2 k3 k4 k5
  refine wp_region_mem (wz1_rows (w.heap.size + 1) n u o1) (wz1_base (w.heap.size + 1) n u o1 _ _ _ _ _ _ _ _ _ _ _ _ _ _ _ _ _ _ _ _ _ _ _ _ _ _ _ _) wz1_mem 37 9 [[], [], [0, 1, 1], [2], [3], [3], [], [6, 4, 2, 0, 1, 2, 3, 4, 6], [5, 7, 0, 1, 2, 3, 4, 5, 6, 7]] (by kernel_rfl) (by kernel_rfl) (by kernel_rfl) (by kernel_rfl) (by kernel_rfl) (by kernel_rfl) (by kernel_rfl) (by rfl) rfl (base_of (base_cons rfl (base_cons rfl (base_cons rfl (base_cons rfl (base_cons rfl (base_cons rfl (base_cons rfl (base_cons rfl (base_cons rfl (base_cons rfl (base_cons rfl (base_cons rfl (base_cons rfl (base_cons rfl (base_cons rfl (base_cons rfl (base_cons rfl (base_cons rfl (base_cons rfl (base_cons rfl (base_cons rfl (base_cons rfl (base_cons rfl (base_cons rfl (base_cons rfl (base_cons rfl (base_cons rfl (base_cons rfl (base_cons rfl (base_nil _))))))))))))))))))))))))))))))) (wz1_pure (w.heap.size + 1) n u o1) (wz1_allm (w.heap.size + 1) n u o1) (wz1_steps W (w.heap.size + 1) n u o1 _ _ _ _ _ _ _ _ _ _ _ _ _ _ _ _ _ _ _ _ _ _ _ _ _ _ _ _ R1 J26 HO1 HS) ?_
  · intro a9 W9 hsz9 hdf9 hL9 hbs hsl hmm
    obtain ⟨g6, c6, s6, n6, b6, p6, far6⟩ := hmm 0 _ rfl
    obtain ⟨v9, h9, q9⟩ := hsl 4 _ _ rfl rfl
    obtain rfl : v9 = .agg #[.int .u64 u.a0, .int .u64 u.a1, .int .u64 u.a2, .int .u64 u.a3, .int .u64 u.a4, .int .u64 u.a5, .int .u64 u.a6, .int .u64 u.a7] := q9
    obtain rfl := slot_agg p6 h9
    clear h9
    obtain ⟨v9, h9, q9⟩ := hsl 8 _ _ rfl rfl
    obtain rfl : v9 = .int .i64 0 := q9
    have w7 := slot_getD h9
    clear h9
    have w6 := slot_getD s6
    obtain ⟨T9, df9⟩ := a9
    obtain rfl : df9 = [] := hdf9
    obtain ⟨f, hf, rfl⟩ := spell37 T9 hsz9
    have X9 := fun k v h => (hf k).trans (slot_getD (hbs k v h))
    have x7 : f 7 = .int .i64 0 := (hf 7).trans w7
    have x6 : f 6 = .pointer (some ⟨g6, 0, none⟩) := (hf 6).trans w6
    clear hbs hsl hmm hf hsz9 s6 p6 far6 w7 w6
    simp only [X9 3 _ rfl, X9 0 _ rfl, X9 1 _ rfl, X9 2 _ rfl, X9 4 _ rfl, X9 5 _ rfl, X9 8 _ rfl, X9 9 _ rfl, X9 10 _ rfl, X9 17 _ rfl, X9 18 _ rfl, X9 19 _ rfl, X9 20 _ rfl, X9 21 _ rfl, X9 22 _ rfl, X9 23 _ rfl, X9 24 _ rfl, X9 25 _ rfl, X9 26 _ rfl, X9 27 _ rfl, X9 28 _ rfl, X9 29 _ rfl, X9 30 _ rfl, X9 31 _ rfl, X9 32 _ rfl, X9 33 _ rfl, X9 34 _ rfl, X9 35 _ rfl, X9 36 _ rfl, x7, x6]
    clear x7 x6 X9
    exact TAIL g6 _ _ _ _ _ _ W9 hL9 b6
end Go.Proofs.Ytogkkhaepfablaa
