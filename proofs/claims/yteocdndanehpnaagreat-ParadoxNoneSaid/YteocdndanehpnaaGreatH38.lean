/- Several texts in one: Qcl, Off, Sly, InvQ, Qe3, QeP, QeI, Qe4. -/
import Derived.Test.YteocdndanehpnaaGreatH31
import Derived.Test.YteocdndanehpnaaGreatH32
import Derived.Test.YteocdndanehpnaaGreatH27
import Derived.Test.YteocdndanehpnaaGreatH29
import Derived.Test.YteocdndanehpnaaGreatH17
import Derived.Test.YteocdndanehpnaaGreatH26
namespace Go.Proofs.YteocdndanehpnaaGreat
open Go.RowKit
set_option linter.unusedSimpArgs false
set_option linter.unusedVariables false
def clV (p l : Nat → Int) (d n : Int) (i : Nat) : List Value := [.int .i64 (p i), .int .i64 (l i), .int .i64 (i : Int), .int .i64 (p i * d / n)] ++ (shA (p i * d % n) n).toList
theorem clV_one (p l : Nat → Int) (d n : Int) (i : Nat) : ∀ v ∈ clV p l d n i, v.oneCell' = true := by
 intro v hv
 rcases List.mem_append.1 hv with h | h
 ·simp at h
  rcases h with rfl | rfl | rfl | rfl <;> rfl
 ·have := (shA_good (p i * d % n) n).2.1
  rw [Array.all_eq_true'] at this
  exact this v (by simpa using h)
theorem clV_all (p l : Nat → Int) (d n : Int) (i : Nat) : (clV p l d n i).toArray.all (·.oneCell') = true := by
 rw [Array.all_eq_true']
 exact fun v hv => clV_one p l d n i v (by simpa using hv)
theorem claimSize : (Tryz.prog.info? 101).map (·.size) = some 20 := by kernel_rfl
theorem claimSizeX (p l : Nat → Int) (d n : Int) (i : Nat) : Hid ((Tryz.prog.info? 101).map (·.size) = some (clV p l d n i).toArray.size) := Lib.hid claimSize
theorem shSizeX (a b : Int) : Hid ((Tryz.prog.info? 99).map (·.size) = some (shA a b).toList.length) := Lib.hid shareInfo16
def clR (p l : Nat → Int) (d n : Int) (c : List Nat) : List (List Value) := c.map (clV p l d n)
theorem clR_at {p l : Nat → Int} {d n : Int} {c : List Nat} {k i : Nat} (h : c[k]? = some i) : (clR p l d n c)[k]? = some (clV p l d n i) := by
 unfold clR; rw [List.getElem?_map, h]; rfl
theorem clR_mem {p l : Nat → Int} {d n : Int} {c : List Nat} {x : List Value} (h : x ∈ clR p l d n c) : ∃ i ∈ c, x = clV p l d n i := by
 obtain ⟨i, hi, rfl⟩ := List.mem_map.1 h
 exact ⟨i, hi, rfl⟩
theorem clR_len (p l : Nat → Int) (d n : Int) (c : List Nat) : (clR p l d n c).length = c.length := by simp [clR]
set_option maxRecDepth 100000 in
set_option maxHeartbeats 1000000 in
theorem below_gen (X : Array Value) (l wh : Int) (h1 : X[1]? = some (.int .i64 l)) (h3 : X[3]? = some (.int .i64 wh)) (hi : Hid ((Tryz.prog.info? 101).map (·.size) = some X.size)) (w : World) :
  Calls Tryz.prog 47 #[.agg X] w (fun e w' => e = .returned (.bool (decide (wh < l))) ∧ Lat w w') := by
 go_enter Tryz.func47, Tryz.ntmps47
 go_upto_region 1 with (fail)
 refine name1 (Q := fun W => Code.wp _ _ _ _ W) ?_
 intro W hl hs k1
 have d1 := (k1.cell 1).trans h1
 have d3 := (k1.cell 3).trans h3
 clear k1 h1 h3
 go_wp2
 go_ret
 exact ⟨rfl, hl⟩
set_option maxRecDepth 100000 in
set_option maxHeartbeats 1000000 in
theorem end1_gen (X : Array Value) (p : Int) (h0 : X[0]? = some (.int .i64 p)) (hi : Hid ((Tryz.prog.info? 101).map (·.size) = some X.size)) (w : World) :
  Calls Tryz.prog 68 #[.agg X] w (fun e w' => e = .returned (.bool (p == 0)) ∧ Lat w w') := by
 go_enter Tryz.func68, Tryz.ntmps68
 go_upto_region 1 with (fail)
 refine name1 (Q := fun W => Code.wp _ _ _ _ W) ?_
 intro W hl hs k1
 have d1 := (k1.cell 0).trans h0
 clear k1 h0
 go_wp2
 go_ret
 exact ⟨rfl, hl⟩
def noP (x : List Value) : Bool := intOf (x.headD undef) == 0
theorem end1_any (p l : Nat → Int) (d n : Int) (i : Nat) (w : World) :
  Calls Tryz.prog 68 #[.agg (clV p l d n i).toArray] w (fun e w' => e = .returned (.bool (noP (clV p l d n i))) ∧ Lat w w') := end1_gen (clV p l d n i).toArray (p i) rfl (claimSizeX p l d n i) w
theorem clV_share (p l : Nat → Int) (d n : Int) (i : Nat) : ∀ j x, (shA (p i * d % n) n).toList[j]? = some x → (clV p l d n i).toArray[4 + j]? = some x := by
 intro j x h
 unfold clV
 rw [List.getElem?_toArray, List.getElem?_append_right (by simp)]
 simpa using h
set_option maxRecDepth 100000 in
set_option maxHeartbeats 2000000 in
theorem end2_gen (X Y : Array Value) (S T : List Value) (z : Int) (hS : ∀ j x, S[j]? = some x → X[4 + j]? = some x) (hT : ∀ j x, T[j]? = some x → Y[4 + j]? = some x)
  (i1 : Hid ((Tryz.prog.info? 101).map (·.size) = some X.size)) (i2 : Hid ((Tryz.prog.info? 101).map (·.size) = some Y.size))
  (j1 : Hid ((Tryz.prog.info? 99).map (·.size) = some S.length)) (j2 : Hid ((Tryz.prog.info? 99).map (·.size) = some T.length))
  (HC : ∀ w, Calls Tryz.prog 71 #[.agg T.toArray, .agg S.toArray] w (fun e w' => e = .returned (.tuple #[.int .i64 z, .int .i64 0]) ∧ Lat w w')) (w : World) :
  Calls Tryz.prog 70 #[.agg X, .agg Y] w (fun e w' => e = .returned (.int .i64 z) ∧ Lat w w') := by
 go_enter Tryz.func70, Tryz.ntmps70
 go_upto_region 1 with (fail)
 refine name2 (Q := fun W => Code.wp _ _ _ _ W) ?_
 intro W hl hs k1 k2
 have g1 := k1.range (o := 4) S hS
 have g2 := k2.range (o := 4) T hT
 clear k1 k2 hS hT hs
 go_wp2_with (first
  | (refine wpList_load_mid (by rfl) 99 (.tmp 8) (by rfl) (w.heap.size + 1) 4 (by rfl) T _ g2 Tryz.underlying99 rfl j2.out ?_)
  | (refine wpList_load_mid (by rfl) 99 (.tmp 10) (by rfl) w.heap.size 4 (by rfl) S _ g1 Tryz.underlying99 rfl j1.out ?_))
 refine (HC W).mono ?_
 rintro e w1 ⟨rfl, l1⟩
 go_wp2
 go_ret
 exact ⟨rfl, hl.trans l1⟩
def clCmp (R : Nat → Int) (x y : List Value) : Int := sideOf (R (intOf (y.getD 2 undef)).toNat - R (intOf (x.getD 2 undef)).toNat)
theorem side_mul {a k : Int} (hk : 0 < k) : sideOf (a * k) = sideOf a := side_scale hk
theorem end2_any (p l : Nat → Int) (d n : Int) (i j : Nat) (hn : 0 < n) (hn1 : n ≤ 70000000001) (w : World) :
  Calls Tryz.prog 70 #[.agg (clV p l d n i).toArray, .agg (clV p l d n j).toArray] w (fun e w' => e = .returned (.int .i64 (clCmp (fun i => p i * d % n) (clV p l d n i) (clV p l d n j))) ∧ Lat w w') := by
 have hm : ∀ k, 0 ≤ p k * d % n ∧ p k * d % n < n := fun k => ⟨Int.emod_nonneg _ (by omega), Int.emod_lt_of_pos _ hn⟩
 have hf : ∀ k, Fits (p k * d % n) n := fun k => fits_small hn (by omega) (by have := hm k; omega) (by have := hm k; omega)
 refine end2_gen (clV p l d n i).toArray (clV p l d n j).toArray (shA (p i * d % n) n).toList (shA (p j * d % n) n).toList _ (clV_share p l d n i) (clV_share p l d n j) (claimSizeX p l d n i) (claimSizeX p l d n j) (shSizeX _ _) (shSizeX _ _) (fun w => ?_) w
 have h := shCmpX (hf j) (hf i) w
 have e : p j * d % n * n - p i * d % n * n = (p j * d % n - p i * d % n) * n := by rw [Int.sub_mul]
 rw [e, side_mul hn] at h
 exact h
end Go.Proofs.YteocdndanehpnaaGreat
namespace Go.Proofs.YteocdndanehpnaaGreat
open Go.RowKit
set_option linter.unusedSimpArgs false
theorem yv_loadO {P : Program} {S : World → Prop} {a : Act} {ty : TypeId} {x : Operand} {b o : Nat} {cs : List Value} {d : TypeDesc} (hx : a.eval x = .pointer (some ⟨b, o, none⟩)) (hR : ∀ w, S w → w.rangeAt b o cs) (hu : P.underlying ty = some d) (hd : d.isRow = true) (hi : (P.info? ty).map (·.size) = some cs.length) :
  ∀ (op : Oper) (w : World), op.op = .load ty x → S w → (execOp a.eval op).run P w = .ok (.value (.agg cs.toArray)) w := by
 intro op w ho hS
 unfold execOp
 simp only [ho, hx, Instr.loadAt, Instr.sureAddr, Sem.run_bind, Sem.run_pure, Result.andThen_ok, run_loadVar_mid w b o ty cs d (hR w hS) hu hd hi]
end Go.Proofs.YteocdndanehpnaaGreat
namespace Go.Proofs.YteocdndanehpnaaGreat
open Go.RowKit
set_option linter.unusedSimpArgs false
section
variable {P : Program} {S : World → Prop} {a : Act}
theorem yv_move {x : Operand} {v : Value} (hx : a.eval x = v) : ∀ (o : Oper) (w : World), o.op = .move x → S w → (execOp a.eval o).run P w = .ok (.value v) w := by
 intro o w ho _
 unfold execOp
 simp [ho, hx]
theorem yv_assign {x : Operand} {v : Value} {w : World} (hx : a.eval x = v) : ∀ o : Oper, o.op = .assign x → (execOp a.eval o).run P w = .ok (.value v) w := by
 intro o ho
 unfold execOp
 simp [ho, hx]
theorem yv_assignS {x : Operand} {v : Value} (hx : a.eval x = v) : ∀ (o : Oper) (w : World), o.op = .assign x → S w → (execOp a.eval o).run P w = .ok (.value v) w := fun o _ ho _ => yv_assign hx o ho
theorem yv_bin {op : BinOp} {t t2 : TypeId} {x y : Operand} {X Y : Array Value} {V : Value} (hx : a.eval x = .agg X) (hy : a.eval y = .agg Y) (hm : P.eqGuardType P.depth t = false) (hrun : ∀ w, (binOp op t (.agg X) (.agg Y)).run P w = .ok V w) :
  ∀ (o : Oper) (w : World), o.op = .binOp op t x y t2 → S w → (execOp a.eval o).run P w = .ok (.value V) w := by
 intro o w ho _
 unfold execOp
 have hg := run_eqGuard_agg (P := P) w op t x y X Y hm
 simp [ho, hx, hy, hg, hrun w]
theorem yv_call {P : Program} {f : FuncId} {args : Array Operand} {tys : Array TypeId} {vals : Array Value} {w : World} (hf : ∀ vals, (callFunc f vals).run P w = .ok (.enter f vals) w) : ∀ o : Oper, o.op = .call ⟨.value (.func f), args, tys⟩ → args.map a.eval = vals → (execOp a.eval o).run P w = .ok (.enter f vals) w := by
 intro o ho ha
 obtain ⟨d, op, ty, p, af, g⟩ := o
 simp only at ho
 subst ho
 subst ha
 unfold execOp
 go_simp
end
theorem eval_const (a : Act) (v : Value) : a.eval (.const v) = v := rfl
section
variable {P : Program} {o : Oper} {ev : Operand → Value} {w : World} {R : Value → World → Prop}
theorem Runs.val {v : Value} (h : (execOp ev o).run P w = .ok (.value v) w) (k : R v w) : Runs P o ev w R := .inl ⟨v, w, h, k⟩
theorem Runs.new {v : Value} {w' : World} (h : (execOp ev o).run P w = .ok (.value v) w') (k : R v w') : Runs P o ev w R := .inl ⟨v, w', h, k⟩
theorem Runs.call {f : FuncId} {args : Array Value} (h : (execOp ev o).run P w = .ok (.enter f args) w) (k : Calls P f args w (fun e w' => ∃ v, e = .returned v ∧ R v w')) : Runs P o ev w R := .inr ⟨f, args, h, k⟩
end
section
variable {P : Program} {a : Act} {S : World → Prop}
end
theorem spell (n : Nat) (T : Array Value) (h : T.size = n) : T = ((List.range n).map fun k => T.getD k undef).toArray := by
 apply Array.ext
 ·simp [h]
 ·intro i h1 h2
  simp [Array.getD, h1]
theorem slot_getD {a : Act} {d : Tmp} {v : Value} (h : Slot a d v) : a.tmps.getD d undef = v := by
 unfold Slot at h
 rw [Array.getD_eq_getD_getElem?, h]; rfl
def BaseAll (a : Act) : List (Nat × Value) → Prop
 | [] => True
 | p :: r => Slot a p.1 p.2 ∧ BaseAll a r
theorem base_nil (a : Act) : BaseAll a [] := trivial
theorem base_cons {a : Act} {k : Nat} {v : Value} {r : List (Nat × Value)} (h : a.tmps[k]? = some v) (hr : BaseAll a r) : BaseAll a ((k, v) :: r) := ⟨h, hr⟩
theorem base_of {a : Act} {l : List (Nat × Value)} (h : BaseAll a l) : ∀ k v, l.lookup k = some v → Slot a k v := by
 induction l with
 | nil => intro k v hk; cases hk
 | cons p r ih =>
   intro k v hk
   rw [List.lookup_cons] at hk
   by_cases e : k = p.1
   ·rw [e] at hk ⊢
    simp at hk
    rw [← hk]
    exact h.1
   ·have e' : (k == p.1) = false := by simpa using e
    rw [e'] at hk
    exact ih h.2 k v hk
end Go.Proofs.YteocdndanehpnaaGreat
namespace Go.Proofs.YteocdndanehpnaaGreat
open Go.RowKit
set_option linter.unusedSimpArgs false
section
variable {P : Program} {rows : List SRow} {base : List (Nat × Value)} {W0 : World} {rs : List SRow} {op : Op} {dst : Option Tmp} {g : Option (Nat × Bool)} {deps : List Nat} {c x y : Value} {t u : Nat}
def EvIs (rows : List SRow) (base : List (Nat × Value)) (deps : List Nat) (t : Nat) (x : Value) : Prop :=
 base.lookup t = some x ∨ ∃ (j : Nat) (rj : SRow), j ∈ deps ∧ rows[j]? = some rj ∧ rj.dst = some t ∧ ∀ v w, rj.V v w → v = x
theorem eb (t : Nat) (h : base.lookup t = some x := by rfl) : EvIs rows base deps t x := .inl h
theorem ed (j : Nat) {rj : SRow} (h1 : rows[j]? = some rj := by rfl) (h0 : j ∈ deps := by simp) (h2 : rj.dst = some t := by rfl) (h3 : ∀ v w, rj.V v w → v = x := by exact fun _ _ h => h) : EvIs rows base deps t x := .inr ⟨j, rj, h0, h1, h2, h3⟩
def GdOk (rows : List SRow) (g : Option (Nat × Bool)) (deps : List Nat) : Prop := ∀ j b, g = some (j, b) → ∃ rj : SRow, rows[j]? = some rj ∧ (∃ d, rj.dst = some d) ∧ j ∈ deps ∧ ∀ v w, rj.V v w → v = .bool b
theorem gd0 : GdOk rows none deps := fun j b h => by cases h
theorem gd1 {j : Nat} {b : Bool} {rj : SRow} {d : Tmp} (h1 : rows[j]? = some rj) (h2 : rj.dst = some d) (h3 : j ∈ deps) (h4 : ∀ v w, rj.V v w → v = .bool b) : GdOk rows (some (j, b)) deps := fun j' b' h => by cases h; exact ⟨rj, h1, ⟨d, h2⟩, h3, h4⟩
theorem EvIs.get (h : EvIs rows base deps t x) {ev : Operand → Value} {w : World} (hb : ∀ k v, base.lookup k = some v → ev (.tmp k) = v) (hd : ∀ (j : Nat) (rj : SRow) (d : Tmp), j ∈ deps → rows[j]? = some rj → rj.dst = some d → ∃ v, ev (.tmp d) = v ∧ rj.V v w) : ev (.tmp t) = x := by
 rcases h with h | ⟨j, rj, h0, h1, h2, h3⟩
 ·exact hb _ _ h
 ·obtain ⟨v, hv, hV⟩ := hd j rj t h0 h1 h2
  rw [hv]
  exact h3 v w hV
theorem n0 (h4 : AllStepsN P rows base W0 rs) (h : ∀ (ev : Operand → Value) (w : World), Lat W0 w → (∀ v, ev (.const v) = v) → ∀ d ty p af q, (execOp ev ⟨d, op, ty, p, af, q⟩).run P w = .ok (.value c) w)
  (hg : GdOk rows g deps := by first | exact gd0 | exact gd1 rfl rfl (by simp) (fun _ _ h => h)) : AllStepsN P rows base W0 (⟨op, dst, g, deps, fun v _ => v = c⟩ :: rs) :=
 AllStepsN.next (fun _ _ _ h _ => h) hg (fun a w hl _ _ o ho => by
  obtain ⟨d, op', ty, p, af, q⟩ := o
  simp only at ho
  subst ho
  exact Runs.val (h a.eval w hl (fun _ => rfl) d ty p af q) ⟨Lat.refl _, fun _ => rfl⟩) h4
theorem n1 (h4 : AllStepsN P rows base W0 rs) (E : EvIs rows base deps t x) (h : ∀ (ev : Operand → Value) (w : World), Lat W0 w → (∀ v, ev (.const v) = v) → ev (.tmp t) = x → ∀ d ty p af q, (execOp ev ⟨d, op, ty, p, af, q⟩).run P w = .ok (.value c) w)
  (hg : GdOk rows g deps := by first | exact gd0 | exact gd1 rfl rfl (by simp) (fun _ _ h => h)) : AllStepsN P rows base W0 (⟨op, dst, g, deps, fun v _ => v = c⟩ :: rs) :=
 AllStepsN.next (fun _ _ _ h _ => h) hg (fun a w hl hb hd o ho => by
  obtain ⟨d, op', ty, p, af, q⟩ := o
  simp only at ho
  subst ho
  exact Runs.val (h a.eval w hl (fun _ => rfl) (E.get hb hd) d ty p af q) ⟨Lat.refl _, fun _ => rfl⟩) h4
theorem n2 (h4 : AllStepsN P rows base W0 rs) (E : EvIs rows base deps t x) (E2 : EvIs rows base deps u y) (h : ∀ (ev : Operand → Value) (w : World), Lat W0 w → (∀ v, ev (.const v) = v) → ev (.tmp t) = x → ev (.tmp u) = y → ∀ d ty p af q, (execOp ev ⟨d, op, ty, p, af, q⟩).run P w = .ok (.value c) w)
  (hg : GdOk rows g deps := by first | exact gd0 | exact gd1 rfl rfl (by simp) (fun _ _ h => h)) : AllStepsN P rows base W0 (⟨op, dst, g, deps, fun v _ => v = c⟩ :: rs) :=
 AllStepsN.next (fun _ _ _ h _ => h) hg (fun a w hl hb hd o ho => by
  obtain ⟨d, op', ty, p, af, q⟩ := o
  simp only at ho
  subst ho
  exact Runs.val (h a.eval w hl (fun _ => rfl) (E.get hb hd) (E2.get hb hd) d ty p af q) ⟨Lat.refl _, fun _ => rfl⟩) h4
theorem nk {j : Nat} {b : Bool} {rj : SRow} {d : Tmp} (h4 : AllStepsN P rows base W0 rs) (h1 : rows[j]? = some rj := by rfl) (h2 : rj.dst = some d := by rfl) (h3 : j ∈ deps := by simp) (h5 : ∀ v w, rj.V v w → v ≠ .bool b := by (intro v w h; cases h; exact fun e => by cases e)) : AllStepsN P rows base W0 (⟨op, dst, some (j, b), deps, fun v _ => v = undef⟩ :: rs) :=
 AllStepsN.skip (fun _ _ _ h _ => h) ⟨j, b, rj, rfl, h1, ⟨d, h2⟩, h3, h5⟩ (fun _ => rfl) h4
end
theorem base_consL {L : List Value} {df} {k : Nat} {v : Value} {r : List (Nat × Value)} (h : L[k]? = some v) (hr : BaseAll ⟨L.toArray, df⟩ r) : BaseAll ⟨L.toArray, df⟩ ((k, v) :: r) := base_cons (by simpa using h) hr
end Go.Proofs.YteocdndanehpnaaGreat
namespace Go.Proofs.YteocdndanehpnaaGreat
open Go.RowKit
set_option linter.unusedSimpArgs false
set_option linter.unusedVariables false
theorem spell13 (T : Array Value) (h : T.size = 13) : ∃ f : Nat → Value, (∀ k, f k = T.getD k undef) ∧ T = #[f 0, f 1, f 2, f 3, f 4, f 5, f 6, f 7, f 8, f 9, f 10, f 11, f 12] := ⟨fun k => T.getD k undef, fun _ => rfl, (spell 13 T h).trans (by kernel_rfl)⟩
theorem spell116 (T : Array Value) (h : T.size = 116) : ∃ f : Nat → Value, (∀ k, f k = T.getD k undef) ∧ T = #[f 0, f 1, f 2, f 3, f 4, f 5, f 6, f 7, f 8, f 9, f 10, f 11, f 12, f 13, f 14, f 15, f 16, f 17, f 18, f 19, f 20, f 21, f 22, f 23, f 24, f 25, f 26, f 27, f 28, f 29, f 30, f 31, f 32, f 33, f 34, f 35, f 36, f 37, f 38, f 39, f 40, f 41, f 42, f 43, f 44, f 45, f 46, f 47, f 48, f 49, f 50, f 51, f 52, f 53, f 54, f 55, f 56, f 57, f 58, f 59, f 60, f 61, f 62, f 63, f 64, f 65, f 66, f 67, f 68, f 69, f 70, f 71, f 72, f 73, f 74, f 75, f 76, f 77, f 78, f 79, f 80, f 81, f 82, f 83, f 84, f 85, f 86, f 87, f 88, f 89, f 90, f 91, f 92, f 93, f 94, f 95, f 96, f 97, f 98, f 99, f 100, f 101, f 102, f 103, f 104, f 105, f 106, f 107, f 108, f 109, f 110, f 111, f 112, f 113, f 114, f 115] := ⟨fun k => T.getD k undef, fun _ => rfl, (spell 116 T h).trans (by kernel_rfl)⟩
noncomputable def qe3_rows (g3 b1 b2 gC n c k : Nat) (S T : List Value) (b : Bool) : List SRow := [
 ⟨Op.fieldAddr 101 (Operand.tmp 3) 3, some 5, none, [], fun v _ => v = .pointer (some ⟨g3, 4, none⟩)⟩,
 ⟨Op.load 99 (Operand.tmp 5), some 6, none, [0], fun v _ => v = .agg S.toArray⟩,
 ⟨Op.load 91 (Operand.tmp 1), some 7, none, [], fun v _ => v = .slice (some ⟨gC, 0, none⟩) n c⟩,
 ⟨Op.load 3 (Operand.tmp 2), some 8, none, [], fun v _ => v = .int .i64 (k : Nat)⟩,
 ⟨Op.indexAddr 91 (Operand.tmp 7) (Operand.tmp 8), some 9, none, [2, 3], fun v _ => v = .pointer (some ⟨gC, k * 20, none⟩)⟩,
 ⟨Op.fieldAddr 101 (Operand.tmp 9) 3, some 10, none, [4], fun v _ => v = .pointer (some ⟨gC, k * 20 + 4, none⟩)⟩,
 ⟨Op.load 99 (Operand.tmp 10), some 11, none, [5], fun v _ => v = .agg T.toArray⟩,
 ⟨Op.binOp BinOp.eql 99 (Operand.tmp 6) (Operand.tmp 11) 99, some 12, none, [1, 6], fun v _ => v = .bool b⟩,
 ⟨Op.assign (Operand.tmp 12), some 4, none, [7, 0, 1, 2, 3, 4, 5, 6, 7], fun v _ => v = .bool b⟩]
noncomputable def qe3_base (g3 b1 b2 gC n c k : Nat) (S T : List Value) (b : Bool) : List (Nat × Value) := [(1, .pointer (some ⟨b1, 0, none⟩)), (2, .pointer (some ⟨b2, 0, none⟩)), (3, .pointer (some ⟨g3, 0, none⟩))]
set_option maxRecDepth 100000 in
set_option maxHeartbeats 4000000 in
theorem qe3_steps (V : World) (g3 b1 b2 gC n c k : Nat) (S T : List Value) (b : Bool) (R1 : ∀ w', Lat V w' → w'.cell? ⟨b1, 0, none⟩ = some (.slice (some ⟨gC, 0, none⟩) n c)) (R2 : ∀ w', Lat V w' → w'.cell? ⟨b2, 0, none⟩ = some (.int .i64 (k : Nat))) (RS : ∀ w', Lat V w' → w'.rangeAt g3 4 S) (RT : ∀ w', Lat V w' → w'.rangeAt gC (k * 20 + 4) T)
  (hk0 : (0 : Int) ≤ (k : Int)) (hkn : (k : Int) < (n : Int)) (JS : (Tryz.prog.info? 99).map (·.size) = some S.length) (JT : (Tryz.prog.info? 99).map (·.size) = some T.length)
  (HG : Hid (Tryz.prog.eqGuardType Tryz.prog.depth 99 = false)) (HB : Hid (∀ w, (binOp .eql 99 (.agg S.toArray) (.agg T.toArray)).run Tryz.prog w = .ok (.bool b) w)) :
  AllStepsN Tryz.prog (qe3_rows g3 b1 b2 gC n c k S T b) (qe3_base g3 b1 b2 gC n c k S T b) V (qe3_rows g3 b1 b2 gC n c k S T b) := by
 refine n1 ?_ (eb 3) (fun ev w hl ec e1 d ty p af g => ?_)
 refine AllStepsN.next (fun _ _ _ h _ => h) (fun j b h => by cases h) (fun a w hl hb hd o ho => by obtain ⟨v1, e1, q1⟩ := hd 0 _ _ (by simp) rfl rfl; subst q1; exact Runs.val (yv_loadO (S := Lat V) e1 RS Tryz.underlying99 rfl JS o w ho hl) ⟨Lat.refl _, fun _ => rfl⟩) ?_
 refine n1 ?_ (eb 1) (fun ev w hl ec e1 d ty p af g => by unfold execOp; simp only [e1, ec]; have hc := R1 w hl; go_simp)
 refine n1 ?_ (eb 2) (fun ev w hl ec e1 d ty p af g => by unfold execOp; simp only [e1, ec]; have hc := R2 w hl; go_simp)
 refine n2 ?_ (ed 2) (ed 3) (fun ev w hl ec e1 e2 d ty p af g => by unfold execOp; simp only [e1, e2, ec]; have h0 := hk0; have h1 := hkn; have hq := claimSize; go_simp)
 refine n1 ?_ (ed 4) (fun ev w hl ec e1 d ty p af g => ?_)
 refine AllStepsN.next (fun _ _ _ h _ => h) (fun j b h => by cases h) (fun a w hl hb hd o ho => by obtain ⟨v1, e1, q1⟩ := hd 5 _ _ (by simp) rfl rfl; subst q1; exact Runs.val (yv_loadO (S := Lat V) e1 RT Tryz.underlying99 rfl JT o w ho hl) ⟨Lat.refl _, fun _ => rfl⟩) ?_
 refine AllStepsN.next (fun _ _ _ h _ => h) (fun j b h => by cases h) (fun a w hl hb hd o ho => by obtain ⟨v1, e1, q1⟩ := hd 1 _ _ (by simp) rfl rfl; obtain ⟨v2, e2, q2⟩ := hd 6 _ _ (by simp) rfl rfl; subst q1; subst q2; exact Runs.val (yv_bin (S := fun _ => True) e1 e2 HG.out HB.out o w ho trivial) ⟨Lat.refl _, fun _ => rfl⟩) ?_
 refine AllStepsN.next (fun _ _ _ h _ => h) (fun j b h => by cases h) (fun a w hl hb hd o ho => by obtain ⟨v1, e1, q1⟩ := hd 7 _ _ (by simp) rfl rfl; subst q1; exact Runs.val (yv_assignS (S := fun _ => True) e1 o w ho trivial) ⟨Lat.refl _, fun _ => rfl⟩) ?_
 ·exact AllStepsN.none
 all_goals (unfold execOp; first | simp only [e1, e2, ec] | simp only [e1, ec] | simp only [ec])
 all_goals go_simp
set_option maxRecDepth 100000 in
set_option maxHeartbeats 4000000 in
theorem end3_gen (X : Array Value) (b1 b2 gC n c k : Nat) (S T : List Value) (b : Bool) (W0 w : World) (R1 : ∀ w', Lat W0 w' → w'.cell? ⟨b1, 0, none⟩ = some (.slice (some ⟨gC, 0, none⟩) n c)) (R2 : ∀ w', Lat W0 w' → w'.cell? ⟨b2, 0, none⟩ = some (.int .i64 (k : Nat)))
  (hS : ∀ j x, S[j]? = some x → X[4 + j]? = some x) (RT : ∀ w', Lat W0 w' → w'.rangeAt gC (k * 20 + 4) T) (hk0 : (0 : Int) ≤ (k : Int)) (hkn : (k : Int) < (n : Int))
  (i1 : Hid ((Tryz.prog.info? 101).map (·.size) = some X.size)) (JS : (Tryz.prog.info? 99).map (·.size) = some S.length) (JT : (Tryz.prog.info? 99).map (·.size) = some T.length)
  (HB : Hid (∀ w, (binOp .eql 99 (.agg S.toArray) (.agg T.toArray)).run Tryz.prog w = .ok (.bool b) w)) (hw : Lat W0 w) :
  Calls Tryz.prog 72 #[.agg X, .pointer (some ⟨b1, 0, none⟩), .pointer (some ⟨b2, 0, none⟩)] w (fun e w' => e = .returned (.bool b) ∧ Lat w w') := by
 have HG : Hid (Tryz.prog.eqGuardType Tryz.prog.depth 99 = false) := Lib.hid (by kernel_rfl)
 go_enter Tryz.func72, Tryz.ntmps72
 go_upto_region 1 with (fail)
 refine name1 (Q := fun W => Code.wp _ _ _ _ W) ?_
 intro V hlw hsz k3
 obtain ⟨g3, hg3⟩ : ∃ z, w.heap.size = z := ⟨_, rfl⟩
 rw [hg3] at k3 ⊢
 have RS : ∀ w', Lat V w' → w'.rangeAt g3 4 S := fun w' hl => (k3.later hl).range (o := 4) S hS
 have HV := hw.trans hlw
 replace R1 : ∀ w', Lat V w' → w'.cell? ⟨b1, 0, none⟩ = some (.slice (some ⟨gC, 0, none⟩) n c) := fun w' hl => R1 w' (HV.trans hl)
 replace R2 : ∀ w', Lat V w' → w'.cell? ⟨b2, 0, none⟩ = some (.int .i64 (k : Nat)) := fun w' hl => R2 w' (HV.trans hl)
 replace RT : ∀ w', Lat V w' → w'.rangeAt gC (k * 20 + 4) T := fun w' hl => RT w' (HV.trans hl)
 clear k3 hS hg3 hsz i1 HV hw
 go_upto_region 1 with (fail)
 rename_i KN hKN
 refine wp_region_slotsN (qe3_rows g3 b1 b2 gC n c k S T b) (qe3_base g3 b1 b2 gC n c k S T b) 13 9 [[], [0], [], [], [2, 3], [4], [5], [1, 6], [7, 0, 1, 2, 3, 4, 5, 6, 7]] (by kernel_rfl) (by kernel_rfl) (by kernel_rfl) (by kernel_rfl) (by kernel_rfl) (by kernel_rfl) (by rfl) rfl (base_of (by repeat (first | exact base_nil _ | refine base_consL rfl ?_))) (qe3_steps V g3 b1 b2 gC n c k S T b R1 R2 RS RT hk0 hkn JS JT HG HB) ?_
 ·intro a9 W9 hsz9 hdf9 hL9 hbs hsl
  obtain ⟨v9, h9, q9⟩ := hsl 8 _ _ rfl rfl
  obtain rfl : v9 = .bool b := q9
  have w4 := slot_getD h9
  clear h9
  refine hKN _ _ ?_
  obtain ⟨T9, df9⟩ := a9
  obtain rfl : df9 = [] := hdf9
  obtain ⟨f, hf, rfl⟩ := spell13 T9 hsz9
  have Y := fun k {v} h => (hf k).trans (slot_getD (hbs k v h))
  have x4 := (hf 4).trans w4
  clear hbs hsl hf hsz9 hKN w4
  simp only [Y 1 rfl, Y 2 rfl, Y 3 rfl, x4]
  clear x4 Y
  go_wp2
  go_ret
  exact ⟨rfl, hlw.trans hL9⟩
noncomputable def qrz_rows (b4 b5 gC n c k : Nat) (S T : List Value) (b : Bool) : List SRow := [
 ⟨Op.load 3 (Operand.tmp 5), some 48, none, [], fun v _ => v = .int .i64 (k : Nat)⟩,
 ⟨Op.binOp BinOp.gtr 3 (Operand.tmp 48) (Operand.const (Value.int IntKind.i64 0)) 3, some 49, none, [0], fun v _ => v = .bool false⟩,
 ⟨Op.move (Operand.tmp 49), some 50, none, [1], fun v _ => v = .bool false⟩,
 ⟨Op.load 3 (Operand.tmp 5), some 51, some (2, true), [2], fun v _ => v = undef⟩,
 ⟨Op.load 91 (Operand.tmp 4), some 52, some (2, true), [2], fun v _ => v = undef⟩,
 ⟨Op.call { callee := Callee.builtin Builtin.len, args := #[Operand.tmp 52], argTypes := #[91] }, some 53, some (2, true), [4, 2], fun v _ => v = undef⟩,
 ⟨Op.binOp BinOp.lss 3 (Operand.tmp 51) (Operand.tmp 53) 3, some 54, some (2, true), [3, 5, 2], fun v _ => v = undef⟩,
 ⟨Op.pick (Operand.tmp 50) (Operand.tmp 54) (Operand.const (Value.bool false)), some 55, none, [2, 6], fun v _ => v = .bool false⟩,
 ⟨Op.move (Operand.tmp 55), some 56, none, [7, 2], fun v _ => v = .bool false⟩,
 ⟨Op.load 91 (Operand.tmp 4), some 57, some (8, true), [8], fun v _ => v = undef⟩,
 ⟨Op.load 3 (Operand.tmp 5), some 58, some (8, true), [8], fun v _ => v = undef⟩,
 ⟨Op.indexAddr 91 (Operand.tmp 57) (Operand.tmp 58), some 59, some (8, true), [9, 10, 8], fun v _ => v = undef⟩,
 ⟨Op.fieldAddr 101 (Operand.tmp 59) 3, some 60, some (8, true), [11, 8], fun v _ => v = undef⟩,
 ⟨Op.load 99 (Operand.tmp 60), some 61, some (8, true), [12, 8], fun v _ => v = undef⟩,
 ⟨Op.load 91 (Operand.tmp 4), some 62, some (8, true), [8], fun v _ => v = undef⟩,
 ⟨Op.load 3 (Operand.tmp 5), some 63, some (8, true), [8], fun v _ => v = undef⟩,
 ⟨Op.binOp BinOp.sub 3 (Operand.tmp 63) (Operand.const (Value.int IntKind.i64 1)) 3, some 64, some (8, true), [15, 8], fun v _ => v = undef⟩,
 ⟨Op.indexAddr 91 (Operand.tmp 62) (Operand.tmp 64), some 65, some (8, true), [14, 16, 8], fun v _ => v = undef⟩,
 ⟨Op.fieldAddr 101 (Operand.tmp 65) 3, some 66, some (8, true), [17, 8], fun v _ => v = undef⟩,
 ⟨Op.load 99 (Operand.tmp 66), some 67, some (8, true), [18, 8], fun v _ => v = undef⟩,
 ⟨Op.binOp BinOp.eql 99 (Operand.tmp 61) (Operand.tmp 67) 99, some 68, some (8, true), [13, 19, 8], fun v _ => v = undef⟩,
 ⟨Op.pick (Operand.tmp 56) (Operand.tmp 68) (Operand.const (Value.bool false)), some 69, none, [8, 20], fun v _ => v = .bool false⟩]
noncomputable def qrz_base (b4 b5 gC n c k : Nat) (S T : List Value) (b : Bool) (v0 v1 v2 v3 v6 v7 v8 v9 v10 v11 v12 v13 v14 v15 v16 v17 v18 v19 v20 v21 v22 v23 v24 v25 v26 v27 v28 v29 v30 v31 v32 v33 v34 v35 v36 v37 v38 v39 v40 v41 v42 v43 v44 v45 v46 v47 v70 v71 v72 v73 v74 v75 v76 v77 v78 v79 v80 v81 v82 v83 v84 v85 v86 v87 v88 v89 v90 v91 v92 v93 v94 v95 v96 v97 v98 v99 v100 v101 v102 v103 v104 v105 v106 v107 v108 v109 v110 v111 v112 v113 v114 v115 : Value) : List (Nat × Value) := [(4, .pointer (some ⟨b4, 0, none⟩)), (5, .pointer (some ⟨b5, 0, none⟩)), (0, v0), (1, v1), (2, v2), (3, v3), (6, v6), (7, v7), (8, v8), (9, v9), (10, v10), (11, v11), (12, v12), (13, v13), (14, v14), (15, v15), (16, v16), (17, v17), (18, v18), (19, v19), (20, v20), (21, v21), (22, v22), (23, v23), (24, v24), (25, v25), (26, v26), (27, v27), (28, v28), (29, v29), (30, v30), (31, v31), (32, v32), (33, v33), (34, v34), (35, v35), (36, v36), (37, v37), (38, v38), (39, v39), (40, v40), (41, v41), (42, v42), (43, v43), (44, v44), (45, v45), (46, v46), (47, v47), (70, v70), (71, v71), (72, v72), (73, v73), (74, v74), (75, v75), (76, v76), (77, v77), (78, v78), (79, v79), (80, v80), (81, v81), (82, v82), (83, v83), (84, v84), (85, v85), (86, v86), (87, v87), (88, v88), (89, v89), (90, v90), (91, v91), (92, v92), (93, v93), (94, v94), (95, v95), (96, v96), (97, v97), (98, v98), (99, v99), (100, v100), (101, v101), (102, v102), (103, v103), (104, v104), (105, v105), (106, v106), (107, v107), (108, v108), (109, v109), (110, v110), (111, v111), (112, v112), (113, v113), (114, v114), (115, v115)]
set_option maxRecDepth 100000 in
set_option maxHeartbeats 4000000 in
theorem qrz_steps (V : World) (b4 b5 gC n c k : Nat) (S T : List Value) (b : Bool) (v0 v1 v2 v3 v6 v7 v8 v9 v10 v11 v12 v13 v14 v15 v16 v17 v18 v19 v20 v21 v22 v23 v24 v25 v26 v27 v28 v29 v30 v31 v32 v33 v34 v35 v36 v37 v38 v39 v40 v41 v42 v43 v44 v45 v46 v47 v70 v71 v72 v73 v74 v75 v76 v77 v78 v79 v80 v81 v82 v83 v84 v85 v86 v87 v88 v89 v90 v91 v92 v93 v94 v95 v96 v97 v98 v99 v100 v101 v102 v103 v104 v105 v106 v107 v108 v109 v110 v111 v112 v113 v114 v115 : Value) (R4 : ∀ w', Lat V w' → w'.cell? ⟨b4, 0, none⟩ = some (.slice (some ⟨gC, 0, none⟩) n c)) (R5 : ∀ w', Lat V w' → w'.cell? ⟨b5, 0, none⟩ = some (.int .i64 (k : Nat))) (hk : ¬ (0 : Int) < (k : Int)) :
  AllStepsN Tryz.prog (qrz_rows b4 b5 gC n c k S T b) (qrz_base b4 b5 gC n c k S T b v0 v1 v2 v3 v6 v7 v8 v9 v10 v11 v12 v13 v14 v15 v16 v17 v18 v19 v20 v21 v22 v23 v24 v25 v26 v27 v28 v29 v30 v31 v32 v33 v34 v35 v36 v37 v38 v39 v40 v41 v42 v43 v44 v45 v46 v47 v70 v71 v72 v73 v74 v75 v76 v77 v78 v79 v80 v81 v82 v83 v84 v85 v86 v87 v88 v89 v90 v91 v92 v93 v94 v95 v96 v97 v98 v99 v100 v101 v102 v103 v104 v105 v106 v107 v108 v109 v110 v111 v112 v113 v114 v115) V (qrz_rows b4 b5 gC n c k S T b) := by
 refine n1 ?_ (eb 5) (fun ev w hl ec e1 d ty p af g => by unfold execOp; simp only [e1, ec]; have hc := R5 w hl; go_simp)
 refine AllStepsN.next (fun _ _ _ h _ => h) (fun j b h => by cases h) (fun a w hl hb hd o ho => by obtain ⟨v1, e1, q1⟩ := hd 0 _ _ (by simp) rfl rfl; subst q1; obtain ⟨d, op, ty, p, af, g⟩ := o; simp only at ho; subst ho; have ec : ∀ v, a.eval (.const v) = v := fun _ => rfl; exact Runs.val (by unfold execOp; generalize a.eval = ev at e1 ec ⊢; simp only [e1, ec]; have h0 := hk; go_simp; omega) ⟨Lat.refl _, fun _ => rfl⟩) ?_
 refine AllStepsN.next (fun _ _ _ h _ => h) (fun j b h => by cases h) (fun a w hl hb hd o ho => by obtain ⟨v1, e1, q1⟩ := hd 1 _ _ (by simp) rfl rfl; subst q1; exact Runs.val (yv_move (S := fun _ => True) e1 o w ho trivial) ⟨Lat.refl _, fun _ => rfl⟩) ?_
 refine nk ?_
 refine nk ?_
 refine nk ?_
 refine nk ?_
 refine n1 ?_ (ed 2) (fun ev w hl ec e1 d ty p af g => ?_)
 refine AllStepsN.next (fun _ _ _ h _ => h) (fun j b h => by cases h) (fun a w hl hb hd o ho => by obtain ⟨v1, e1, q1⟩ := hd 7 _ _ (by simp) rfl rfl; subst q1; exact Runs.val (yv_move (S := fun _ => True) e1 o w ho trivial) ⟨Lat.refl _, fun _ => rfl⟩) ?_
 refine nk ?_
 refine nk ?_
 refine nk ?_
 refine nk ?_
 refine nk ?_
 refine nk ?_
 refine nk ?_
 refine nk ?_
 refine nk ?_
 refine nk ?_
 refine nk ?_
 refine nk ?_
 refine n1 ?_ (ed 8) (fun ev w hl ec e1 d ty p af g => ?_)
 ·exact AllStepsN.none
 all_goals (unfold execOp; first | simp only [e1, e2, ec] | simp only [e1, ec] | simp only [ec])
 all_goals go_simp
noncomputable def qrn_rows (b4 b5 gC n c k : Nat) (S T : List Value) (b : Bool) : List SRow := [
 ⟨Op.load 3 (Operand.tmp 5), some 48, none, [], fun v _ => v = .int .i64 (k : Nat)⟩,
 ⟨Op.binOp BinOp.gtr 3 (Operand.tmp 48) (Operand.const (Value.int IntKind.i64 0)) 3, some 49, none, [0], fun v _ => v = .bool true⟩,
 ⟨Op.move (Operand.tmp 49), some 50, none, [1], fun v _ => v = .bool true⟩,
 ⟨Op.load 3 (Operand.tmp 5), some 51, some (2, true), [2], fun v _ => v = .int .i64 (k : Nat)⟩,
 ⟨Op.load 91 (Operand.tmp 4), some 52, some (2, true), [2], fun v _ => v = .slice (some ⟨gC, 0, none⟩) n c⟩,
 ⟨Op.call { callee := Callee.builtin Builtin.len, args := #[Operand.tmp 52], argTypes := #[91] }, some 53, some (2, true), [4, 2], fun v _ => v = .int .i64 (n : Nat)⟩,
 ⟨Op.binOp BinOp.lss 3 (Operand.tmp 51) (Operand.tmp 53) 3, some 54, some (2, true), [3, 5, 2], fun v _ => v = .bool false⟩,
 ⟨Op.pick (Operand.tmp 50) (Operand.tmp 54) (Operand.const (Value.bool false)), some 55, none, [2, 6], fun v _ => v = .bool false⟩,
 ⟨Op.move (Operand.tmp 55), some 56, none, [7, 2], fun v _ => v = .bool false⟩,
 ⟨Op.load 91 (Operand.tmp 4), some 57, some (8, true), [8], fun v _ => v = undef⟩,
 ⟨Op.load 3 (Operand.tmp 5), some 58, some (8, true), [8], fun v _ => v = undef⟩,
 ⟨Op.indexAddr 91 (Operand.tmp 57) (Operand.tmp 58), some 59, some (8, true), [9, 10, 8], fun v _ => v = undef⟩,
 ⟨Op.fieldAddr 101 (Operand.tmp 59) 3, some 60, some (8, true), [11, 8], fun v _ => v = undef⟩,
 ⟨Op.load 99 (Operand.tmp 60), some 61, some (8, true), [12, 8], fun v _ => v = undef⟩,
 ⟨Op.load 91 (Operand.tmp 4), some 62, some (8, true), [8], fun v _ => v = undef⟩,
 ⟨Op.load 3 (Operand.tmp 5), some 63, some (8, true), [8], fun v _ => v = undef⟩,
 ⟨Op.binOp BinOp.sub 3 (Operand.tmp 63) (Operand.const (Value.int IntKind.i64 1)) 3, some 64, some (8, true), [15, 8], fun v _ => v = undef⟩,
 ⟨Op.indexAddr 91 (Operand.tmp 62) (Operand.tmp 64), some 65, some (8, true), [14, 16, 8], fun v _ => v = undef⟩,
 ⟨Op.fieldAddr 101 (Operand.tmp 65) 3, some 66, some (8, true), [17, 8], fun v _ => v = undef⟩,
 ⟨Op.load 99 (Operand.tmp 66), some 67, some (8, true), [18, 8], fun v _ => v = undef⟩,
 ⟨Op.binOp BinOp.eql 99 (Operand.tmp 61) (Operand.tmp 67) 99, some 68, some (8, true), [13, 19, 8], fun v _ => v = undef⟩,
 ⟨Op.pick (Operand.tmp 56) (Operand.tmp 68) (Operand.const (Value.bool false)), some 69, none, [8, 20], fun v _ => v = .bool false⟩]
noncomputable def qrn_base (b4 b5 gC n c k : Nat) (S T : List Value) (b : Bool) (v0 v1 v2 v3 v6 v7 v8 v9 v10 v11 v12 v13 v14 v15 v16 v17 v18 v19 v20 v21 v22 v23 v24 v25 v26 v27 v28 v29 v30 v31 v32 v33 v34 v35 v36 v37 v38 v39 v40 v41 v42 v43 v44 v45 v46 v47 v70 v71 v72 v73 v74 v75 v76 v77 v78 v79 v80 v81 v82 v83 v84 v85 v86 v87 v88 v89 v90 v91 v92 v93 v94 v95 v96 v97 v98 v99 v100 v101 v102 v103 v104 v105 v106 v107 v108 v109 v110 v111 v112 v113 v114 v115 : Value) : List (Nat × Value) := [(4, .pointer (some ⟨b4, 0, none⟩)), (5, .pointer (some ⟨b5, 0, none⟩)), (0, v0), (1, v1), (2, v2), (3, v3), (6, v6), (7, v7), (8, v8), (9, v9), (10, v10), (11, v11), (12, v12), (13, v13), (14, v14), (15, v15), (16, v16), (17, v17), (18, v18), (19, v19), (20, v20), (21, v21), (22, v22), (23, v23), (24, v24), (25, v25), (26, v26), (27, v27), (28, v28), (29, v29), (30, v30), (31, v31), (32, v32), (33, v33), (34, v34), (35, v35), (36, v36), (37, v37), (38, v38), (39, v39), (40, v40), (41, v41), (42, v42), (43, v43), (44, v44), (45, v45), (46, v46), (47, v47), (70, v70), (71, v71), (72, v72), (73, v73), (74, v74), (75, v75), (76, v76), (77, v77), (78, v78), (79, v79), (80, v80), (81, v81), (82, v82), (83, v83), (84, v84), (85, v85), (86, v86), (87, v87), (88, v88), (89, v89), (90, v90), (91, v91), (92, v92), (93, v93), (94, v94), (95, v95), (96, v96), (97, v97), (98, v98), (99, v99), (100, v100), (101, v101), (102, v102), (103, v103), (104, v104), (105, v105), (106, v106), (107, v107), (108, v108), (109, v109), (110, v110), (111, v111), (112, v112), (113, v113), (114, v114), (115, v115)]
set_option maxRecDepth 100000 in
set_option maxHeartbeats 4000000 in
theorem qrn_steps (V : World) (b4 b5 gC n c k : Nat) (S T : List Value) (b : Bool) (v0 v1 v2 v3 v6 v7 v8 v9 v10 v11 v12 v13 v14 v15 v16 v17 v18 v19 v20 v21 v22 v23 v24 v25 v26 v27 v28 v29 v30 v31 v32 v33 v34 v35 v36 v37 v38 v39 v40 v41 v42 v43 v44 v45 v46 v47 v70 v71 v72 v73 v74 v75 v76 v77 v78 v79 v80 v81 v82 v83 v84 v85 v86 v87 v88 v89 v90 v91 v92 v93 v94 v95 v96 v97 v98 v99 v100 v101 v102 v103 v104 v105 v106 v107 v108 v109 v110 v111 v112 v113 v114 v115 : Value) (R4 : ∀ w', Lat V w' → w'.cell? ⟨b4, 0, none⟩ = some (.slice (some ⟨gC, 0, none⟩) n c)) (R5 : ∀ w', Lat V w' → w'.cell? ⟨b5, 0, none⟩ = some (.int .i64 (k : Nat))) (hk : (0 : Int) < (k : Int)) (hkn : ¬ (k : Int) < (n : Int)) :
  AllStepsN Tryz.prog (qrn_rows b4 b5 gC n c k S T b) (qrn_base b4 b5 gC n c k S T b v0 v1 v2 v3 v6 v7 v8 v9 v10 v11 v12 v13 v14 v15 v16 v17 v18 v19 v20 v21 v22 v23 v24 v25 v26 v27 v28 v29 v30 v31 v32 v33 v34 v35 v36 v37 v38 v39 v40 v41 v42 v43 v44 v45 v46 v47 v70 v71 v72 v73 v74 v75 v76 v77 v78 v79 v80 v81 v82 v83 v84 v85 v86 v87 v88 v89 v90 v91 v92 v93 v94 v95 v96 v97 v98 v99 v100 v101 v102 v103 v104 v105 v106 v107 v108 v109 v110 v111 v112 v113 v114 v115) V (qrn_rows b4 b5 gC n c k S T b) := by
 refine n1 ?_ (eb 5) (fun ev w hl ec e1 d ty p af g => by unfold execOp; simp only [e1, ec]; have hc := R5 w hl; go_simp)
 refine AllStepsN.next (fun _ _ _ h _ => h) (fun j b h => by cases h) (fun a w hl hb hd o ho => by obtain ⟨v1, e1, q1⟩ := hd 0 _ _ (by simp) rfl rfl; subst q1; obtain ⟨d, op, ty, p, af, g⟩ := o; simp only at ho; subst ho; have ec : ∀ v, a.eval (.const v) = v := fun _ => rfl; exact Runs.val (by unfold execOp; generalize a.eval = ev at e1 ec ⊢; simp only [e1, ec]; have h0 := hk; go_simp; omega) ⟨Lat.refl _, fun _ => rfl⟩) ?_
 refine AllStepsN.next (fun _ _ _ h _ => h) (fun j b h => by cases h) (fun a w hl hb hd o ho => by obtain ⟨v1, e1, q1⟩ := hd 1 _ _ (by simp) rfl rfl; subst q1; exact Runs.val (yv_move (S := fun _ => True) e1 o w ho trivial) ⟨Lat.refl _, fun _ => rfl⟩) ?_
 refine n1 ?_ (eb 5) (fun ev w hl ec e1 d ty p af g => by unfold execOp; simp only [e1, ec]; have hc := R5 w hl; go_simp)
 refine n1 ?_ (eb 4) (fun ev w hl ec e1 d ty p af g => by unfold execOp; simp only [e1, ec]; have hc := R4 w hl; go_simp)
 refine n1 ?_ (ed 4) (fun ev w hl ec e1 d ty p af g => ?_)
 refine n2 ?_ (ed 3) (ed 5) (fun ev w hl ec e1 e2 d ty p af g => by unfold execOp; simp only [e1, e2, ec]; have h0 := hkn; go_simp)
 refine n2 ?_ (ed 2) (ed 6) (fun ev w hl ec e1 e2 d ty p af g => ?_)
 refine AllStepsN.next (fun _ _ _ h _ => h) (fun j b h => by cases h) (fun a w hl hb hd o ho => by obtain ⟨v1, e1, q1⟩ := hd 7 _ _ (by simp) rfl rfl; subst q1; exact Runs.val (yv_move (S := fun _ => True) e1 o w ho trivial) ⟨Lat.refl _, fun _ => rfl⟩) ?_
 refine nk ?_
 refine nk ?_
 refine nk ?_
 refine nk ?_
 refine nk ?_
 refine nk ?_
 refine nk ?_
 refine nk ?_
 refine nk ?_
 refine nk ?_
 refine nk ?_
 refine nk ?_
 refine n1 ?_ (ed 8) (fun ev w hl ec e1 d ty p af g => ?_)
 ·exact AllStepsN.none
 all_goals (unfold execOp; first | simp only [e1, e2, ec] | simp only [e1, ec] | simp only [ec])
 all_goals go_simp
noncomputable def qry_rows (b4 b5 gC n c k : Nat) (S T : List Value) (b : Bool) : List SRow := [
 ⟨Op.load 3 (Operand.tmp 5), some 48, none, [], fun v _ => v = .int .i64 (k : Nat)⟩,
 ⟨Op.binOp BinOp.gtr 3 (Operand.tmp 48) (Operand.const (Value.int IntKind.i64 0)) 3, some 49, none, [0], fun v _ => v = .bool true⟩,
 ⟨Op.move (Operand.tmp 49), some 50, none, [1], fun v _ => v = .bool true⟩,
 ⟨Op.load 3 (Operand.tmp 5), some 51, some (2, true), [2], fun v _ => v = .int .i64 (k : Nat)⟩,
 ⟨Op.load 91 (Operand.tmp 4), some 52, some (2, true), [2], fun v _ => v = .slice (some ⟨gC, 0, none⟩) n c⟩,
 ⟨Op.call { callee := Callee.builtin Builtin.len, args := #[Operand.tmp 52], argTypes := #[91] }, some 53, some (2, true), [4, 2], fun v _ => v = .int .i64 (n : Nat)⟩,
 ⟨Op.binOp BinOp.lss 3 (Operand.tmp 51) (Operand.tmp 53) 3, some 54, some (2, true), [3, 5, 2], fun v _ => v = .bool true⟩,
 ⟨Op.pick (Operand.tmp 50) (Operand.tmp 54) (Operand.const (Value.bool false)), some 55, none, [2, 6], fun v _ => v = .bool true⟩,
 ⟨Op.move (Operand.tmp 55), some 56, none, [7, 2], fun v _ => v = .bool true⟩,
 ⟨Op.load 91 (Operand.tmp 4), some 57, some (8, true), [8], fun v _ => v = .slice (some ⟨gC, 0, none⟩) n c⟩,
 ⟨Op.load 3 (Operand.tmp 5), some 58, some (8, true), [8], fun v _ => v = .int .i64 (k : Nat)⟩,
 ⟨Op.indexAddr 91 (Operand.tmp 57) (Operand.tmp 58), some 59, some (8, true), [9, 10, 8], fun v _ => v = .pointer (some ⟨gC, k * 20, none⟩)⟩,
 ⟨Op.fieldAddr 101 (Operand.tmp 59) 3, some 60, some (8, true), [11, 8], fun v _ => v = .pointer (some ⟨gC, k * 20 + 4, none⟩)⟩,
 ⟨Op.load 99 (Operand.tmp 60), some 61, some (8, true), [12, 8], fun v _ => v = .agg S.toArray⟩,
 ⟨Op.load 91 (Operand.tmp 4), some 62, some (8, true), [8], fun v _ => v = .slice (some ⟨gC, 0, none⟩) n c⟩,
 ⟨Op.load 3 (Operand.tmp 5), some 63, some (8, true), [8], fun v _ => v = .int .i64 (k : Nat)⟩,
 ⟨Op.binOp BinOp.sub 3 (Operand.tmp 63) (Operand.const (Value.int IntKind.i64 1)) 3, some 64, some (8, true), [15, 8], fun v _ => v = .int .i64 ((k - 1 : Nat) : Int)⟩,
 ⟨Op.indexAddr 91 (Operand.tmp 62) (Operand.tmp 64), some 65, some (8, true), [14, 16, 8], fun v _ => v = .pointer (some ⟨gC, (k - 1) * 20, none⟩)⟩,
 ⟨Op.fieldAddr 101 (Operand.tmp 65) 3, some 66, some (8, true), [17, 8], fun v _ => v = .pointer (some ⟨gC, (k - 1) * 20 + 4, none⟩)⟩,
 ⟨Op.load 99 (Operand.tmp 66), some 67, some (8, true), [18, 8], fun v _ => v = .agg T.toArray⟩,
 ⟨Op.binOp BinOp.eql 99 (Operand.tmp 61) (Operand.tmp 67) 99, some 68, some (8, true), [13, 19, 8], fun v _ => v = .bool b⟩,
 ⟨Op.pick (Operand.tmp 56) (Operand.tmp 68) (Operand.const (Value.bool false)), some 69, none, [8, 20], fun v _ => v = .bool b⟩]
noncomputable def qry_base (b4 b5 gC n c k : Nat) (S T : List Value) (b : Bool) (v0 v1 v2 v3 v6 v7 v8 v9 v10 v11 v12 v13 v14 v15 v16 v17 v18 v19 v20 v21 v22 v23 v24 v25 v26 v27 v28 v29 v30 v31 v32 v33 v34 v35 v36 v37 v38 v39 v40 v41 v42 v43 v44 v45 v46 v47 v70 v71 v72 v73 v74 v75 v76 v77 v78 v79 v80 v81 v82 v83 v84 v85 v86 v87 v88 v89 v90 v91 v92 v93 v94 v95 v96 v97 v98 v99 v100 v101 v102 v103 v104 v105 v106 v107 v108 v109 v110 v111 v112 v113 v114 v115 : Value) : List (Nat × Value) := [(4, .pointer (some ⟨b4, 0, none⟩)), (5, .pointer (some ⟨b5, 0, none⟩)), (0, v0), (1, v1), (2, v2), (3, v3), (6, v6), (7, v7), (8, v8), (9, v9), (10, v10), (11, v11), (12, v12), (13, v13), (14, v14), (15, v15), (16, v16), (17, v17), (18, v18), (19, v19), (20, v20), (21, v21), (22, v22), (23, v23), (24, v24), (25, v25), (26, v26), (27, v27), (28, v28), (29, v29), (30, v30), (31, v31), (32, v32), (33, v33), (34, v34), (35, v35), (36, v36), (37, v37), (38, v38), (39, v39), (40, v40), (41, v41), (42, v42), (43, v43), (44, v44), (45, v45), (46, v46), (47, v47), (70, v70), (71, v71), (72, v72), (73, v73), (74, v74), (75, v75), (76, v76), (77, v77), (78, v78), (79, v79), (80, v80), (81, v81), (82, v82), (83, v83), (84, v84), (85, v85), (86, v86), (87, v87), (88, v88), (89, v89), (90, v90), (91, v91), (92, v92), (93, v93), (94, v94), (95, v95), (96, v96), (97, v97), (98, v98), (99, v99), (100, v100), (101, v101), (102, v102), (103, v103), (104, v104), (105, v105), (106, v106), (107, v107), (108, v108), (109, v109), (110, v110), (111, v111), (112, v112), (113, v113), (114, v114), (115, v115)]
set_option maxRecDepth 100000 in
set_option maxHeartbeats 4000000 in
theorem qry_steps (V : World) (b4 b5 gC n c k : Nat) (S T : List Value) (b : Bool) (v0 v1 v2 v3 v6 v7 v8 v9 v10 v11 v12 v13 v14 v15 v16 v17 v18 v19 v20 v21 v22 v23 v24 v25 v26 v27 v28 v29 v30 v31 v32 v33 v34 v35 v36 v37 v38 v39 v40 v41 v42 v43 v44 v45 v46 v47 v70 v71 v72 v73 v74 v75 v76 v77 v78 v79 v80 v81 v82 v83 v84 v85 v86 v87 v88 v89 v90 v91 v92 v93 v94 v95 v96 v97 v98 v99 v100 v101 v102 v103 v104 v105 v106 v107 v108 v109 v110 v111 v112 v113 v114 v115 : Value) (R4 : ∀ w', Lat V w' → w'.cell? ⟨b4, 0, none⟩ = some (.slice (some ⟨gC, 0, none⟩) n c)) (R5 : ∀ w', Lat V w' → w'.cell? ⟨b5, 0, none⟩ = some (.int .i64 (k : Nat))) (hk : (0 : Int) < (k : Int)) (hk0 : (0 : Int) ≤ (k : Int)) (hkn : (k : Int) < (n : Int)) (hkm : wrap64 ((k : Int) - 1) = ((k - 1 : Nat) : Int)) (hm0 : (0 : Int) ≤ ((k - 1 : Nat) : Int)) (hmn : ((k - 1 : Nat) : Int) < (n : Int)) (RS : ∀ w', Lat V w' → w'.rangeAt gC (k * 20 + 4) S) (RT : ∀ w', Lat V w' → w'.rangeAt gC ((k - 1) * 20 + 4) T)
  (JS : (Tryz.prog.info? 99).map (·.size) = some S.length) (JT : (Tryz.prog.info? 99).map (·.size) = some T.length)
  (HG : Hid (Tryz.prog.eqGuardType Tryz.prog.depth 99 = false)) (HB : Hid (∀ w, (binOp .eql 99 (.agg S.toArray) (.agg T.toArray)).run Tryz.prog w = .ok (.bool b) w)) :
  AllStepsN Tryz.prog (qry_rows b4 b5 gC n c k S T b) (qry_base b4 b5 gC n c k S T b v0 v1 v2 v3 v6 v7 v8 v9 v10 v11 v12 v13 v14 v15 v16 v17 v18 v19 v20 v21 v22 v23 v24 v25 v26 v27 v28 v29 v30 v31 v32 v33 v34 v35 v36 v37 v38 v39 v40 v41 v42 v43 v44 v45 v46 v47 v70 v71 v72 v73 v74 v75 v76 v77 v78 v79 v80 v81 v82 v83 v84 v85 v86 v87 v88 v89 v90 v91 v92 v93 v94 v95 v96 v97 v98 v99 v100 v101 v102 v103 v104 v105 v106 v107 v108 v109 v110 v111 v112 v113 v114 v115) V (qry_rows b4 b5 gC n c k S T b) := by
 refine n1 ?_ (eb 5) (fun ev w hl ec e1 d ty p af g => by unfold execOp; simp only [e1, ec]; have hc := R5 w hl; go_simp)
 refine AllStepsN.next (fun _ _ _ h _ => h) (fun j b h => by cases h) (fun a w hl hb hd o ho => by obtain ⟨v1, e1, q1⟩ := hd 0 _ _ (by simp) rfl rfl; subst q1; obtain ⟨d, op, ty, p, af, g⟩ := o; simp only at ho; subst ho; have ec : ∀ v, a.eval (.const v) = v := fun _ => rfl; exact Runs.val (by unfold execOp; generalize a.eval = ev at e1 ec ⊢; simp only [e1, ec]; have h0 := hk; go_simp; omega) ⟨Lat.refl _, fun _ => rfl⟩) ?_
 refine AllStepsN.next (fun _ _ _ h _ => h) (fun j b h => by cases h) (fun a w hl hb hd o ho => by obtain ⟨v1, e1, q1⟩ := hd 1 _ _ (by simp) rfl rfl; subst q1; exact Runs.val (yv_move (S := fun _ => True) e1 o w ho trivial) ⟨Lat.refl _, fun _ => rfl⟩) ?_
 refine n1 ?_ (eb 5) (fun ev w hl ec e1 d ty p af g => by unfold execOp; simp only [e1, ec]; have hc := R5 w hl; go_simp)
 refine n1 ?_ (eb 4) (fun ev w hl ec e1 d ty p af g => by unfold execOp; simp only [e1, ec]; have hc := R4 w hl; go_simp)
 refine n1 ?_ (ed 4) (fun ev w hl ec e1 d ty p af g => ?_)
 refine n2 ?_ (ed 3) (ed 5) (fun ev w hl ec e1 e2 d ty p af g => by unfold execOp; simp only [e1, e2, ec]; have h0 := hkn; go_simp)
 refine n2 ?_ (ed 2) (ed 6) (fun ev w hl ec e1 e2 d ty p af g => ?_)
 refine AllStepsN.next (fun _ _ _ h _ => h) (fun j b h => by cases h) (fun a w hl hb hd o ho => by obtain ⟨v1, e1, q1⟩ := hd 7 _ _ (by simp) rfl rfl; subst q1; exact Runs.val (yv_move (S := fun _ => True) e1 o w ho trivial) ⟨Lat.refl _, fun _ => rfl⟩) ?_
 refine n1 ?_ (eb 4) (fun ev w hl ec e1 d ty p af g => by unfold execOp; simp only [e1, ec]; have hc := R4 w hl; go_simp)
 refine n1 ?_ (eb 5) (fun ev w hl ec e1 d ty p af g => by unfold execOp; simp only [e1, ec]; have hc := R5 w hl; go_simp)
 refine n2 ?_ (ed 9) (ed 10) (fun ev w hl ec e1 e2 d ty p af g => by unfold execOp; simp only [e1, e2, ec]; have h0 := hk0; have h1 := hkn; have hq := claimSize; go_simp)
 refine n1 ?_ (ed 11) (fun ev w hl ec e1 d ty p af g => ?_)
 refine AllStepsN.next (fun _ _ _ h _ => h) (fun j b h => by cases h; exact ⟨_, rfl, ⟨_, rfl⟩, by simp, fun _ _ h => h⟩) (fun a w hl hb hd o ho => by obtain ⟨v1, e1, q1⟩ := hd 12 _ _ (by simp) rfl rfl; subst q1; exact Runs.val (yv_loadO (S := Lat V) e1 RS Tryz.underlying99 rfl JS o w ho hl) ⟨Lat.refl _, fun _ => rfl⟩) ?_
 refine n1 ?_ (eb 4) (fun ev w hl ec e1 d ty p af g => by unfold execOp; simp only [e1, ec]; have hc := R4 w hl; go_simp)
 refine n1 ?_ (eb 5) (fun ev w hl ec e1 d ty p af g => by unfold execOp; simp only [e1, ec]; have hc := R5 w hl; go_simp)
 refine AllStepsN.next (fun _ _ _ h _ => h) (fun j b h => by cases h; exact ⟨_, rfl, ⟨_, rfl⟩, by simp, fun _ _ h => h⟩) (fun a w hl hb hd o ho => by obtain ⟨v1, e1, q1⟩ := hd 15 _ _ (by simp) rfl rfl; subst q1; obtain ⟨d, op, ty, p, af, g⟩ := o; simp only at ho; subst ho; have ec : ∀ v, a.eval (.const v) = v := fun _ => rfl; exact Runs.val (by unfold execOp; generalize a.eval = ev at e1 ec ⊢; simp only [e1, ec]; have h0 := hkm; go_simp; rw [IntWalk.i64_left]; exact h0) ⟨Lat.refl _, fun _ => rfl⟩) ?_
 refine n2 ?_ (ed 14) (ed 16) (fun ev w hl ec e1 e2 d ty p af g => by unfold execOp; simp only [e1, e2, ec]; have h0 := hm0; have h1 := hmn; have hq := claimSize; go_simp)
 refine n1 ?_ (ed 17) (fun ev w hl ec e1 d ty p af g => ?_)
 refine AllStepsN.next (fun _ _ _ h _ => h) (fun j b h => by cases h; exact ⟨_, rfl, ⟨_, rfl⟩, by simp, fun _ _ h => h⟩) (fun a w hl hb hd o ho => by obtain ⟨v1, e1, q1⟩ := hd 18 _ _ (by simp) rfl rfl; subst q1; exact Runs.val (yv_loadO (S := Lat V) e1 RT Tryz.underlying99 rfl JT o w ho hl) ⟨Lat.refl _, fun _ => rfl⟩) ?_
 refine AllStepsN.next (fun _ _ _ h _ => h) (fun j b h => by cases h; exact ⟨_, rfl, ⟨_, rfl⟩, by simp, fun _ _ h => h⟩) (fun a w hl hb hd o ho => by obtain ⟨v1, e1, q1⟩ := hd 13 _ _ (by simp) rfl rfl; obtain ⟨v2, e2, q2⟩ := hd 19 _ _ (by simp) rfl rfl; subst q1; subst q2; exact Runs.val (yv_bin (S := fun _ => True) e1 e2 HG.out HB.out o w ho trivial) ⟨Lat.refl _, fun _ => rfl⟩) ?_
 refine n2 ?_ (ed 8) (ed 20) (fun ev w hl ec e1 e2 d ty p af g => ?_)
 ·exact AllStepsN.none
 all_goals (unfold execOp; first | simp only [e1, e2, ec] | simp only [e1, ec] | simp only [ec])
 all_goals go_simp
end Go.Proofs.YteocdndanehpnaaGreat
namespace Go.Proofs.YteocdndanehpnaaGreat
open Go.RowKit
section
variable {α β : Type}
theorem posR_map {lt : α → α → Bool} {lt' : β → β → Bool} {f : α → β} (h : ∀ x y, lt' (f x) (f y) = lt x y) (x : α) (S : List α) : ∀ k, posR lt' (f x) (S.map f) k = posR lt x S k
 | 0 => rfl
 | k + 1 => by
   rw [posR, posR, List.getElem?_map]
   cases S[k]? with
   | none => rfl
   | some y => simp only [Option.map_some, h, posR_map h x S k]
theorem insR_map {lt : α → α → Bool} {lt' : β → β → Bool} {f : α → β} (h : ∀ x y, lt' (f x) (f y) = lt x y) (S : List α) (x : α) : insR lt' (S.map f) (f x) = (insR lt S x).map f := by
 unfold insR
 rw [List.length_map, posR_map h]
 simp
theorem foldR_map {lt : α → α → Bool} {lt' : β → β → Bool} {f : α → β} (h : ∀ x y, lt' (f x) (f y) = lt x y) : ∀ (xs S : List α), (xs.map f).foldl (insR lt') (S.map f) = (xs.foldl (insR lt) S).map f
 | [], S => rfl
 | x :: r, S => by rw [List.map_cons, List.foldl_cons, List.foldl_cons, insR_map h, foldR_map h r]
theorem sortR_map {lt : α → α → Bool} {lt' : β → β → Bool} {f : α → β} (h : ∀ x y, lt' (f x) (f y) = lt x y) (xs : List α) : sortR lt' (xs.map f) = (sortR lt xs).map f := foldR_map h xs []
end
theorem clR_filter {p l : Nat → Int} {d n : Int} {c : List Nat} (h0 : ∀ i ∈ c, 0 ≤ p i) : (clR p l d n c).filter (fun x => !noP x) = clR p l d n (c.filter (fun i => decide (0 < p i))) := by
 unfold clR
 rw [List.filter_map]
 congr 1
 refine List.filter_congr fun i hi => ?_
 have := h0 i hi
 show (!(p i == 0)) = decide (0 < p i)
 by_cases h : p i = 0
 ·rw [h]; rfl
 ·have h1 : 0 < p i := by omega
  simp [h, h1]
def lotM (p : Nat → Int) (d n : Int) (c : List Nat) : List Nat := sortR (fun i j => decide (p j * d % n < p i * d % n)) (c.filter (fun i => decide (0 < p i)))
theorem side_lt {a : Int} : sideOf a < 0 ↔ a < 0 := by
 unfold sideOf
 split
 ·omega
 ·split <;> omega
theorem clR_sort {p l : Nat → Int} {d n : Int} (L : List Nat) : sortR (fun x y => decide (clCmp (fun i => p i * d % n) x y < 0)) (clR p l d n L) = clR p l d n (sortR (fun i j => decide (p j * d % n < p i * d % n)) L) := by
 refine sortR_map (fun i j => ?_) L
 show decide (sideOf (p j * d % n - p i * d % n) < 0) = _
 rw [decide_eq_decide, side_lt]
 omega
theorem lotM_perm (p : Nat → Int) (d n : Int) (c : List Nat) : (lotM p d n c).Perm (c.filter (fun i => decide (0 < p i))) := sortR_perm _ _
theorem lotM_desc (p : Nat → Int) (d n : Int) (c : List Nat) : (lotM p d n c).Pairwise (fun a b => p b * d % n ≤ p a * d % n) := sortR_desc (R := fun i => p i * d % n) _
theorem lotM_mem {p : Nat → Int} {d n : Int} {c : List Nat} {i : Nat} (h : i ∈ lotM p d n c) : i ∈ c ∧ 0 < p i := by
 have := (lotM_perm p d n c).mem_iff.1 h
 rw [List.mem_filter] at this
 exact ⟨this.1, by simpa using this.2⟩
theorem lotM_nodup {p : Nat → Int} {d n : Int} {c : List Nat} (hc : c.Nodup) : (lotM p d n c).Nodup := (lotM_perm p d n c).nodup_iff.2 (hc.filter _)
theorem putAt_take {S : List Int} {c : List Nat} {f : Nat → Int} {k i : Nat} (h : c[k]? = some i) : putAt S (c.take (k + 1)) f = (putAt S (c.take k) f).set i (f i) := by
 obtain ⟨hl, rfl⟩ := List.getElem?_eq_some_iff.1 h
 rw [List.take_succ_eq_append_getElem hl, putAt, List.foldl_append]
 rfl
theorem sumF_take {c : List Nat} {f : Nat → Int} {k i : Nat} (h : c[k]? = some i) : ((c.take (k + 1)).map f).sum = ((c.take k).map f).sum + f i := by
 obtain ⟨hl, rfl⟩ := List.getElem?_eq_some_iff.1 h
 rw [List.take_succ_eq_append_getElem hl, List.map_append, List.sum_append]
 simp
theorem sumF_bound {c : List Nat} {f : Nat → Int} {M : Int} (h : ∀ i ∈ c, 0 ≤ f i ∧ f i ≤ M) : 0 ≤ (c.map f).sum ∧ (c.map f).sum ≤ M * c.length := by
 induction c with
 | nil => simp
 | cons x r ih =>
   obtain ⟨h1, h2⟩ := ih (fun i hi => h i (List.mem_cons_of_mem _ hi))
   have h3 := h x (by simp)
   simp only [List.map_cons, List.sum_cons, List.length_cons]
   have e : M * ((r.length + 1 : Nat) : Int) = M * (r.length : Int) + M := by rw [Int.natCast_add]; rw [Int.mul_add]; simp
   omega
theorem clV_range {w : World} {g o : Nat} {p l : Nat → Int} {d n : Int} {i : Nat} (h : w.rangeAt g o (clV p l d n i)) : w.rangeAt g (o + 4) (shA (p i * d % n) n).toList := fun j v hj => by
 have h2 := clV_share p l d n i j v hj
 rw [List.getElem?_toArray] at h2
 have := h (4 + j) v h2
 rw [show o + 4 + j = o + (4 + j) by omega]
 exact this
theorem sh_eql (a n : Int) (w : World) : (binOp .eql 99 (.agg (shA a n).toList.toArray) (.agg (shA a n).toList.toArray)).run Tryz.prog w = .ok (.bool true) w := (shA_good a n).eql w
theorem sh_neq {a b n : Int} (ha : Fits a n) (hb : Fits b n) (h : a ≠ b) (w : World) : (binOp .eql 99 (.agg (shA a n).toList.toArray) (.agg (shA b n).toList.toArray)).run Tryz.prog w = .ok (.bool false) w := by
 obtain ⟨k1, k2, k3, k4, k5⟩ := (shV_self a n).facts ha
 obtain ⟨m1, m2, m3, m4, m5⟩ := (shV_self b n).facts hb
 obtain ⟨r, hr, hi⟩ := share_eq k1 k2 m1 m2 w
 have hf : r = false := by
  cases r with
  | false => rfl
  | true =>
    exfalso
    obtain ⟨e1, e2⟩ := hi.1 rfl
    have h1 : lowN a n = lowN b n := by rw [← k3, ← m3, e1]
    have h2 : lowD a n = lowD b n := by rw [← k4, ← m4, e2]
    have c1 := low_cross (x := a) ha.1
    have c2 := low_cross (x := b) ha.1
    rw [h1, h2] at c1
    rw [c1] at c2
    exact h (Int.eq_of_mul_eq_mul_right (by have := lowD_pos (x := b) ha.1; omega) c2)
 show (binOp .eql 99 (.agg #[.int .u64 (W8.of (lowN a n)).a0, .int .u64 (W8.of (lowN a n)).a1, .int .u64 (W8.of (lowN a n)).a2, .int .u64 (W8.of (lowN a n)).a3, .int .u64 (W8.of (lowN a n)).a4, .int .u64 (W8.of (lowN a n)).a5, .int .u64 (W8.of (lowN a n)).a6, .int .u64 (W8.of (lowN a n)).a7, .int .u64 (W8.of (lowD a n)).a0, .int .u64 (W8.of (lowD a n)).a1, .int .u64 (W8.of (lowD a n)).a2, .int .u64 (W8.of (lowD a n)).a3, .int .u64 (W8.of (lowD a n)).a4, .int .u64 (W8.of (lowD a n)).a5, .int .u64 (W8.of (lowD a n)).a6, .int .u64 (W8.of (lowD a n)).a7]) (.agg #[.int .u64 (W8.of (lowN b n)).a0, .int .u64 (W8.of (lowN b n)).a1, .int .u64 (W8.of (lowN b n)).a2, .int .u64 (W8.of (lowN b n)).a3, .int .u64 (W8.of (lowN b n)).a4, .int .u64 (W8.of (lowN b n)).a5, .int .u64 (W8.of (lowN b n)).a6, .int .u64 (W8.of (lowN b n)).a7, .int .u64 (W8.of (lowD b n)).a0, .int .u64 (W8.of (lowD b n)).a1, .int .u64 (W8.of (lowD b n)).a2, .int .u64 (W8.of (lowD b n)).a3, .int .u64 (W8.of (lowD b n)).a4, .int .u64 (W8.of (lowD b n)).a5, .int .u64 (W8.of (lowD b n)).a6, .int .u64 (W8.of (lowD b n)).a7])).run Tryz.prog w = _
 rw [run_eql_struct, hr, hf]
 rfl
structure EndOk (p : Nat → Int) (c : List Nat) (N : Nat) (o n d : Int) : Prop where
 asc : c.Pairwise (· < ·)
 lt : ∀ i ∈ c, i < N
 few : c.length < 20
 p0 : ∀ i ∈ c, 0 ≤ p i ∧ p i ≤ 1000000000
 n0 : 1 ≤ n
 n1 : n ≤ 70000000001
 d0 : 1 ≤ d
 d1 : d ≤ 1002
 o0 : 0 ≤ o
 o1 : o ≤ 1000
theorem EndOk.whole {p : Nat → Int} {c : List Nat} {N : Nat} {o n d : Int} (h : EndOk p c N o n d) : ∀ i ∈ c, 0 ≤ p i * d / n ∧ p i * d / n ≤ 1002000000000 := by
 intro i hi
 have h1 := h.p0 i hi
 have hm := Int.mul_le_mul h1.2 h.d1 (by have := h.d0; omega) (by omega)
 have hm0 := Int.mul_nonneg h1.1 (show 0 ≤ d by have := h.d0; omega)
 have h2 := Int.ediv_le_self n hm0
 exact ⟨Int.ediv_nonneg hm0 (by have := h.n0; omega), by omega⟩
theorem EndOk.sum {p : Nat → Int} {c : List Nat} {N : Nat} {o n d : Int} (h : EndOk p c N o n d) (k : Nat) : 0 ≤ ((c.take k).map (fun i => p i * d / n)).sum ∧ ((c.take k).map (fun i => p i * d / n)).sum ≤ 20040000000000 := by
 have h1 := sumF_bound (c := c.take k) (f := fun i => p i * d / n) (M := 1002000000000) (fun i hi => h.whole i (List.mem_of_mem_take hi))
 have h2 : (c.take k).length ≤ c.length := List.length_take_le' _ _
 have h3 := h.few
 omega
end Go.Proofs.YteocdndanehpnaaGreat
namespace Go.Proofs.YteocdndanehpnaaGreat
open Go.RowKit
theorem latP_set (w : World) (g i : Nat) (v : Value) : LatP (· = g) w (w.setCell ⟨g, i, none⟩ v) := ⟨rfl, rfl, rfl, by simp [World.setCell], fun k _ hk => Below.heap_setCell w ⟨g, i, none⟩ v k hk⟩
theorem LatP.own {M : Nat → Prop} {w wr wx : World} {g : Nat} (h : LatP M w wr) (h2 : LatP (· = g) wr wx) (hg : w.heap.size ≤ g) : LatP M w wx :=
 ⟨h2.os.trans h.os, h2.tape.trans h.tape, h2.output.trans h.output, Nat.le_trans h.size h2.size, fun k hk hm => (h2.block k (Nat.lt_of_lt_of_le hk h.size) (fun e => by omega)).trans (h.block k hk hm)⟩
theorem LatP.ownS {M : Nat → Prop} {w wr : World} (h : LatP M w wr) {g : Nat} (hg : w.heap.size ≤ g) (i : Nat) (v : Value) : LatP M w (wr.setCell ⟨g, i, none⟩ v) := h.own (latP_set wr g i v) hg
theorem row_apart {W : World} {gS N gC : Nat} {S : List Int} {rows : List (List Value)} (h : RowN W gS N S) (h2 : RowB W gC 101 20 rows) : gS ≠ gC := by
 obtain ⟨cs, hb, _⟩ := h
 obtain ⟨_, cs2, hb2, _⟩ := h2
 exact blk_apart hb hb2 (by decide)
structure EndIs (w : World) (gS N cS gC cc g3 g4 g5 g6 : Nat) (S' : List Int) (rows : List (List Value)) (tv : Value) (lft o' : Int) (mm : Nat) (wr : World) : Prop where
 aS : gS < w.heap.size
 aC : gC < w.heap.size
 a3 : w.heap.size ≤ g3
 a4 : g3 < g4
 a5 : g4 < g5
 a6 : g5 < g6
 s : RowN wr gS N S'
 c : RowB wr gC 101 20 rows
 b3 : Blk wr g3 47 #[.slice (some ⟨gS, 0, none⟩) N cS, tv, .int .i64 lft]
 b4 : Blk wr g4 91 #[.slice (some ⟨gC, 0, none⟩) mm cc]
 b5 : Blk wr g5 3 #[.int .i64 o']
 b6 : Blk wr g6 47 #[.slice none 0 0, .slice none 0 0, .int .i64 0]
 lat : LatP (fun q => q = gS ∨ q = gC) w wr
section
variable {w : World} {gS N cS gC cc g3 g4 g5 g6 : Nat} {S' : List Int} {rows : List (List Value)} {tv : Value} {lft o' : Int} {mm : Nat} {wr wx : World}
theorem EndIs.apart (h : EndIs w gS N cS gC cc g3 g4 g5 g6 S' rows tv lft o' mm wr) : gS ≠ gC := row_apart h.s h.c
theorem EndIs.later (h : EndIs w gS N cS gC cc g3 g4 g5 g6 S' rows tv lft o' mm wr) (hl : Lat wr wx) : EndIs w gS N cS gC cc g3 g4 g5 g6 S' rows tv lft o' mm wx :=
 ⟨h.aS, h.aC, h.a3, h.a4, h.a5, h.a6, h.s.later hl, h.c.later hl, h.b3.later hl, h.b4.later hl, h.b5.later hl, h.b6.later hl, h.lat.trans (hl.p _)⟩
theorem EndIs.setS (h : EndIs w gS N cS gC cc g3 g4 g5 g6 S' rows tv lft o' mm wr) {i : Nat} (hi : i < S'.length) (x : Int) :
  EndIs w gS N cS gC cc g3 g4 g5 g6 (S'.set i x) rows tv lft o' mm (wr.setCell ⟨gS, i, none⟩ (.int .i64 x)) := by
 have hl := latP_set wr gS i (.int .i64 x)
 obtain ⟨aS, aC, a3, a4, a5, a6, s, c, b3, b4, b5, b6, lat⟩ := id h
 have ha := h.apart
 exact ⟨aS, aC, a3, a4, a5, a6, s.set hi x, c.kept (hl.block _ c.lt (fun e => ha e.symm)), b3.keepP hl (by omega), b4.keepP hl (by omega), b5.keepP hl (by omega), b6.keepP hl (by omega), lat.trans (hl.wider (fun k e => .inl e))⟩
theorem EndIs.setO (h : EndIs w gS N cS gC cc g3 g4 g5 g6 S' rows tv lft o' mm wr) (x : Int) :
  EndIs w gS N cS gC cc g3 g4 g5 g6 S' rows tv lft x mm (wr.setCell ⟨g5, 0, none⟩ (.int .i64 x)) := by
 have hl := latP_set wr g5 0 (.int .i64 x)
 obtain ⟨aS, aC, a3, a4, a5, a6, s, c, b3, b4, b5, b6, lat⟩ := id h
 exact ⟨aS, aC, a3, a4, a5, a6, s.keepP hl (by omega), c.kept (hl.block _ c.lt (by omega)), b3.keepP hl (by omega), b4.keepP hl (by omega), b5.set 0 _, b6.keepP hl (by omega), lat.own hl (by omega)⟩
theorem EndIs.setL (h : EndIs w gS N cS gC cc g3 g4 g5 g6 S' rows tv lft o' mm wr) (m2 : Nat) :
  EndIs w gS N cS gC cc g3 g4 g5 g6 S' rows tv lft o' m2 (wr.setCell ⟨g4, 0, none⟩ (.slice (some ⟨gC, 0, none⟩) m2 cc)) := by
 have hl := latP_set wr g4 0 (.slice (some ⟨gC, 0, none⟩) m2 cc)
 obtain ⟨aS, aC, a3, a4, a5, a6, s, c, b3, b4, b5, b6, lat⟩ := id h
 exact ⟨aS, aC, a3, a4, a5, a6, s.keepP hl (by omega), c.kept (hl.block _ c.lt (by omega)), b3.keepP hl (by omega), b4.set 0 _, b5.keepP hl (by omega), b6.keepP hl (by omega), lat.own hl (by omega)⟩
theorem EndIs.setT (h : EndIs w gS N cS gC cc g3 g4 g5 g6 S' rows tv lft o' mm wr) (t2 : Value) :
  EndIs w gS N cS gC cc g3 g4 g5 g6 S' rows t2 lft o' mm (wr.setCell ⟨g3, 1, none⟩ t2) := by
 have hl := latP_set wr g3 1 t2
 obtain ⟨aS, aC, a3, a4, a5, a6, s, c, b3, b4, b5, b6, lat⟩ := id h
 exact ⟨aS, aC, a3, a4, a5, a6, s.keepP hl (by omega), c.kept (hl.block _ c.lt (by omega)), b3.set 1 _, b4.keepP hl (by omega), b5.keepP hl (by omega), b6.keepP hl (by omega), lat.own hl (by omega)⟩
theorem EndIs.setI (h : EndIs w gS N cS gC cc g3 g4 g5 g6 S' rows tv lft o' mm wr) (x : Int) :
  EndIs w gS N cS gC cc g3 g4 g5 g6 S' rows tv x o' mm (wr.setCell ⟨g3, 2, none⟩ (.int .i64 x)) := by
 have hl := latP_set wr g3 2 (.int .i64 x)
 obtain ⟨aS, aC, a3, a4, a5, a6, s, c, b3, b4, b5, b6, lat⟩ := id h
 exact ⟨aS, aC, a3, a4, a5, a6, s.keepP hl (by omega), c.kept (hl.block _ c.lt (by omega)), b3.set 2 _, b4.keepP hl (by omega), b5.keepP hl (by omega), b6.keepP hl (by omega), lat.own hl (by omega)⟩
theorem EndIs.setC (h : EndIs w gS N cS gC cc g3 g4 g5 g6 S' rows tv lft o' mm wr) {r2 : List (List Value)} (hc : RowB wx gC 101 20 r2) (hl : LatP (· = gC) wr wx) :
  EndIs w gS N cS gC cc g3 g4 g5 g6 S' r2 tv lft o' mm wx := by
 obtain ⟨aS, aC, a3, a4, a5, a6, s, c, b3, b4, b5, b6, lat⟩ := id h
 have ha := h.apart
 exact ⟨aS, aC, a3, a4, a5, a6, s.keepP hl ha, hc, b3.keepP hl (by omega), b4.keepP hl (by omega), b5.keepP hl (by omega), b6.keepP hl (by omega), lat.trans (hl.wider (fun k e => .inr e))⟩
theorem EndIs.own (h : EndIs w gS N cS gC cc g3 g4 g5 g6 S' rows tv lft o' mm wr) {g : Nat} (hl : LatP (· = g) wr wx) (hg : g6 < g) :
  EndIs w gS N cS gC cc g3 g4 g5 g6 S' rows tv lft o' mm wx := by
 obtain ⟨aS, aC, a3, a4, a5, a6, s, c, b3, b4, b5, b6, lat⟩ := id h
 exact ⟨aS, aC, a3, a4, a5, a6, s.keepP hl (by omega), c.kept (hl.block _ c.lt (by omega)), b3.keepP hl (by omega), b4.keepP hl (by omega), b5.keepP hl (by omega), b6.keepP hl (by omega), lat.own hl (by omega)⟩
end
def EndPost (w : World) (gS N cS gC : Nat) (r : Option Aw) (e : Ending) (w' : World) : Prop :=
 LatP (fun q => q = gS ∨ q = gC) w w' ∧ match r with
 | none => e = .returned (.tuple #[.agg #[.slice none 0 0, .slice none 0 0, .int .i64 0], .int .i64 9])
 | some A => ∃ At ct, e = .returned (.tuple #[.agg #[.slice (some ⟨gS, 0, none⟩) N cS, .slice At A.tied.length ct, .int .i64 A.left], .int .i64 0]) ∧ RowN w' gS N A.seats ∧ Sl w' .i64 At A.tied.length (A.tied.map fun t : Nat => (t : Int)) ∧ A.tied.length ≤ ct ∧
    (∀ a, At = some a → w.heap.size ≤ a.block)
end Go.Proofs.YteocdndanehpnaaGreat
namespace Go.Proofs.YteocdndanehpnaaGreat
open Go.RowKit
theorem sh_same {p : Nat → Int} {d n : Int} (hn : 0 < n) (hn1 : n ≤ 70000000001) (i a : Nat) : Hid (∀ w, (binOp .eql 99 (.agg (shA (p i * d % n) n).toList.toArray) (.agg (shA (p a * d % n) n).toList.toArray)).run Tryz.prog w = .ok (.bool (decide (p i * d % n = p a * d % n))) w) := by
 have hf : ∀ i, Fits (p i * d % n) n := fun i => by
  have h1 := Int.emod_nonneg (p i * d) (show n ≠ 0 by omega)
  have h2 := Int.emod_lt_of_pos (p i * d) (show 0 < n by omega)
  exact fits_small (by omega) (by omega) (by omega) (by omega)
 by_cases h : p i * d % n = p a * d % n
 ·rw [decide_eq_true h, h]
  exact Lib.hid (sh_eql _ _)
 ·rw [decide_eq_false h]
  exact Lib.hid (sh_neq (hf i) (hf a) h)
theorem ends3 {p l : Nat → Int} {d n : Int} (hn : 0 < n) (hn1 : n ≤ 70000000001) {g4 g5 gC cc k a Ln : Nat} {m : List Nat} {W : World} (hC : RowB W gC 101 20 (clR p l d n m)) (ha : m[k]? = some a) (_hml : m.length = Ln) (hk : (k : Int) < (Ln : Int))
  (R4 : ∀ w', Lat W w' → w'.cell? ⟨g4, 0, none⟩ = some (.slice (some ⟨gC, 0, none⟩) Ln cc)) (R5 : ∀ w', Lat W w' → w'.cell? ⟨g5, 0, none⟩ = some (.int .i64 (k : Nat))) :
  ∀ x ∈ clR p l d n m, ∀ w', Lat W w' → Calls Tryz.prog 72 #[.agg x.toArray, .pointer (some ⟨g4, 0, none⟩), .pointer (some ⟨g5, 0, none⟩)] w'
   (fun e w'' => e = .returned (.bool ((fun x : List Value => decide (p (intOf (x.getD 2 undef)).toNat * d % n = p a * d % n)) x)) ∧ Lat w' w'') := by
 intro x hx w' hl
 obtain ⟨i, _, rfl⟩ := clR_mem hx
 exact end3_gen (clV p l d n i).toArray g4 g5 gC Ln cc k (shA (p i * d % n) n).toList (shA (p a * d % n) n).toList (decide (p i * d % n = p a * d % n)) W w' R4 R5 (clV_share p l d n i) (fun w' hl => clV_range ((hC.later hl).range (clR_at ha))) (by omega) hk
  (claimSizeX p l d n i) shareInfo16 shareInfo16 (sh_same hn hn1 i a) hl
theorem idx_first {p l : Nat → Int} {d n : Int} {m : List Nat} {k a : Nat} {r : Int} (ha : m[k]? = some a)
  (hr : (r = -1 ∧ ∀ x ∈ clR p l d n m, (fun x : List Value => decide (p (intOf (x.getD 2 undef)).toNat * d % n = p a * d % n)) x = false) ∨ ∃ (k : Nat) (x : List Value), r = (k : Int) ∧ (clR p l d n m)[k]? = some x ∧
    (fun x : List Value => decide (p (intOf (x.getD 2 undef)).toNat * d % n = p a * d % n)) x = true ∧ ∀ y ∈ (clR p l d n m).take k, (fun x : List Value => decide (p (intOf (x.getD 2 undef)).toNat * d % n = p a * d % n)) y = false) :
  ∃ (f e : Nat), r = (f : Int) ∧ m[f]? = some e ∧ p e * d % n = p a * d % n ∧ ∀ i x, i < f → m[i]? = some x → p x * d % n ≠ p a * d % n := by
 rcases hr with ⟨_, h⟩ | ⟨f, x, rfl, hx, hp, hn⟩
 ·exfalso
  have h1 := h _ (List.mem_of_getElem? (clR_at (p := p) (l := l) (d := d) (n := n) ha))
  have h2 : decide (p a * d % n = p a * d % n) = false := h1
  simp at h2
 ·have hx2 := hx
  unfold clR at hx2
  rw [List.getElem?_map] at hx2
  cases he : m[f]? with
  | none => rw [he] at hx2; cases hx2
  | some e =>
    rw [he] at hx2
    have hxe : clV p l d n e = x := by simpa using hx2
    subst hxe
    refine ⟨f, e, rfl, he, ?_, ?_⟩
    ·have h2 : decide (p e * d % n = p a * d % n) = true := hp
     simpa using h2
    ·intro i x hi hmx
     have hmem : clV p l d n x ∈ (clR p l d n m).take f := List.mem_of_getElem? (i := i) (by rw [List.getElem?_take, if_pos hi]; exact clR_at hmx)
     have h2 : decide (p x * d % n = p a * d % n) = false := hn _ hmem
     simpa using h2
theorem tied_sorted {ts : List Nat} (hd : ts.Nodup) : ∃ t : List Nat, (ts.map fun t : Nat => (t : Int)).mergeSort (fun x y => decide (x ≤ y)) = t.map (fun t : Nat => (t : Int)) ∧ t.Pairwise (· < ·) ∧ ∀ i, i ∈ t ↔ i ∈ ts := by
 have hp := List.mergeSort_perm (ts.map fun t : Nat => (t : Int)) (fun x y => decide (x ≤ y))
 have hs := List.pairwise_mergeSort (le := fun x y : Int => decide (x ≤ y)) (fun a b c h1 h2 => by simp only [decide_eq_true_eq] at *; omega) (fun a b => by simp only [Bool.or_eq_true, decide_eq_true_eq]; omega) (ts.map fun t : Nat => (t : Int))
 revert hp hs
 generalize (ts.map fun t : Nat => (t : Int)).mergeSort (fun x y => decide (x ≤ y)) = u
 intro hp hs
 have hu : ∀ x ∈ u, ∃ t : Nat, t ∈ ts ∧ x = (t : Int) := fun x hx => by
  obtain ⟨t, ht, rfl⟩ := List.mem_map.1 (hp.mem_iff.1 hx)
  exact ⟨t, ht, rfl⟩
 have e : u = (u.map Int.toNat).map (fun t : Nat => (t : Int)) := by
  rw [List.map_map]
  conv => lhs; rw [← List.map_id u]
  refine List.map_congr_left fun x hx => ?_
  obtain ⟨t, _, rfl⟩ := hu x hx
  rfl
 have hnu : u.Nodup := hp.nodup_iff.2 (by
  unfold List.Nodup at hd ⊢
  rw [List.pairwise_map]
  exact hd.imp (fun h e => h (by omega)))
 refine ⟨u.map Int.toNat, e, ?_, fun i => ?_⟩
 ·rw [List.pairwise_map]
  refine (hs.and hnu).imp_of_mem ?_
  intro x y hx hy h
  obtain ⟨a, _, rfl⟩ := hu x hx
  obtain ⟨b, _, rfl⟩ := hu y hy
  have h1 : (a : Int) ≤ (b : Int) := by simpa using h.1
  have h2 := h.2
  show a < b
  omega
 ·constructor
  ·intro h
   obtain ⟨x, hx, rfl⟩ := List.mem_map.1 h
   obtain ⟨t, ht, rfl⟩ := hu x hx
   exact ht
  ·intro h
   exact List.mem_map.2 ⟨(i : Int), hp.mem_iff.2 (List.mem_map_of_mem h), rfl⟩
section
variable {w : World} {gS N cS gC cc g3 g4 g5 g6 : Nat} {S' : List Int} {rows : List (List Value)} {tv : Value} {lft o' : Int} {mm : Nat} {wr wx : World}
theorem EndIs.ownO (h : EndIs w gS N cS gC cc g3 g4 g5 g6 S' rows tv lft o' mm wr) {ob : Option Nat} (hl : LatP (fun q => some q = ob) wr wx) (hg : ∀ g, ob = some g → g6 < g) :
  EndIs w gS N cS gC cc g3 g4 g5 g6 S' rows tv lft o' mm wx := by
 obtain ⟨aS, aC, a3, a4, a5, a6, s, c, b3, b4, b5, b6, lat⟩ := id h
 have n : ∀ q, q ≤ g6 → ¬ some q = ob := fun q hq e => by have := hg q e.symm; omega
 exact ⟨aS, aC, a3, a4, a5, a6, s.keepP hl (n _ (by omega)), c.kept (hl.block _ c.lt (n _ (by omega))), b3.keepP hl (n _ (by omega)), b4.keepP hl (n _ (by omega)), b5.keepP hl (n _ (by omega)), b6.keepP hl (n _ (Nat.le_refl _)),
  ⟨hl.os.trans lat.os, hl.tape.trans lat.tape, hl.output.trans lat.output, Nat.le_trans lat.size hl.size, fun k hk hm => (hl.block k (Nat.lt_of_lt_of_le hk lat.size) (n _ (by omega))).trans (lat.block k hk hm)⟩⟩
end
def ints1 (xs : List Int) : List (List Value) := xs.map fun x => [.int .i64 x]
theorem ints1_snoc (xs : List Int) (x : Int) : ints1 (xs ++ [x]) = ints1 xs ++ [[.int .i64 x]] := by simp [ints1]
theorem ints1_len (xs : List Int) : (ints1 xs).length = xs.length := by simp [ints1]
theorem ints1_flat (xs : List Int) : (ints1 xs).flatten = xs.map (Value.int .i64) := by
 induction xs with
 | nil => rfl
 | cons x r ih => rw [ints1, List.map_cons, List.flatten_cons, ← ints1, ih]; rfl
theorem own_ofM {w : World} {B : Nat} {E : TypeId} {v : Value} {xs : List Int} (h : OwnM w B E 1 v (ints1 xs)) : Own w B E .i64 v xs := by
 have h2 := h.2
 rw [ints1_len, ints1_flat] at h2
 exact h2
theorem OwnM.at1 {w : World} {B m : Nat} {E : TypeId} {v : Value} {xs : List (List Value)} (h : OwnM w B E m v xs) : ∀ g, v.ownBlock = some g → B ≤ g ∧ g < w.heap.size := by
 intro g hg
 rcases h.2.2 with ⟨rfl, _⟩ | ⟨g', cap, cur, rfl, hb, hh, _⟩
 ·cases hg
 ·cases hg
  have hB : Blk w g' E cur := hh
  exact ⟨hb, hB.lt⟩
theorem intInfoE : (Tryz.prog.info? 3).map (fun i => (i.zero, i.size, i.bytes)) = some (some (.int .i64 0), 1, 8) := by kernel_rfl
theorem col_yes {m : List Nat} {q : Nat → Bool} {j i : Nat} (h : m[j]? = some i) (hq : q i = true) : (m.take (j + 1)).filter q = (m.take j).filter q ++ [i] := by
 obtain ⟨hl, rfl⟩ := List.getElem?_eq_some_iff.1 h
 rw [List.take_succ_eq_append_getElem hl, List.filter_append]
 simp [hq]
theorem col_no {m : List Nat} {q : Nat → Bool} {j i : Nat} (h : m[j]? = some i) (hq : q i = false) : (m.take (j + 1)).filter q = (m.take j).filter q := by
 obtain ⟨hl, rfl⟩ := List.getElem?_eq_some_iff.1 h
 rw [List.take_succ_eq_append_getElem hl, List.filter_append]
 simp [hq]
end Go.Proofs.YteocdndanehpnaaGreat
