
/- What operations of a drawn region come to: for the law of slots (with what the text Held has of it, for a seat without Held). -/
import Derived.Test.YtogkkhaepfablaaGreatK29
import Derived.Test.YtogkkhaepfablaaGreatRgA
namespace Go.Proofs.YtogkkhaepfablaaGreat
open Go.RowKit
set_option linter.unusedSimpArgs false

section
variable {P : Program} {S : World → Prop} {a : Act}
theorem yv_move {x : Operand} {v : Value} (hx : a.eval x = v) : ∀ (o : Oper) (w : World), o.op = .move x → S w → (execOp a.eval o).run P w = .ok (.value v) w := by
  intro o w ho _
  unfold execOp
  simp [ho, hx]
theorem yv_assign {x : Operand} {v : Value} {w : World} (hx : a.eval x = v) : ∀ o : Oper, o.op = .assign x → (execOp a.eval o).run P w = .ok (.value v) w := by
  intro o ho
  unfold execOp
  simp [ho, hx]
theorem yv_assignS {x : Operand} {v : Value} (hx : a.eval x = v) : ∀ (o : Oper) (w : World), o.op = .assign x → S w → (execOp a.eval o).run P w = .ok (.value v) w := fun o _ ho _ => yv_assign hx o ho
theorem yv_pick {c x y : Operand} {v : Value} (hc : a.eval c = .bool true) (hx : a.eval x = v) : ∀ (o : Oper) (w : World), o.op = .pick c x y → S w → (execOp a.eval o).run P w = .ok (.value v) w := by
  intro o w ho _
  unfold execOp
  generalize a.eval = ev at hc hx ⊢
  simp [ho, hc, hx, go_sem]
theorem yv_bin {op : BinOp} {t t2 : TypeId} {x y : Operand} {X Y : Array Value} {V : Value} (hx : a.eval x = .agg X) (hy : a.eval y = .agg Y) (hm : P.eqGuardType P.depth t = false) (hrun : ∀ w, (binOp op t (.agg X) (.agg Y)).run P w = .ok V w) :
    ∀ (o : Oper) (w : World), o.op = .binOp op t x y t2 → S w → (execOp a.eval o).run P w = .ok (.value V) w := by
  intro o w ho _
  unfold execOp
  have hg := run_eqGuard_agg (P := P) w op t x y X Y hm
  simp [ho, hx, hy, hg, hrun w]
theorem yv_load {ty : TypeId} {x : Operand} {b : Nat} {cs : List Value} {d : TypeDesc} (hx : a.eval x = .pointer (some ⟨b, 0, none⟩)) (hR : ∀ w, S w → w.rangeAt b 0 cs) (hu : P.underlying ty = some d) (hd : d.isRow = true) (hi : (P.info? ty).map (·.size) = some cs.length) :
    ∀ (o : Oper) (w : World), o.op = .load ty x → S w → (execOp a.eval o).run P w = .ok (.value (.agg cs.toArray)) w := by
  intro o w ho hS
  unfold execOp
  simp only [ho, hx, Instr.loadAt, Instr.sureAddr, Sem.run_bind, Sem.run_pure, Result.andThen_ok, run_loadVar_mid w b 0 ty cs d (hR w hS) hu hd hi]
theorem yv_call {P : Program} {f : FuncId} {args : Array Operand} {tys : Array TypeId} {vals : Array Value} {w : World} (hf : ∀ vals, (callFunc f vals).run P w = .ok (.enter f vals) w) : ∀ o : Oper, o.op = .call ⟨.value (.func f), args, tys⟩ → args.map a.eval = vals → (execOp a.eval o).run P w = .ok (.enter f vals) w := by
  intro o ho ha
  obtain ⟨d, op, ty, p, af, g⟩ := o
  simp only at ho
  subst ho
  subst ha
  unfold execOp
  go_simp
end
theorem eval_const (a : Act) (v : Value) : a.eval (.const v) = v := rfl
section
variable {P : Program} {o : Oper} {ev : Operand → Value} {w : World} {R : Value → World → Prop}
theorem Runs.val {v : Value} (h : (execOp ev o).run P w = .ok (.value v) w) (k : R v w) : Runs P o ev w R := .inl ⟨v, w, h, k⟩
theorem Runs.new {v : Value} {w' : World} (h : (execOp ev o).run P w = .ok (.value v) w') (k : R v w') : Runs P o ev w R := .inl ⟨v, w', h, k⟩
theorem Runs.call {f : FuncId} {args : Array Value} (h : (execOp ev o).run P w = .ok (.enter f args) w) (k : Calls P f args w (fun e w' => ∃ v, e = .returned v ∧ R v w')) : Runs P o ev w R := .inr ⟨f, args, h, k⟩
end
section
variable {P : Program} {a : Act} {S : World → Prop}
theorem yv_pickN {c x y : Operand} {v : Value} (hc : a.eval c = .bool false) (hx : a.eval y = v) : ∀ (o : Oper) (w : World), o.op = .pick c x y → S w → (execOp a.eval o).run P w = .ok (.value v) w := by
  intro o w ho _
  unfold execOp
  generalize a.eval = ev at hc hx ⊢
  simp [ho, hc, hx, go_sem]
end
theorem spell (n : Nat) (T : Array Value) (h : T.size = n) : T = ((List.range n).map fun k => T.getD k undef).toArray := by
  apply Array.ext
  · simp [h]
  · intro i h1 h2
    simp [Array.getD, h1]
theorem slot_getD {a : Act} {d : Tmp} {v : Value} (h : Slot a d v) : a.tmps.getD d undef = v := by
  unfold Slot at h
  rw [Array.getD_eq_getD_getElem?, h]; rfl
def BaseAll (a : Act) : List (Nat × Value) → Prop
  | [] => True
  | p :: r => Slot a p.1 p.2 ∧ BaseAll a r
theorem base_nil (a : Act) : BaseAll a [] := trivial
theorem base_cons {a : Act} {k : Nat} {v : Value} {r : List (Nat × Value)} (h : a.tmps[k]? = some v) (hr : BaseAll a r) : BaseAll a ((k, v) :: r) := ⟨h, hr⟩
theorem base_of {a : Act} {l : List (Nat × Value)} (h : BaseAll a l) : ∀ k v, l.lookup k = some v → Slot a k v := by
  induction l with
  | nil => intro k v hk; cases hk
  | cons p r ih =>
    intro k v hk
    rw [List.lookup_cons] at hk
    by_cases e : k = p.1
    · rw [e] at hk ⊢
      simp at hk
      rw [← hk]
      exact h.1
    · have e' : (k == p.1) = false := by simpa using e
      rw [e'] at hk
      exact ih h.2 k v hk
theorem AllSteps.next {P : Program} {rows : List SRow} {base : List (Nat × Value)} {W0 : World} {r : SRow} {rs : List SRow} (h1 : ∀ v w w', r.V v w → Lat w w' → r.V v w')
    (h2 : ∀ j b, r.guard = some (j, b) → ∃ rj : SRow, rows[j]? = some rj ∧ (∃ d, rj.dst = some d) ∧ j ∈ r.deps ∧ ∀ v w, rj.V v w → v = .bool b)
    (h3 : ∀ (a : Act) (w : World), Lat W0 w → (∀ k v, base.lookup k = some v → a.eval (.tmp k) = v) → (∀ (j : Nat) (rj : SRow) (d : Tmp), j ∈ r.deps → rows[j]? = some rj → rj.dst = some d → ∃ v, a.eval (.tmp d) = v ∧ rj.V v w) →
      ∀ o : Oper, o.op = r.op → Runs P o a.eval w (fun v w' => Lat w w' ∧ (r.dst.isSome = true → r.V v w'))) (hs : AllSteps P rows base W0 rs) : AllSteps P rows base W0 (r :: rs) := ⟨⟨h1, h2, h3⟩, hs⟩
theorem AllSteps.none {P : Program} {rows : List SRow} {base : List (Nat × Value)} {W0 : World} : AllSteps P rows base W0 [] := trivial
end Go.Proofs.YtogkkhaepfablaaGreat
