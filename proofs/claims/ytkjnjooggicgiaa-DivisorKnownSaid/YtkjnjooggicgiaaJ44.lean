/- Several texts in one: Held. -/
import Derived.Test.YtkjnjooggicgiaaJ26

/- A region that draws its order, walked by hand: laws that hold the operation's parts apart, so that a long region stays cheap. -/
namespace Go.Proofs.Ytkjnjooggicgiaa
open Go.RowKit
set_option linter.unusedSimpArgs false

/-- What an operation is made of: what it does, the slot it writes, its guard. -/
def partsO (o : Oper) : Op × Option Tmp × Option (Nat × Bool) := (o.op, o.dst, o.guard)
theorem wanted_none {ops : Array Oper} {tmps : Array Value} : ∀ o : Oper, o.guard = none → Region.wanted o (yielded ops tmps) = true := by
  intro o ho
  unfold Region.wanted
  rw [ho]
theorem wanted_yes {ops : Array Oper} {tmps : Array Value} (j d : Nat) (hd : (ops[j]?).bind (·.dst) = some d) (hv : tmps[d]? = some (.bool true)) : ∀ o : Oper, o.guard = some (j, true) → Region.wanted o (yielded ops tmps) = true := by
  intro o hg
  unfold Region.wanted yielded
  rw [hg]
  simp [hd, hv]
section
variable {P : Program} {md : Region.Mode} {ops : Array Oper} {Q : Exit → Act → World → Prop} {S : World → Prop}
theorem opAt_of {i : Nat} {x : Op × Option Tmp × Option (Nat × Bool)} (h : (ops[i]?).map partsO = some x) : ∃ o, ops[i]? = some o ∧ o.op = x.1 ∧ o.dst = x.2.1 ∧ o.guard = x.2.2 := by
  cases ho : ops[i]? with
  | none => rw [ho] at h; cases h
  | some o =>
    rw [ho] at h
    simp only [Option.map_some, Option.some.injEq] at h
    exact ⟨o, rfl, by rw [← h]; rfl, by rw [← h]; rfl, by rw [← h]; rfl⟩
/-- Take operation i first: it yields v in every world that meets S. -/
theorem wpAnyH_takeD (i : Nat) (op : Op) (d : Option Tmp) (g : Option (Nat × Bool)) (v : Value) {fuel : Nat} {listed : Array Bool} {a : Act} {w : World} (h0 : (ops[i]?).map partsO = some (op, d, g))
    (hs : Region.noSelect ops = true) (hf : Region.free md ops listed i = true) (hr : (Region.ready md ops listed).contains i = true)
    (hQ : ∀ c a w, Q (.panic c) (a.put d v) w → Q (.panic c) a w) (hw : ∀ o : Oper, o.guard = g → Region.wanted o (yielded ops a.tmps) = true)
    (hv : ∀ (o : Oper) (w : World), o.op = op → S w → (execOp a.eval o).run P w = .ok (.value v) w) (hS : S w)
    (h : wpAnyH P md ops Q S fuel (listed.setIfInBounds i true) (a.put d v) w) : wpAnyH P md ops Q S (fuel + 1) listed a w := by
  obtain ⟨o, e1, e2, e3, e4⟩ := opAt_of h0
  subst e3
  exact wpAnyH_take e1 hs hf hr hQ (.inl ⟨hw o e4, fun w hS => hv o w e2 hS⟩) hS h
/-- Operation i, of those that may come up, yields v and leaves the world w2. -/
theorem AllReadyH.yield (i : Nat) (op : Op) (d : Option Tmp) (g : Option (Nat × Bool)) (v : Value) {rs : List Nat} {fuel : Nat} {listed : Array Bool} {a : Act} {w w2 : World} (h0 : (ops[i]?).map partsO = some (op, d, g))
    (hw : ∀ o : Oper, o.guard = g → Region.wanted o (yielded ops a.tmps) = true)
    (hv : ∀ o : Oper, o.op = op → (execOp a.eval o).run P w = .ok (.value v) w2)
    (h : S w2 ∧ (S w2 → wpAnyH P md ops Q S fuel (listed.setIfInBounds i true) (a.put d v) w2)) (hs : AllReadyH P md ops Q S fuel listed a w rs) : AllReadyH P md ops Q S fuel listed a w (i :: rs) := by
  obtain ⟨o, e1, e2, e3, e4⟩ := opAt_of h0
  subst e3
  refine AllReadyH.cons e1 (fun K hK => ?_) hs
  rw [if_pos (hw o e4), Oper.wp, hv o e2, Oper.upon_value]
  exact hK.out _ _ h.1 h.2
/-- Operation i, of those that may come up, is a call. -/
theorem AllReadyH.call (i : Nat) (f : FuncId) (args : Array Operand) (tys : Array TypeId) (vals : Array Value) (d : Option Tmp) (g : Option (Nat × Bool)) {rs : List Nat} {fuel : Nat} {listed : Array Bool} {a : Act} {w : World} {R : Ending → World → Prop}
    (h0 : (ops[i]?).map partsO = some (.call ⟨.value (.func f), args, tys⟩, d, g))
    (hw : ∀ o : Oper, o.guard = g → Region.wanted o (yielded ops a.tmps) = true) (ha : args.map a.eval = vals)
    (hv : ∀ o : Oper, o.op = .call ⟨.value (.func f), args, tys⟩ → args.map a.eval = vals → (execOp a.eval o).run P w = .ok (.enter f vals) w)
    (hC : Calls P f vals w R)
    (h : ∀ e w2, R e w2 → ∃ v, e = .returned v ∧ S w2 ∧ (S w2 → wpAnyH P md ops Q S fuel (listed.setIfInBounds i true) (a.put d v) w2)) (hs : AllReadyH P md ops Q S fuel listed a w rs) : AllReadyH P md ops Q S fuel listed a w (i :: rs) := by
  obtain ⟨o, e1, e2, e3, e4⟩ := opAt_of h0
  subst e3
  refine AllReadyH.cons e1 (fun K hK => ?_) hs
  rw [if_pos (hw o e4), Oper.wp, hv o e2 ha, Oper.upon_enter]
  refine hC.mono fun e w2 hR => ?_
  obtain ⟨v, rfl, h1, h2⟩ := h e w2 hR
  exact hK.out _ _ h1 h2
/-- One operation alone may come up. -/
theorem wpAnyH_one (i : Nat) {fuel : Nat} {listed : Array Bool} {a : Act} {w : World} (hr : Region.ready md ops listed = [i])
    (h : AllReadyH P md ops Q S fuel listed a w [i]) : wpAnyH P md ops Q S (fuel + 1) listed a w := wpAnyH_ready hr (by simp) h

/-- It yields v, in every world that meets S. -/
theorem wpAnyH_oneD (i : Nat) (op : Op) (d : Option Tmp) (g : Option (Nat × Bool)) (v : Value) {fuel : Nat} {listed : Array Bool} {a : Act} {w : World} (h0 : (ops[i]?).map partsO = some (op, d, g))
    (hr : Region.ready md ops listed = [i]) (hw : ∀ o : Oper, o.guard = g → Region.wanted o (yielded ops a.tmps) = true)
    (hv : ∀ (o : Oper) (w : World), o.op = op → S w → (execOp a.eval o).run P w = .ok (.value v) w) (hS : S w)
    (h : wpAnyH P md ops Q S fuel (listed.setIfInBounds i true) (a.put d v) w) : wpAnyH P md ops Q S (fuel + 1) listed a w :=
  wpAnyH_one i hr (AllReadyH.yield i op d g v h0 hw (fun o ho => hv o w ho hS) ⟨hS, fun _ => h⟩ AllReadyH.nil)

/-! ### What the operations yield -/
variable {a : Act}
theorem yv_move {x : Operand} {v : Value} (hx : a.eval x = v) : ∀ (o : Oper) (w : World), o.op = .move x → S w → (execOp a.eval o).run P w = .ok (.value v) w := by
  intro o w ho _
  unfold execOp
  simp [ho, hx]
theorem yv_assign {x : Operand} {v : Value} {w : World} (hx : a.eval x = v) : ∀ o : Oper, o.op = .assign x → (execOp a.eval o).run P w = .ok (.value v) w := by
  intro o ho
  unfold execOp
  simp [ho, hx]
theorem yv_assignS {x : Operand} {v : Value} (hx : a.eval x = v) : ∀ (o : Oper) (w : World), o.op = .assign x → S w → (execOp a.eval o).run P w = .ok (.value v) w := fun o _ ho _ => yv_assign hx o ho
theorem yv_pick {c x y : Operand} {v : Value} (hc : a.eval c = .bool true) (hx : a.eval x = v) : ∀ (o : Oper) (w : World), o.op = .pick c x y → S w → (execOp a.eval o).run P w = .ok (.value v) w := by
  intro o w ho _
  unfold execOp
  generalize a.eval = ev at hc hx ⊢
  simp [ho, hc, hx, go_sem]
theorem yv_bin {op : BinOp} {t t2 : TypeId} {x y : Operand} {X Y : Array Value} {V : Value} (hx : a.eval x = .agg X) (hy : a.eval y = .agg Y) (hm : P.eqGuardType P.depth t = false) (hrun : ∀ w, (binOp op t (.agg X) (.agg Y)).run P w = .ok V w) :
    ∀ (o : Oper) (w : World), o.op = .binOp op t x y t2 → S w → (execOp a.eval o).run P w = .ok (.value V) w := by
  intro o w ho _
  unfold execOp
  have hg := run_eqGuard_agg (P := P) w op t x y X Y hm
  simp [ho, hx, hy, hg, hrun w]
theorem yv_load {ty : TypeId} {x : Operand} {b : Nat} {cs : List Value} {d : TypeDesc} (hx : a.eval x = .pointer (some ⟨b, 0, none⟩)) (hR : ∀ w, S w → w.rangeAt b 0 cs) (hu : P.underlying ty = some d) (hd : d.isRow = true) (hi : (P.info? ty).map (·.size) = some cs.length) :
    ∀ (o : Oper) (w : World), o.op = .load ty x → S w → (execOp a.eval o).run P w = .ok (.value (.agg cs.toArray)) w := by
  intro o w ho hS
  unfold execOp
  simp only [ho, hx, Instr.loadAt, Instr.sureAddr, Sem.run_bind, Sem.run_pure, Result.andThen_ok, run_loadVar_mid w b 0 ty cs d (hR w hS) hu hd hi]
end
section
variable {a : Act} {S : World → Prop}
theorem yv_eql {x y : Operand} {m n : Int} (hx : a.eval x = .int .i64 m) (hy : a.eval y = .int .i64 n) (hk : (m == n) = true) : ∀ (o : Oper) (w : World), o.op = .binOp .eql 3 x y 3 → S w → (execOp a.eval o).run Try.prog w = .ok (.value (.bool true)) w := by
  intro o w ho _
  obtain ⟨d, op, ty, p, af, g⟩ := o
  simp only at ho
  subst ho
  have : m = n := by simpa using hk
  subst this
  unfold execOp
  simp only [hx, hy]
  go_simp
theorem yv_eqlE {x y : Operand} {m n : Int} (hx : a.eval x = .int .i64 m) (hy : a.eval y = .int .i64 n) (hk : (m == n) = true) : ∀ (o : Oper) (w : World), o.op = .binOp .eql 30 x y 30 → S w → (execOp a.eval o).run Try.prog w = .ok (.value (.bool true)) w := by
  intro o w ho _
  obtain ⟨d, op, ty, p, af, g⟩ := o
  simp only at ho
  subst ho
  have : m = n := by simpa using hk
  subst this
  unfold execOp
  simp only [hx, hy]
  go_simp
theorem yv_slice2 (x y : Int) {w : World} : ∀ o : Oper, o.op = .buildSlice 37 2 #[(0, .const (.int .i64 x)), (1, .const (.int .i64 y))] → (execOp a.eval o).run Try.prog w = .ok (.value (.slice (some ⟨w.heap.size, 0, none⟩) 2 2)) (w.alloc (.cells (nums .i64 [x, y]) 3)) := by
  intro o ho
  obtain ⟨d, op, ty, p, af, g⟩ := o
  simp only at ho
  subst ho
  unfold execOp
  go_simp
  rfl
theorem yv_slice3 (x y z : Int) {w : World} : ∀ o : Oper, o.op = .buildSlice 37 3 #[(0, .const (.int .i64 x)), (1, .const (.int .i64 y)), (2, .const (.int .i64 z))] → (execOp a.eval o).run Try.prog w = .ok (.value (.slice (some ⟨w.heap.size, 0, none⟩) 3 3)) (w.alloc (.cells (nums .i64 [x, y, z]) 3)) := by
  intro o ho
  obtain ⟨d, op, ty, p, af, g⟩ := o
  simp only at ho
  subst ho
  unfold execOp
  go_simp
  rfl
theorem yv_slice4 (x y z u : Int) {w : World} : ∀ o : Oper, o.op = .buildSlice 37 4 #[(0, .const (.int .i64 x)), (1, .const (.int .i64 y)), (2, .const (.int .i64 z)), (3, .const (.int .i64 u))] → (execOp a.eval o).run Try.prog w = .ok (.value (.slice (some ⟨w.heap.size, 0, none⟩) 4 4)) (w.alloc (.cells (nums .i64 [x, y, z, u]) 3)) := by
  intro o ho
  obtain ⟨d, op, ty, p, af, g⟩ := o
  simp only at ho
  subst ho
  unfold execOp
  go_simp
  rfl
theorem yv_award {x y z : Operand} {A B : Option Addr} {n c n' c' : Nat} {k : Int} (hx : a.eval x = .slice A n c) (hy : a.eval y = .slice B n' c') (hz : a.eval z = .int .i64 k) : ∀ (o : Oper) (w : World), o.op = .build 39 #[(0, x), (1, y), (2, z)] → S w → (execOp a.eval o).run Try.prog w = .ok (.value (.agg #[.slice A n c, .slice B n' c', .int .i64 k])) w := by
  intro o w ho _
  obtain ⟨d, op, ty, p, af, g⟩ := o
  simp only at ho
  subst ho
  unfold execOp
  generalize a.eval = ev at hx hy hz ⊢
  simp only [hx, hy, hz]
  go_simp
theorem yv_award1 {x : Operand} {A : Option Addr} {n c : Nat} (hx : a.eval x = .slice A n c) : ∀ (o : Oper) (w : World), o.op = .build 39 #[(0, x)] → S w → (execOp a.eval o).run Try.prog w = .ok (.value (.agg #[.slice A n c, .slice none 0 0, .int .i64 0])) w := by
  intro o w ho _
  obtain ⟨d, op, ty, p, af, g⟩ := o
  simp only at ho
  subst ho
  unfold execOp
  generalize a.eval = ev at hx ⊢
  simp only [hx]
  go_simp
theorem yv_call {P : Program} {f : FuncId} {args : Array Operand} {tys : Array TypeId} {vals : Array Value} {w : World} (hf : ∀ vals, (callFunc f vals).run P w = .ok (.enter f vals) w) : ∀ o : Oper, o.op = .call ⟨.value (.func f), args, tys⟩ → args.map a.eval = vals → (execOp a.eval o).run P w = .ok (.enter f vals) w := by
  intro o ho ha
  obtain ⟨d, op, ty, p, af, g⟩ := o
  simp only at ho
  subst ho
  subst ha
  unfold execOp
  go_simp
theorem cf_of {w : World} (vals : Array Value) : (callFunc 8 vals).run Try.prog w = .ok (.enter 8 vals) w := by go_simp
theorem cf_equal {w : World} (vals : Array Value) : (callFunc 12 vals).run Try.prog w = .ok (.enter 12 vals) w := by go_simp
theorem cf_gives {w : World} (vals : Array Value) : (callFunc 11 vals).run Try.prog w = .ok (.enter 11 vals) w := by go_simp
end

/-! ### A frame known by some of its slots -/
structure Has (a : Act) (N : Nat) (L : List (Nat × Value)) : Prop where
  size : a.tmps.size = N
  defers : a.defers = []
  at' : ∀ k v, L.lookup k = some v → a.tmps[k]? = some v
theorem Has.nil {a : Act} {N : Nat} (h : a.tmps.size = N) (hd : a.defers = []) : Has a N [] := ⟨h, hd, fun k v h => by cases h⟩
theorem Has.cons {a : Act} {N : Nat} {L : List (Nat × Value)} (h : Has a N L) (d : Nat) (u : Value) (hu : a.tmps[d]? = some u) : Has a N ((d, u) :: L) :=
  ⟨h.size, h.defers, fun k v hk => by
    rw [List.lookup_cons] at hk
    by_cases e : k = d
    · subst e
      simp at hk
      rw [← hk]; exact hu
    · have e' : (k == d) = false := by simpa using e
      rw [e'] at hk
      exact h.at' k v hk⟩
theorem Has.ev {a : Act} {N : Nat} {L : List (Nat × Value)} (h : Has a N L) {k : Nat} {v : Value} (hk : L.lookup k = some v) : a.eval (.tmp k) = v := by
  have := h.at' k v hk
  simp [Act.eval, this]
theorem eval_const (a : Act) (v : Value) : a.eval (.const v) = v := rfl
theorem Has.put {a : Act} {N : Nat} {L : List (Nat × Value)} (h : Has a N L) {d : Nat} (u : Value) (hd : d < N) : Has (a.put (some d) u) N ((d, u) :: L) :=
  ⟨by simp [Act.put, h.size], by simp [Act.put, h.defers], fun k v hk => by
    rw [List.lookup_cons] at hk
    by_cases e : k = d
    · subst e
      simp at hk
      rw [← hk]
      simp [Act.put, h.size, hd]
    · have e' : (k == d) = false := by simpa using e
      rw [e'] at hk
      have := h.at' k v hk
      simp only [Act.put]
      rw [Array.getElem?_setIfInBounds_ne (by omega)]
      exact this⟩
theorem nameA {Q : Act → Prop} {a : Act} {N : Nat} {L : List (Nat × Value)} (h : Has a N L) (hn : ∀ a', Has a' N L → Q a') : Q a := hn a h
theorem stepA {Q : Act → Prop} {a : Act} {N : Nat} {L : List (Nat × Value)} {d : Nat} {u : Value} (h : Has a N L) (hd : d < N) (hn : ∀ a', Has a' N ((d, u) :: L) → Q a') : Q (a.put (some d) u) := hn _ (h.put u hd)

/-! ### What has come up, as the bits of a number -/
structure ML (listed : Array Bool) (n m : Nat) : Prop where
  size : listed.size = n
  bit : ∀ i, i < n → listed[i]? = some (m.testBit i)
theorem ML.zero (n : Nat) : ML (Array.replicate n false) n 0 := ⟨by simp, fun i hi => by simp [hi]⟩
theorem ML.set {listed : Array Bool} {n m : Nat} (h : ML listed n m) (i : Nat) : ML (listed.setIfInBounds i true) n (m ||| 2 ^ i) :=
  ⟨by simp [h.size], fun j hj => by
    rw [Nat.testBit_or, Nat.testBit_two_pow]
    by_cases e : i = j
    · subst e
      simp [h.size, hj]
    · rw [Array.getElem?_setIfInBounds_ne e, h.bit j hj]
      simp [e]⟩
/-- What each operation waits for. -/
def waits (md : Region.Mode) (ops : Array Oper) : List (List Nat) := ops.toList.map fun o => (o.after.toList.filter (Region.binds md)).map (·.on)
def readyM (n m : Nat) : List (List Nat) → Nat → List Nat
  | [], _ => []
  | e :: es, k => bif m.testBit k then readyM n m es (k + 1) else bif e.all (fun j => decide (j < n) && m.testBit j) then k :: readyM n m es (k + 1) else readyM n m es (k + 1)
theorem readyM_eq (n m : Nat) : ∀ (es : List (List Nat)) (k : Nat), readyM n m es k = ((List.range es.length).filter fun i => !m.testBit (k + i) && ((es[i]?).map (·.all fun j => decide (j < n) && m.testBit j)).getD false).map (k + ·) := by
  intro es
  induction es with
  | nil => intro k; rfl
  | cons e es ih =>
    intro k
    rw [readyM, ih (k + 1), List.length_cons, List.range_succ_eq_map]
    simp only [List.filter_cons, List.filter_map, List.map_map, Nat.add_zero, List.getElem?_cons_zero, Option.map_some, Option.getD_some]
    have e1 : ∀ i, k + 1 + i = k + (i + 1) := fun i => by omega
    have e2 : ((fun x => k + 1 + x) : Nat → Nat) = ((fun x => k + x) ∘ Nat.succ) := funext fun i => by simp [Function.comp]; omega
    have e3 : (fun i => !m.testBit (k + 1 + i) && ((es[i]?).map (·.all fun j => decide (j < n) && m.testBit j)).getD false) = ((fun i => !m.testBit (k + i) && (((e :: es)[i]?).map (·.all fun j => decide (j < n) && m.testBit j)).getD false) ∘ Nat.succ) := funext fun i => by
      simp [Function.comp, e1]
    rw [e2, e3]
    cases h1 : m.testBit k with
    | true => simp
    | false =>
      cases h2 : (e.all fun j => decide (j < n) && m.testBit j) with
      | true => simp
      | false => simp
theorem ready_mask {md : Region.Mode} {ops : Array Oper} {listed : Array Bool} {n m : Nat} {tbl : List (List Nat)} (h : ML listed n m) (hn : ops.size = n) (ht : waits md ops = tbl) : Region.ready md ops listed = readyM n m tbl 0 := by
  subst ht
  rw [readyM_eq]
  have hl : (waits md ops).length = ops.size := by simp [waits]
  rw [hl]
  have : (fun x => 0 + x : Nat → Nat) = id := funext fun x => by simp
  rw [this, List.map_id]
  unfold Region.ready
  refine List.filter_congr fun i hi => ?_
  have hi' : i < n := by rw [← hn]; simpa using hi
  have hb : listed.getD i true = m.testBit i := by rw [Array.getD_eq_getD_getElem?, h.bit i hi']; rfl
  rw [Nat.zero_add, hb]
  congr 1
  have : (waits md ops)[i]? = (ops[i]?).map fun o => (o.after.toList.filter (Region.binds md)).map (·.on) := by simp [waits]
  rw [this]
  cases ops[i]? with
  | none => rfl
  | some o =>
    simp only [Option.map_some, Option.getD_some]
    rw [List.all_map, List.all_filter, ← Array.all_toList]
    congr 1
    funext e
    have : listed.getD e.on false = (decide (e.on < n) && m.testBit e.on) := by
      rw [Array.getD_eq_getD_getElem?]
      by_cases hj : e.on < n
      · rw [h.bit _ hj]; simp [hj]
      · rw [Array.getElem?_eq_none (by rw [h.size]; omega)]; simp [hj]
    simp only [Function.comp, this]
def freeM (md : Region.Mode) (ops : Array Oper) (m i : Nat) : Bool :=
  match ops[i]? with
  | none => false
  | some oi => (List.range ops.size).all fun j => j == i || m.testBit j || match ops[j]? with
      | some oj => oj.after.any (fun e => Region.binds md e && e.on == i) || oi.apart ops oj
      | none => true
theorem free_mask {md : Region.Mode} {ops : Array Oper} {listed : Array Bool} {n m i : Nat} (h : ML listed n m) (hn : ops.size = n) (hf : freeM md ops m i = true) : Region.free md ops listed i = true := by
  unfold freeM at hf
  unfold Region.free
  cases ho : ops[i]? with
  | none => rw [ho] at hf; exact hf
  | some oi =>
    rw [ho] at hf
    simp only [List.all_eq_true, List.mem_range] at hf ⊢
    intro j hj
    have hb : listed.getD j true = m.testBit j := by rw [Array.getD_eq_getD_getElem?, h.bit j (by omega)]; rfl
    rw [hb]
    exact hf j hj

/-- A region's operations, held by what is wanted of them. -/
structure MT (ops : Array Oper) (n : Nat) (tbl : List (List Nat)) (parts : List (Op × Option Tmp × Option (Nat × Bool))) (frees : List (Nat × Nat)) : Prop where
  size : ops.size = n
  waits : waits .any ops = tbl
  noSel : Region.noSelect ops = true
  parts : ops.toList.map partsO = parts
  frees : ∀ p ∈ frees, freeM .any ops p.1 p.2 = true
/-- The guard holds. -/
def Grd (parts : List (Op × Option Tmp × Option (Nat × Bool))) (L : List (Nat × Value)) (g : Option (Nat × Bool)) : Prop :=
  g = none ∨ ∃ j d, g = some (j, true) ∧ (parts[j]?).bind (·.2.1) = some d ∧ L.lookup d = some (.bool true)
section
variable {P : Program} {ops : Array Oper} {Q : Exit → Act → World → Prop} {S : World → Prop} {n N m : Nat} {tbl : List (List Nat)} {parts : List (Op × Option Tmp × Option (Nat × Bool))} {frees : List (Nat × Nat)} {L : List (Nat × Value)} {listed : Array Bool} {a : Act} {w : World} {fuel : Nat}
theorem Grd.none : Grd parts L none := .inl rfl
theorem Grd.yes (j d : Nat) (h1 : (parts[j]?).bind (·.2.1) = some d) (h2 : L.lookup d = some (.bool true)) : Grd parts L (some (j, true)) := .inr ⟨j, d, rfl, h1, h2⟩
theorem MT.at' (h : MT ops n tbl parts frees) {i : Nat} {x : Op × Option Tmp × Option (Nat × Bool)} (h0 : parts[i]? = some x) : (ops[i]?).map partsO = some x := by
  rw [← h.parts] at h0
  simpa using h0
theorem MT.want (h : MT ops n tbl parts frees) (HA : Has a N L) {g : Option (Nat × Bool)} (hg : Grd parts L g) : ∀ o : Oper, o.guard = g → Region.wanted o (yielded ops a.tmps) = true := by
  rcases hg with rfl | ⟨j, d, rfl, h1, h2⟩
  · exact wanted_none
  · refine wanted_yes j d ?_ (HA.at' d _ h2)
    rw [← h.parts] at h1
    cases ho : ops[j]? with
    | none => simp [ho] at h1
    | some o => simpa [ho, partsO] using h1
/-- The beginning. -/
theorem startM {id : Nat} (n : Nat) (tbl : List (List Nat)) (parts : List (Op × Option Tmp × Option (Nat × Bool))) (frees : List (Nat × Nat)) (h1 : ops.size = n) (h2 : waits .any ops = tbl) (h3 : Region.noSelect ops = true) (h4 : ops.toList.map partsO = parts)
    (h5 : (frees.all fun p => freeM .any ops p.1 p.2) = true) (hm : P.follows .mixedOrders = true) (hS : S w.drew)
    (h : ∀ ops, MT ops n tbl parts frees → ∀ listed, ML listed n 0 → S w.drew → wpAnyH P .any ops Q S n listed a w.drew) : (Code.region id ops true).wp P Q a w := by
  refine wp_region_held_drew (S := S) hm hS (fun hHeld => ?_)
  have := h ops ⟨h1, h2, h3, h4, fun p hp => by simpa using List.all_eq_true.1 h5 p hp⟩ (Array.replicate ops.size false) (by rw [h1]; exact ML.zero n) hHeld
  rwa [← h1] at this
theorem stepTake (HT : MT ops n tbl parts frees) (HL : ML listed n m) (HA : Has a N L) (i : Nat) (op : Op) (d : Nat) (g : Option (Nat × Bool)) (v : Value) (h0 : parts[i]? = some (op, some d, g)) (hr : (readyM n m tbl 0).contains i = true) (hf : (m, i) ∈ frees)
    (hQ : ∀ c (a : Act) (u : Value) w, Q (.panic c) (a.put (some d) u) w → Q (.panic c) a w) (hg : Grd parts L g) (hv : ∀ (o : Oper) (w : World), o.op = op → S w → (execOp a.eval o).run P w = .ok (.value v) w) (hS : S w) (hd : d < N) (m' : Nat) (hm : m ||| 2 ^ i = m')
    (h : ∀ listed a, ML listed n m' → Has a N ((d, v) :: L) → wpAnyH P .any ops Q S fuel listed a w) : wpAnyH P .any ops Q S (fuel + 1) listed a w := by
  subst hm
  refine wpAnyH_takeD i op (some d) g v (HT.at' h0) HT.noSel (free_mask HL HT.size (HT.frees _ hf)) (by rw [ready_mask HL HT.size HT.waits]; exact hr) (fun c a w => hQ c a v w) (HT.want HA hg) hv hS ?_
  exact h _ _ (HL.set i) (HA.put v hd)
theorem stepOne (HT : MT ops n tbl parts frees) (HL : ML listed n m) (HA : Has a N L) (i : Nat) (op : Op) (d : Nat) (g : Option (Nat × Bool)) (v : Value) (h0 : parts[i]? = some (op, some d, g)) (hr : readyM n m tbl 0 = [i])
    (hg : Grd parts L g) (hv : ∀ (o : Oper) (w : World), o.op = op → S w → (execOp a.eval o).run P w = .ok (.value v) w) (hS : S w) (hd : d < N) (m' : Nat) (hm : m ||| 2 ^ i = m')
    (h : ∀ listed a, ML listed n m' → Has a N ((d, v) :: L) → wpAnyH P .any ops Q S fuel listed a w) : wpAnyH P .any ops Q S (fuel + 1) listed a w := by
  subst hm
  refine wpAnyH_oneD i op (some d) g v (HT.at' h0) (by rw [ready_mask HL HT.size HT.waits]; exact hr) (HT.want HA hg) hv hS ?_
  exact h _ _ (HL.set i) (HA.put v hd)
/-- Operation i, of those that may come up, makes a new block. -/
theorem AllReadyH.newM (HT : MT ops n tbl parts frees) (HL : ML listed n m) (HA : Has a N L) (i : Nat) (op : Op) (d : Nat) (g : Option (Nat × Bool)) (v : Value) {t : TypeId} {cs : Array Value} {rs : List Nat} (h0 : parts[i]? = some (op, some d, g))
    (hg : Grd parts L g) (hv : ∀ o : Oper, o.op = op → (execOp a.eval o).run P w = .ok (.value v) (w.alloc (.cells cs t))) (hd : d < N) (m' : Nat) (hm : m ||| 2 ^ i = m')
    (hS : ∀ W, Lat w W → S W) (h : ∀ W, Lat w W → Blk W w.heap.size t cs → S W → ∀ listed a, ML listed n m' → Has a N ((d, v) :: L) → wpAnyH P .any ops Q S fuel listed a W) (hs : AllReadyH P .any ops Q S fuel listed a w rs) : AllReadyH P .any ops Q S fuel listed a w (i :: rs) := by
  subst hm
  have hl := Lat.alloc w (.cells cs t)
  exact AllReadyH.yield i op (some d) g v (HT.at' h0) (HT.want HA hg) hv ⟨hS _ hl, fun hs => h _ hl (Blk.new _ _ _) hs _ _ (HL.set i) (HA.put v hd)⟩ hs
/-- Operation i, of those that may come up, is a call. -/
theorem AllReadyH.callM (HT : MT ops n tbl parts frees) (HL : ML listed n m) (HA : Has a N L) (i : Nat) (f : FuncId) (args : Array Operand) (tys : Array TypeId) (vals : Array Value) (d : Nat) (g : Option (Nat × Bool)) {rs : List Nat} {R : Ending → World → Prop}
    (h0 : parts[i]? = some (.call ⟨.value (.func f), args, tys⟩, some d, g)) (hg : Grd parts L g) (ha : args.map a.eval = vals) (hf : ∀ vals, (callFunc f vals).run P w = .ok (.enter f vals) w) (hC : Calls P f vals w R) (v : Value) (hd : d < N) (m' : Nat) (hm : m ||| 2 ^ i = m')
    (hR : ∀ e w2, R e w2 → e = .returned v ∧ S w2)
    (h : ∀ e w2, R e w2 → S w2 → ∀ listed a, ML listed n m' → Has a N ((d, v) :: L) → wpAnyH P .any ops Q S fuel listed a w2) (hs : AllReadyH P .any ops Q S fuel listed a w rs) : AllReadyH P .any ops Q S fuel listed a w (i :: rs) := by
  subst hm
  refine AllReadyH.call i f args tys vals (some d) g (HT.at' h0) (HT.want HA hg) ha (yv_call hf) hC (fun e w2 hr => ?_) hs
  obtain ⟨rfl, h2⟩ := hR e w2 hr
  exact ⟨v, rfl, h2, fun hS => h _ _ hr hS _ _ (HL.set i) (HA.put v hd)⟩
theorem someM (HT : MT ops n tbl parts frees) (HL : ML listed n m) (rs : List Nat) (hr : readyM n m tbl 0 = rs) (hne : rs ≠ []) (h : AllReadyH P .any ops Q S fuel listed a w rs) : wpAnyH P .any ops Q S (fuel + 1) listed a w :=
  wpAnyH_ready (by rw [ready_mask HL HT.size HT.waits]; exact hr) hne h
theorem doneM (HT : MT ops n tbl parts frees) (HL : ML listed n m) (hr : readyM n m tbl 0 = []) (h : Q .normal a w) : wpAnyH P .any ops Q S fuel listed a w :=
  wpAnyH_done (by rw [ready_mask HL HT.size HT.waits]; exact hr) h _
end
end Go.Proofs.Ytkjnjooggicgiaa
