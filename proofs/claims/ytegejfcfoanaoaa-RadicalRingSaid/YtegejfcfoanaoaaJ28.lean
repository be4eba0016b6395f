/- Several texts in one: Store, StoreB, Round. -/
import Derived.Test.YtegejfcfoanaoaaJ01
import Derived.Deep.MidRow
import Derived.BigFrame
import Derived.RangeFuncNested
import Derived.RangeFuncBound
import Derived.RangeFuncCalls
import Derived.RangeFuncLeaves
import Derived.OwnWalkIn
import Derived.Orders
import Derived.OrdersHeld
import Derived.Deep.RegionHeld

/- A store into a whole block: the new world under a name. -/
namespace Go.Proofs.Ytegejfcfoanaoaa
open Go.RowKit

theorem Blk.setCells_at {g : Nat} {t : TypeId} (vs : List Value) : ∀ (w : World) (o : Nat) (cs : Array Value), Blk w g t cs → o + vs.length ≤ cs.size →
    ∃ cs', Blk (w.setCells g o vs) g t cs' ∧ cs'.size = cs.size ∧ (∀ j v, vs[j]? = some v → cs'[o + j]? = some v) ∧ ∀ j, j < o → cs'[j]? = cs[j]? := by
  induction vs with
  | nil => exact fun w o cs h _ => ⟨cs, h, rfl, fun j v h => by simp at h, fun _ _ => rfl⟩
  | cons x r ih =>
    intro w o cs h hl
    obtain ⟨cs', h1, h2, h3, h4⟩ := ih (w.setCell ⟨g, o, none⟩ x) (o + 1) _ (h.set o x) (by simp at hl ⊢; omega)
    refine ⟨cs', h1, by simpa using h2, fun j v hj => ?_, fun j hj => ?_⟩
    · cases j with
      | zero =>
        simp at hj
        subst hj
        rw [Nat.add_zero, h4 o (by omega)]
        have : o < cs.size := by simp at hl; omega
        simp [this]
      | succ j =>
        have := h3 j v (by simpa using hj)
        rw [show o + (j + 1) = o + 1 + j by omega]
        exact this
    · rw [h4 j (by omega), Array.getElem?_setIfInBounds_ne (by omega)]
theorem Blk.setCells {w : World} {g : Nat} {t : TypeId} {old : Array Value} (h : Blk w g t old) (cs : Array Value) (hs : old.size = cs.size) : Blk (w.setCells g 0 cs.toList) g t cs := by
  obtain ⟨cs', h1, h2, h3, _⟩ := Blk.setCells_at cs.toList w 0 old h (by simp; omega)
  have : cs' = cs := by
    apply Array.ext_getElem?
    intro j
    rcases Nat.lt_or_ge j cs.size with hj | hj
    · have := h3 j cs[j] (by simp [hj])
      rw [Nat.zero_add] at this
      rw [this]; simp [hj]
    · rw [Array.getElem?_eq_none (by omega), Array.getElem?_eq_none hj]
  rw [this] at h1
  exact h1
theorem Lat.setCells {w0 : World} {g : Nat} (hg : w0.heap.size ≤ g) (vs : List Value) : ∀ (w : World) (o : Nat), Lat w0 w → Lat w0 (w.setCells g o vs) := by
  induction vs with
  | nil => exact fun w o h => h
  | cons x r ih => exact fun w o h => ih _ _ (h.setCell (p := ⟨g, o, none⟩) hg x)
theorem heap_setCells {g k : Nat} (hk : k ≠ g) (vs : List Value) : ∀ (w : World) (o : Nat), (w.setCells g o vs).heap[k]? = w.heap[k]? := by
  induction vs with
  | nil => exact fun w o => rfl
  | cons x r ih => exact fun w o => (ih _ _).trans (Below.heap_setCell w ⟨g, o, none⟩ x k hk)
theorem size_setCells {g : Nat} (vs : List Value) : ∀ (w : World) (o : Nat), (w.setCells g o vs).heap.size = w.heap.size := by
  induction vs with
  | nil => exact fun w o => rfl
  | cons x r ih => exact fun w o => (ih _ _).trans (by simp [World.setCell])

/-- What a store into the whole block g leaves of the world w. -/
structure Put (w w' : World) (g : Nat) (t : TypeId) (cs : Array Value) : Prop where
  blk : Blk w' g t cs
  lat : ∀ W0, Lat W0 w → W0.heap.size ≤ g → Lat W0 w'
  far : ∀ k, k ≠ g → w'.heap[k]? = w.heap[k]?
  size : w'.heap.size = w.heap.size
theorem Put.keep {w w' : World} {g g' : Nat} {t t' : TypeId} {cs cs' : Array Value} (h : Put w w' g t cs) (hb : Blk w g' t' cs') (hne : g' ≠ g) : Blk w' g' t' cs' := (h.far g' hne).trans hb

theorem wpList_put {P : Program} {ops : Array Oper} {rest : List Oper} {op : Oper} {a : Act} {w : World} {Q : Exit → Act → World → Prop} (hgd : op.guard = none) (ty : TypeId) (x y : Operand) (ho : op.op = .store ty x y) (hd : op.dst = none)
    (g : Nat) (hx : a.eval x = .pointer (some ⟨g, 0, none⟩)) (cs : Array Value) (hy : a.eval y = .agg cs) {t : TypeId} {old : Array Value} (hb : Blk w g t old) (hs : old.size = cs.size)
    (hi : (P.info? ty).map (·.size) = some cs.size) (h1 : cs.all (·.oneCell') = true)
    (h : ∀ w', Put w w' g t cs → wpList P ops Q rest a w') : wpList P ops Q (op :: rest) a w := by
  have ht : w.there g 0 cs.size := fun j hj => by
    rw [Nat.zero_add]
    exact ⟨by rw [hb.cell j, Array.getElem?_eq_getElem (by omega)]; rfl, hb.frozen j⟩
  refine wpList_store_mid hgd ty x y ho g 0 cs hx hy ht hi h1 ?_
  have e : a.put op.dst undef = a := by rw [hd]; rfl
  rw [e]
  exact h _ ⟨hb.setCells cs hs, fun W0 hl hle => Lat.setCells hle _ _ _ hl, fun k hk => heap_setCells hk _ _ _, size_setCells _ _ _⟩
/-- A load of a whole block. -/
theorem wpList_get {P : Program} {ops : Array Oper} {rest : List Oper} {op : Oper} {a : Act} {w : World} {Q : Exit → Act → World → Prop} (hgd : op.guard = none) (ty : TypeId) (x : Operand) (ho : op.op = .load ty x)
    (g : Nat) (hx : a.eval x = .pointer (some ⟨g, 0, none⟩)) {t : TypeId} {cs : Array Value} (hb : Blk w g t cs) (d : TypeDesc) (hu : P.underlying ty = some d) (hr : d.isRow = true)
    (hi : (P.info? ty).map (·.size) = some cs.size) (h : wpList P ops Q rest (a.put op.dst (.agg cs)) w) : wpList P ops Q (op :: rest) a w :=
  wpList_load_mid hgd ty x ho g 0 hx cs.toList d (fun j v hj => by rw [Nat.zero_add, hb.cell j]; simpa using hj) hu hr (by simpa using hi) (by simpa using h)
end Go.Proofs.Ytegejfcfoanaoaa

/- A load of a whole block at an operation that is guarded. -/
namespace Go.Proofs.Ytegejfcfoanaoaa
open Go.RowKit

/-- .. at an operation that is guarded, and wanted. -/
theorem wpList_getG {P : Program} {ops : Array Oper} {rest : List Oper} {op : Oper} {a : Act} {w : World} {Q : Exit → Act → World → Prop} (hw : Region.wanted op (yielded ops a.tmps) = true) (ty : TypeId) (x : Operand) (ho : op.op = .load ty x)
    (g : Nat) (hx : a.eval x = .pointer (some ⟨g, 0, none⟩)) {t : TypeId} {cs : Array Value} (hb : Blk w g t cs) (d : TypeDesc) (hu : P.underlying ty = some d) (hr : d.isRow = true)
    (hi : (P.info? ty).map (·.size) = some cs.size) (h : wpList P ops Q rest (a.put op.dst (.agg cs)) w) : wpList P ops Q (op :: rest) a w :=
  Go.BigFrame.wpList_want hw fun _ hK => wp_load_mid ty x ho g 0 hx cs.toList d (fun j v hj => by rw [Nat.zero_add, hb.cell j]; simpa using hj) hu hr (by simpa using hi) (hK _ _ (by simpa using h))
end Go.Proofs.Ytegejfcfoanaoaa

/- A range over a function where the iterator and the body both write memory: the regions of a round's body go by the laws of the plain walk; a round; the statement. -/
namespace Go.Proofs.Ytegejfcfoanaoaa
open Go.RowKit

section
variable {P : Program} {ops : Array Oper} {Q : Exit → Act → World → Prop} {n l : Nat}

theorem uponIn_of_upon {o : Oper} {a : Act} {K K' : Act → World → Prop} (hK : ∀ a w, K a w → K' a w) : ∀ r : Result Next, o.upon P a K Q r → o.uponIn (Fence.wide.inRound l) n P a K' Q r := by
  intro r h
  have hd : (Fence.wide.inRound l).depth.isSome = true → 1 ≤ n := fun h => by simp [Fence.wide] at h
  cases r with
  | ok x w' =>
    cases x with
    | value v => exact hK _ _ h
    | skip => exact hK _ _ h
    | defer d => exact hK _ _ h
    | enter f args =>
      refine ⟨hd, CallsIn.inRound l (callsIn_wide.2 (Calls.mono h fun e w'' he => ?_))⟩
      cases e with
      | returned v => exact hK _ _ he
      | panicked c => exact he
      | outgrown => exact he
    | row row args =>
      refine ⟨hd, fun c cs _ => ?_⟩
      obtain ⟨v, w', hr, hs⟩ := h c cs
      exact ⟨v, w', hK _ _ hr, stepsIn_wide.2 hs⟩
    | round l f tmps assign body => exact h.elim
    | _ => exact h.elim
  | halt x w' =>
    cases x <;> first | exact h | exact h.elim

theorem wpOpsIn_of_wpOps (hno : ¬ LetsOut Q) (hd : ∀ (i : Nat) (o : Oper) (c : Call), ops[i]? = some o → o.op ≠ .defer c) :
    ∀ (is : List Nat) (a : Act) (w : World), wpOps P ops Q is a w → wpOpsIn (Fence.wide.inRound l) n P ops Q is a w := by
  intro is
  induction is with
  | nil => exact fun a w h => h
  | cons i rest ih =>
    intro a w h
    unfold wpOps at h
    unfold wpOpsIn
    cases ho : ops[i]? with
    | none => simp only [ho] at h ⊢; exact ih a w h
    | some o =>
      simp only [ho] at h ⊢
      by_cases hw : Region.wanted o (yielded ops a.tmps) = true
      · rw [if_pos hw] at h ⊢
        rcases h with h | ⟨_, h⟩
        · refine ⟨fun _ _ => trivial, ?_⟩
          rw [Oper.semAt_plain _ _ _ (fun c => hd i o c ho)]
          exact uponIn_of_upon ih _ h
        · exact absurd h hno
      · rw [if_neg hw] at h ⊢
        exact ⟨fun _ _ => trivial, ih _ _ h⟩

/-- A region of a round's body, by the laws of the plain walk. -/
theorem round_region {id : Nat} {os : List Oper} {a : Act} {w : World} (hno : ¬ LetsOut Q) (hd : (os.all fun o => match o.op with | .defer _ => false | _ => true) = true) (h : wpList P os.toArray Q os a w) :
    (Code.region id os.toArray false).wpIn (Fence.wide.inRound l) n P Q a w := by
  refine wpIn_region (wpOpsIn_of_wpOps hno (fun i o c ho e => ?_) _ _ _ ?_)
  · rw [List.all_eq_true] at hd
    have := hd o (List.mem_of_getElem? (by simpa using ho))
    rw [e] at this
    cases this
  · rw [List.range_eq_range', ← Array.length_toList, wpOps_eq_wpList os.toArray.toList 0 (by simp)]
    simpa using h
/-- .. one that draws its order. -/
theorem round_region_any {id : Nat} {os : List Oper} {a : Act} {w : World} (hno : ¬ LetsOut Q) (hm : P.follows .mixedOrders = true) (hd : (os.all fun o => match o.op with | .defer _ => false | _ => true) = true)
    (h : wpAny P .any os.toArray Q os.toArray.size (Array.replicate os.toArray.size false) a w.drew) : (Code.region id os.toArray true).wpIn (Fence.wide.inRound l) n P Q a w := by
  refine wpIn_region_draw fun t => ?_
  simp only [Region.schedule, hm, Bool.true_or, if_true]
  refine wpOpsIn_of_wpOps hno (fun i o c ho e => ?_) _ _ _ (wpAny_sound _ t _ a _ h)
  rw [List.all_eq_true] at hd
  have := hd o (List.mem_of_getElem? (by simpa using ho))
  rw [e] at this
  cases this
theorem round_region_held {S : World → Prop} {id : Nat} {os : List Oper} {a : Act} {w : World} (hno : ¬ LetsOut Q) (hm : P.follows .mixedOrders = true) (hd : (os.all fun o => match o.op with | .defer _ => false | _ => true) = true)
    (hS : S w.drew) (h : S w.drew → wpAnyH P .any os.toArray Q S os.toArray.size (Array.replicate os.toArray.size false) a w.drew) : (Code.region id os.toArray true).wpIn (Fence.wide.inRound l) n P Q a w :=
  round_region_any hno hm hd (wpAny_of_held _ _ _ _ (h hS))
end

/-- The record of a loop. -/
def recOf (a : Act) (fn : FuncId) (ps : Array Tmp) (assign body : Code) (D : Nat) (st : LoopState) (pe : Option Code) : Loop :=
  { state := st, pending := pe, fn, tmps := a.tmps, params := ps, assign, body, defers := D }

/-- How a round's body may be left: off its end, or by a break. -/
def roundEnds (l : Nat) (rec : LoopState → Option Code → Loop) (R : Bool → World → Prop) (id : Nat) : Exit → Act → World → Prop
  | .normal, _, w => w.heap[l]? = some (.loop (rec .busy none)) ∧ R true (w.putObj l (.loop (rec .ready none)))
  | .exit i, _, w => i = id ∧ w.heap[l]? = some (.loop (rec .busy none)) ∧ R false (w.putObj l (.loop (rec .done (some (.exit id)))))
  | _, _, _ => False

/-- A round. -/
theorem round_any {P : Program} {a : Act} {fn : FuncId} {ps : Array Tmp} {assign body : Code} {D l n id : Nat} {args : Array Value} {W : World} {R : Bool → World → Prop}
    (hl : W.heap[l]? = some (.loop (recOf a fn ps assign body D .ready none))) (hs : args.size = ps.size)
    (h : assign.wpIn (Fence.wide.inRound l) n P (Exit.then (fun a₁ w₁ => w₁.heap[l]? = some (.loop (recOf a fn ps assign body D .ready none)) ∧
        body.wpIn (Fence.wide.inRound l) n P (roundEnds l (recOf a fn ps assign body D) R id) a₁ (w₁.putObj l (.loop (recOf a fn ps assign body D .busy none)))) (fun _ _ _ => False))
      { tmps := (ps.zip args).foldl (fun tmps (t, a) => tmps.setIfInBounds t a) a.tmps, defers := [] } W) :
    YieldAt Fence.wide n P l args W (fun e w' => ∃ b, e = .returned (.bool b) ∧ R b w') := by
  refine ⟨fn, _, assign, body, run_yield hl hs, roundIn_of_wpIn trivial ?_⟩
  refine wpIn_mono h ?_
  rintro e a₁ w₁ hq
  cases e with
  | normal =>
    obtain ⟨hl1, hb⟩ := hq
    refine ⟨_, run_beginRound hl1 rfl, ?_⟩
    refine wpIn_mono hb ?_
    rintro e a₂ w₂ hq
    cases e with
    | normal =>
      obtain ⟨h1, h2⟩ := hq
      exact ⟨_, _, run_endRound none h1, true, rfl, h2⟩
    | exit i =>
      obtain ⟨rfl, h1, h2⟩ := hq
      exact ⟨_, _, run_endRound (some (.exit i)) h1, false, rfl, h2⟩
    | ret => exact hq.elim
    | goto t => exact hq.elim
    | panic c => exact hq.elim
    | outgrown => exact hq.elim
  | exit id => exact hq.elim
  | ret => exact hq.elim
  | goto t => exact hq.elim
  | panic c => exact hq.elim
  | outgrown => exact hq.elim

/-- What the iterator's call must leave: it has run to its end, or a round has left by the break. -/
def iterEnds (l D id : Nat) (rec : LoopState → Option Code → Loop) (Q : Exit → Act → World → Prop) (a : Act) (e : Ending) (w : World) : Prop :=
  ∃ v, e = .returned v ∧
    ((w.heap[l]? = some (.loop (rec .ready none)) ∧ Q .normal { a with defers := { target := .collected D, args := #[] } :: a.defers } (w.putObj l (.loop (rec .exhausted none)))) ∨
     (w.heap[l]? = some (.loop (rec .done (some (.exit id)))) ∧ Q (.exit id) { a with defers := { target := .collected D, args := #[] } :: a.defers } (w.putObj l (.loop (rec .exhausted (some (.exit id)))))))

/-- The statement. -/
theorem rangeFunc_any {P : Program} {g : Operand} {ps : Array Tmp} {assign body : Code} {Q : Exit → Act → World → Prop} {a : Act} {w : World} {id : Nat} {gf : Nat} {lb : Array Value}
    (hg : a.eval g = .func (.func gf) #[] lb) (eg : ∀ args w, (callFunc gf args).run P w = .ok (.enter gf args) w)
    (h : ∀ (fn : FuncId) (W1 : World), W1 = (w.alloc (.deferred (some []))).alloc (.loop (recOf a fn ps assign body w.heap.size .ready none)) →
      Calls P gf (#[.func (.yield (w.heap.size + 1)) #[] #[]] ++ lb) W1 (iterEnds (w.heap.size + 1) w.heap.size id (recOf a fn ps assign body w.heap.size) Q a)) :
    (Code.rangeFunc g ps assign body).wp P Q a w := by
  refine (wpIn_wide (n := 3)).1 (wpIn_rangeFunc (F := Fence.wide) (n := 3) ?_)
  intro fn _
  have hro : Fence.wide.round = none := rfl
  rw [hro]
  have h' := h fn _ rfl
  obtain ⟨W1, hW1⟩ : ∃ W1, (w.alloc (.deferred (some []))).alloc (.loop (recOf a fn ps assign body w.heap.size .ready none)) = W1 := ⟨_, rfl⟩
  rw [hW1] at h'
  refine ⟨w.heap.size + 1, [{ target := .collected w.heap.size, args := #[] }], W1, { target := .fn (.func gf) lb, args := #[.func (.yield (w.heap.size + 1)) #[] #[]] }, W1, gf,
    #[.func (.yield (w.heap.size + 1)) #[] #[]] ++ lb, W1, ?_, ?_, fun _ _ => trivial, ?_, ?_, ?_⟩
  · have := run_enterLoop_outer (P := P) (w := w) fn a.tmps ps assign body
    rw [this, ← hW1]
    rfl
  · clear h h' eg
    simp only [resolve, hg]
    simp [go_sem]
  · clear h h' hg
    simp [invoke, go_sem, eg]
  · intro hh; cases hh
  · rw [show (3 - 1 : Nat) = 2 from rfl]
    refine callsIn_wide.2 (h'.mono ?_)
    rintro e w2 ⟨v, rfl, h⟩
    rcases h with ⟨h1, h2⟩ | ⟨h1, h2⟩
    · exact ⟨none, _, run_endLoop h1 (by simp [recOf]), h2⟩
    · exact ⟨some (.exit id), _, run_endLoop h1 (by simp [recOf]), wpIn_exit h2⟩

/-- What the body of a function must achieve that may hold a range over a function. -/
def marksPost (P : Program) (fn : Func) (R : Ending → World → Prop) : Exit → Act → World → Prop
  | .normal, a, w | .ret, a, w => LeavesInM Fence.wide 3 P fn a.tmps R a.defers .returning w
  | _, _, _ => False
/-- A function's contract from its body, where the body may hold a range over a function. -/
theorem calls_of_marks {P : Program} {f : FuncId} {fn : Func} {c : Code} {args : Array Value} {w : World} {R : Ending → World → Prop} (hf : P.funcs[f]? = some fn) (hb : fn.body = some c)
    (h : c.wp P (marksPost P fn R) { tmps := args ++ Array.replicate (fn.ntmps - args.size) undef, defers := [] } w) : Calls P f args w R := by
  refine (callsIn_wide (n := 3)).1 (callsIn_of_wp_marks hf hb trivial (wpIn_wide.2 (Code.wp_mono ?_ h)))
  intro e a w h
  cases e <;> first | exact h | exact h.elim
theorem leave_plain {P : Program} {fn : Func} {R : Ending → World → Prop} {tmps : Array Value} {w : World} {v : Value} (hr : (results fn tmps).run P w = .ok v w) (hR : R (.returned v) w) :
    marksPost P fn R .ret { tmps := tmps, defers := [] } w := ⟨v, hr, hR⟩
theorem leave_mark {P : Program} {fn : Func} {R : Ending → World → Prop} {tmps : Array Value} {w : World} {v : Value} {D : Nat} (hK : w.heap[D]? = some (.deferred (some [])))
    (hr : (results fn tmps).run P (w.putObj D (.deferred none)) = .ok v (w.putObj D (.deferred none))) (hR : R (.returned v) (w.putObj D (.deferred none))) :
    marksPost P fn R .ret { tmps := tmps, defers := [{ target := .collected D, args := #[] }] } w :=
  ⟨by simp, .inl ⟨D, _, rfl, run_takeDeferred hK, v, hr, hR⟩⟩
end Go.Proofs.Ytegejfcfoanaoaa
