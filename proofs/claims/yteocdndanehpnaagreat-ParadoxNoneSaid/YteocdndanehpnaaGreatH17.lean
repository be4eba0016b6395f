/- Several texts in one: Store, StoreB, Round, Race, Mem, RowP. -/
import Derived.Test.YteocdndanehpnaaGreatH01
import Derived.Deep.MidRow
import Derived.BigFrame
import Derived.RangeFuncNested
import Derived.RangeFuncBound
import Derived.RangeFuncCalls
import Derived.RangeFuncLeaves
import Derived.OwnWalkIn
import Derived.Orders
import Derived.OrdersHeld
import Derived.Deep.RegionHeld
import Derived.Test.YteocdndanehpnaaGreatH16
import Derived.Deep.DeepCutAuto
namespace Go.Proofs.YteocdndanehpnaaGreat
open Go.RowKit
theorem Blk.setCells_at {g : Nat} {t : TypeId} (vs : List Value) : ∀ (w : World) (o : Nat) (cs : Array Value), Blk w g t cs → o + vs.length ≤ cs.size →
  ∃ cs', Blk (w.setCells g o vs) g t cs' ∧ cs'.size = cs.size ∧ (∀ j v, vs[j]? = some v → cs'[o + j]? = some v) ∧ ∀ j, j < o → cs'[j]? = cs[j]? := by
 induction vs with
 | nil => exact fun w o cs h _ => ⟨cs, h, rfl, fun j v h => by simp at h, fun _ _ => rfl⟩
 | cons x r ih =>
   intro w o cs h hl
   obtain ⟨cs', h1, h2, h3, h4⟩ := ih (w.setCell ⟨g, o, none⟩ x) (o + 1) _ (h.set o x) (by simp at hl ⊢; omega)
   refine ⟨cs', h1, by simpa using h2, fun j v hj => ?_, fun j hj => ?_⟩
   ·cases j with
    | zero =>
      simp at hj
      subst hj
      rw [Nat.add_zero, h4 o (by omega)]
      have : o < cs.size := by simp at hl; omega
      simp [this]
    | succ j =>
      have := h3 j v (by simpa using hj)
      rw [show o + (j + 1) = o + 1 + j by omega]
      exact this
   ·rw [h4 j (by omega), Array.getElem?_setIfInBounds_ne (by omega)]
theorem Blk.setCells {w : World} {g : Nat} {t : TypeId} {old : Array Value} (h : Blk w g t old) (cs : Array Value) (hs : old.size = cs.size) : Blk (w.setCells g 0 cs.toList) g t cs := by
 obtain ⟨cs', h1, h2, h3, _⟩ := Blk.setCells_at cs.toList w 0 old h (by simp; omega)
 have : cs' = cs := by
  apply Array.ext_getElem?
  intro j
  rcases Nat.lt_or_ge j cs.size with hj | hj
  ·have := h3 j cs[j] (by simp [hj])
   rw [Nat.zero_add] at this
   rw [this]; simp [hj]
  ·rw [Array.getElem?_eq_none (by omega), Array.getElem?_eq_none hj]
 rw [this] at h1
 exact h1
theorem Lat.setCells {w0 : World} {g : Nat} (hg : w0.heap.size ≤ g) (vs : List Value) : ∀ (w : World) (o : Nat), Lat w0 w → Lat w0 (w.setCells g o vs) := by
 induction vs with
 | nil => exact fun w o h => h
 | cons x r ih => exact fun w o h => ih _ _ (h.setCell (p := ⟨g, o, none⟩) hg x)
theorem heap_setCells {g k : Nat} (hk : k ≠ g) (vs : List Value) : ∀ (w : World) (o : Nat), (w.setCells g o vs).heap[k]? = w.heap[k]? := by
 induction vs with
 | nil => exact fun w o => rfl
 | cons x r ih => exact fun w o => (ih _ _).trans (Below.heap_setCell w ⟨g, o, none⟩ x k hk)
theorem size_setCells {g : Nat} (vs : List Value) : ∀ (w : World) (o : Nat), (w.setCells g o vs).heap.size = w.heap.size := by
 induction vs with
 | nil => exact fun w o => rfl
 | cons x r ih => exact fun w o => (ih _ _).trans (by simp [World.setCell])
structure Put (w w' : World) (g : Nat) (t : TypeId) (cs : Array Value) : Prop where
 blk : Blk w' g t cs
 lat : ∀ W0, Lat W0 w → W0.heap.size ≤ g → Lat W0 w'
 far : ∀ k, k ≠ g → w'.heap[k]? = w.heap[k]?
 size : w'.heap.size = w.heap.size
theorem Put.keep {w w' : World} {g g' : Nat} {t t' : TypeId} {cs cs' : Array Value} (h : Put w w' g t cs) (hb : Blk w g' t' cs') (hne : g' ≠ g) : Blk w' g' t' cs' := (h.far g' hne).trans hb
theorem wpList_put {P : Program} {ops : Array Oper} {rest : List Oper} {op : Oper} {a : Act} {w : World} {Q : Exit → Act → World → Prop} (hgd : op.guard = none) (ty : TypeId) (x y : Operand) (ho : op.op = .store ty x y) (hd : op.dst = none)
  (g : Nat) (hx : a.eval x = .pointer (some ⟨g, 0, none⟩)) (cs : Array Value) (hy : a.eval y = .agg cs) {t : TypeId} {old : Array Value} (hb : Blk w g t old) (hs : old.size = cs.size)
  (hi : (P.info? ty).map (·.size) = some cs.size) (h1 : cs.all (·.oneCell') = true)
  (h : ∀ w', Put w w' g t cs → wpList P ops Q rest a w') : wpList P ops Q (op :: rest) a w := by
 have ht : w.there g 0 cs.size := fun j hj => by
  rw [Nat.zero_add]
  exact ⟨by rw [hb.cell j, Array.getElem?_eq_getElem (by omega)]; rfl, hb.frozen j⟩
 refine wpList_store_mid hgd ty x y ho g 0 cs hx hy ht hi h1 ?_
 have e : a.put op.dst undef = a := by rw [hd]; rfl
 rw [e]
 exact h _ ⟨hb.setCells cs hs, fun W0 hl hle => Lat.setCells hle _ _ _ hl, fun k hk => heap_setCells hk _ _ _, size_setCells _ _ _⟩
theorem wpList_get {P : Program} {ops : Array Oper} {rest : List Oper} {op : Oper} {a : Act} {w : World} {Q : Exit → Act → World → Prop} (hgd : op.guard = none) (ty : TypeId) (x : Operand) (ho : op.op = .load ty x)
  (g : Nat) (hx : a.eval x = .pointer (some ⟨g, 0, none⟩)) {t : TypeId} {cs : Array Value} (hb : Blk w g t cs) (d : TypeDesc) (hu : P.underlying ty = some d) (hr : d.isRow = true)
  (hi : (P.info? ty).map (·.size) = some cs.size) (h : wpList P ops Q rest (a.put op.dst (.agg cs)) w) : wpList P ops Q (op :: rest) a w :=
 wpList_load_mid hgd ty x ho g 0 hx cs.toList d (fun j v hj => by rw [Nat.zero_add, hb.cell j]; simpa using hj) hu hr (by simpa using hi) (by simpa using h)
end Go.Proofs.YteocdndanehpnaaGreat
namespace Go.Proofs.YteocdndanehpnaaGreat
open Go.RowKit
end Go.Proofs.YteocdndanehpnaaGreat
namespace Go.Proofs.YteocdndanehpnaaGreat
open Go.RowKit
section
variable {P : Program} {ops : Array Oper} {Q : Exit → Act → World → Prop} {n l : Nat}
theorem uponIn_of_upon {o : Oper} {a : Act} {K K' : Act → World → Prop} (hK : ∀ a w, K a w → K' a w) : ∀ r : Result Next, o.upon P a K Q r → o.uponIn (Fence.wide.inRound l) n P a K' Q r := by
 intro r h
 have hd : (Fence.wide.inRound l).depth.isSome = true → 1 ≤ n := fun h => by simp [Fence.wide] at h
 cases r with
 | ok x w' =>
   cases x with
   | value v => exact hK _ _ h
   | skip => exact hK _ _ h
   | defer d => exact hK _ _ h
   | enter f args =>
     refine ⟨hd, CallsIn.inRound l (callsIn_wide.2 (Calls.mono h fun e w'' he => ?_))⟩
     cases e with
     | returned v => exact hK _ _ he
     | panicked c => exact he
     | outgrown => exact he
   | row row args =>
     refine ⟨hd, fun c cs _ => ?_⟩
     obtain ⟨v, w', hr, hs⟩ := h c cs
     exact ⟨v, w', hK _ _ hr, stepsIn_wide.2 hs⟩
   | round l f tmps assign body => exact h.elim
   | _ => exact h.elim
 | halt x w' =>
   cases x <;> first | exact h | exact h.elim
theorem wpOpsIn_of_wpOps (hno : ¬ LetsOut Q) (hd : ∀ (i : Nat) (o : Oper) (c : Call), ops[i]? = some o → o.op ≠ .defer c) :
  ∀ (is : List Nat) (a : Act) (w : World), wpOps P ops Q is a w → wpOpsIn (Fence.wide.inRound l) n P ops Q is a w := by
 intro is
 induction is with
 | nil => exact fun a w h => h
 | cons i rest ih =>
   intro a w h
   unfold wpOps at h
   unfold wpOpsIn
   cases ho : ops[i]? with
   | none => simp only [ho] at h ⊢; exact ih a w h
   | some o =>
     simp only [ho] at h ⊢
     by_cases hw : Region.wanted o (yielded ops a.tmps) = true
     ·rw [if_pos hw] at h ⊢
      rcases h with h | ⟨_, h⟩
      ·refine ⟨fun _ _ => trivial, ?_⟩
       rw [Oper.semAt_plain _ _ _ (fun c => hd i o c ho)]
       exact uponIn_of_upon ih _ h
      ·exact absurd h hno
     ·rw [if_neg hw] at h ⊢
      exact ⟨fun _ _ => trivial, ih _ _ h⟩
theorem round_region {id : Nat} {os : List Oper} {a : Act} {w : World} (hno : ¬ LetsOut Q) (hd : (os.all fun o => match o.op with | .defer _ => false | _ => true) = true) (h : wpList P os.toArray Q os a w) :
  (Code.region id os.toArray false).wpIn (Fence.wide.inRound l) n P Q a w := by
 refine wpIn_region (wpOpsIn_of_wpOps hno (fun i o c ho e => ?_) _ _ _ ?_)
 ·rw [List.all_eq_true] at hd
  have := hd o (List.mem_of_getElem? (by simpa using ho))
  rw [e] at this
  cases this
 ·rw [List.range_eq_range', ← Array.length_toList, wpOps_eq_wpList os.toArray.toList 0 (by simp)]
  simpa using h
theorem round_region_any {id : Nat} {os : List Oper} {a : Act} {w : World} (hno : ¬ LetsOut Q) (hm : P.follows .mixedOrders = true) (hd : (os.all fun o => match o.op with | .defer _ => false | _ => true) = true)
  (h : wpAny P .any os.toArray Q os.toArray.size (Array.replicate os.toArray.size false) a w.drew) : (Code.region id os.toArray true).wpIn (Fence.wide.inRound l) n P Q a w := by
 refine wpIn_region_draw fun t => ?_
 simp only [Region.schedule, hm, Bool.true_or, if_true]
 refine wpOpsIn_of_wpOps hno (fun i o c ho e => ?_) _ _ _ (wpAny_sound _ t _ a _ h)
 rw [List.all_eq_true] at hd
 have := hd o (List.mem_of_getElem? (by simpa using ho))
 rw [e] at this
 cases this
theorem round_region_held {S : World → Prop} {id : Nat} {os : List Oper} {a : Act} {w : World} (hno : ¬ LetsOut Q) (hm : P.follows .mixedOrders = true) (hd : (os.all fun o => match o.op with | .defer _ => false | _ => true) = true)
  (hS : S w.drew) (h : S w.drew → wpAnyH P .any os.toArray Q S os.toArray.size (Array.replicate os.toArray.size false) a w.drew) : (Code.region id os.toArray true).wpIn (Fence.wide.inRound l) n P Q a w :=
 round_region_any hno hm hd (wpAny_of_held _ _ _ _ (h hS))
end
def recOf (a : Act) (fn : FuncId) (ps : Array Tmp) (assign body : Code) (D : Nat) (st : LoopState) (pe : Option Code) : Loop :=
 { state := st, pending := pe, fn, tmps := a.tmps, params := ps, assign, body, defers := D }
def roundEnds (l : Nat) (rec : LoopState → Option Code → Loop) (R : Bool → World → Prop) (id : Nat) : Exit → Act → World → Prop
 | .normal, _, w => w.heap[l]? = some (.loop (rec .busy none)) ∧ R true (w.putObj l (.loop (rec .ready none)))
 | .exit i, _, w => i = id ∧ w.heap[l]? = some (.loop (rec .busy none)) ∧ R false (w.putObj l (.loop (rec .done (some (.exit id)))))
 | _, _, _ => False
theorem round_any {P : Program} {a : Act} {fn : FuncId} {ps : Array Tmp} {assign body : Code} {D l n id : Nat} {args : Array Value} {W : World} {R : Bool → World → Prop}
  (hl : W.heap[l]? = some (.loop (recOf a fn ps assign body D .ready none))) (hs : args.size = ps.size)
  (h : assign.wpIn (Fence.wide.inRound l) n P (Exit.then (fun a₁ w₁ => w₁.heap[l]? = some (.loop (recOf a fn ps assign body D .ready none)) ∧
     body.wpIn (Fence.wide.inRound l) n P (roundEnds l (recOf a fn ps assign body D) R id) a₁ (w₁.putObj l (.loop (recOf a fn ps assign body D .busy none)))) (fun _ _ _ => False))
    { tmps := (ps.zip args).foldl (fun tmps (t, a) => tmps.setIfInBounds t a) a.tmps, defers := [] } W) :
  YieldAt Fence.wide n P l args W (fun e w' => ∃ b, e = .returned (.bool b) ∧ R b w') := by
 refine ⟨fn, _, assign, body, run_yield hl hs, roundIn_of_wpIn trivial ?_⟩
 refine wpIn_mono h ?_
 rintro e a₁ w₁ hq
 cases e with
 | normal =>
   obtain ⟨hl1, hb⟩ := hq
   refine ⟨_, run_beginRound hl1 rfl, ?_⟩
   refine wpIn_mono hb ?_
   rintro e a₂ w₂ hq
   cases e with
   | normal =>
     obtain ⟨h1, h2⟩ := hq
     exact ⟨_, _, run_endRound none h1, true, rfl, h2⟩
   | exit i =>
     obtain ⟨rfl, h1, h2⟩ := hq
     exact ⟨_, _, run_endRound (some (.exit i)) h1, false, rfl, h2⟩
   | ret => exact hq.elim
   | goto t => exact hq.elim
   | panic c => exact hq.elim
   | outgrown => exact hq.elim
 | exit id => exact hq.elim
 | ret => exact hq.elim
 | goto t => exact hq.elim
 | panic c => exact hq.elim
 | outgrown => exact hq.elim
def iterEnds (l D id : Nat) (rec : LoopState → Option Code → Loop) (Q : Exit → Act → World → Prop) (a : Act) (e : Ending) (w : World) : Prop :=
 ∃ v, e = .returned v ∧
  ((w.heap[l]? = some (.loop (rec .ready none)) ∧ Q .normal { a with defers := { target := .collected D, args := #[] } :: a.defers } (w.putObj l (.loop (rec .exhausted none)))) ∨
   (w.heap[l]? = some (.loop (rec .done (some (.exit id)))) ∧ Q (.exit id) { a with defers := { target := .collected D, args := #[] } :: a.defers } (w.putObj l (.loop (rec .exhausted (some (.exit id)))))))
theorem rangeFunc_any {P : Program} {g : Operand} {ps : Array Tmp} {assign body : Code} {Q : Exit → Act → World → Prop} {a : Act} {w : World} {id : Nat} {gf : Nat} {lb : Array Value}
  (hg : a.eval g = .func (.func gf) #[] lb) (eg : ∀ args w, (callFunc gf args).run P w = .ok (.enter gf args) w)
  (h : ∀ (fn : FuncId) (W1 : World), W1 = (w.alloc (.deferred (some []))).alloc (.loop (recOf a fn ps assign body w.heap.size .ready none)) →
    Calls P gf (#[.func (.yield (w.heap.size + 1)) #[] #[]] ++ lb) W1 (iterEnds (w.heap.size + 1) w.heap.size id (recOf a fn ps assign body w.heap.size) Q a)) :
  (Code.rangeFunc g ps assign body).wp P Q a w := by
 refine (wpIn_wide (n := 3)).1 (wpIn_rangeFunc (F := Fence.wide) (n := 3) ?_)
 intro fn _
 have hro : Fence.wide.round = none := rfl
 rw [hro]
 have h' := h fn _ rfl
 obtain ⟨W1, hW1⟩ : ∃ W1, (w.alloc (.deferred (some []))).alloc (.loop (recOf a fn ps assign body w.heap.size .ready none)) = W1 := ⟨_, rfl⟩
 rw [hW1] at h'
 refine ⟨w.heap.size + 1, [{ target := .collected w.heap.size, args := #[] }], W1, { target := .fn (.func gf) lb, args := #[.func (.yield (w.heap.size + 1)) #[] #[]] }, W1, gf,
  #[.func (.yield (w.heap.size + 1)) #[] #[]] ++ lb, W1, ?_, ?_, fun _ _ => trivial, ?_, ?_, ?_⟩
 ·have := run_enterLoop_outer (P := P) (w := w) fn a.tmps ps assign body
  rw [this, ← hW1]
  rfl
 ·clear h h' eg
  simp only [resolve, hg]
  simp [go_sem]
 ·clear h h' hg
  simp [invoke, go_sem, eg]
 ·intro hh; cases hh
 ·rw [show (3 - 1 : Nat) = 2 from rfl]
  refine callsIn_wide.2 (h'.mono ?_)
  rintro e w2 ⟨v, rfl, h⟩
  rcases h with ⟨h1, h2⟩ | ⟨h1, h2⟩
  ·exact ⟨none, _, run_endLoop h1 (by simp [recOf]), h2⟩
  ·exact ⟨some (.exit id), _, run_endLoop h1 (by simp [recOf]), wpIn_exit h2⟩
def marksPost (P : Program) (fn : Func) (R : Ending → World → Prop) : Exit → Act → World → Prop
 | .normal, a, w | .ret, a, w => LeavesInM Fence.wide 3 P fn a.tmps R a.defers .returning w
 | _, _, _ => False
theorem calls_of_marks {P : Program} {f : FuncId} {fn : Func} {c : Code} {args : Array Value} {w : World} {R : Ending → World → Prop} (hf : P.funcs[f]? = some fn) (hb : fn.body = some c)
  (h : c.wp P (marksPost P fn R) { tmps := args ++ Array.replicate (fn.ntmps - args.size) undef, defers := [] } w) : Calls P f args w R := by
 refine (callsIn_wide (n := 3)).1 (callsIn_of_wp_marks hf hb trivial (wpIn_wide.2 (Code.wp_mono ?_ h)))
 intro e a w h
 cases e <;> first | exact h | exact h.elim
theorem leave_plain {P : Program} {fn : Func} {R : Ending → World → Prop} {tmps : Array Value} {w : World} {v : Value} (hr : (results fn tmps).run P w = .ok v w) (hR : R (.returned v) w) :
  marksPost P fn R .ret { tmps := tmps, defers := [] } w := ⟨v, hr, hR⟩
theorem leave_mark {P : Program} {fn : Func} {R : Ending → World → Prop} {tmps : Array Value} {w : World} {v : Value} {D : Nat} (hK : w.heap[D]? = some (.deferred (some [])))
  (hr : (results fn tmps).run P (w.putObj D (.deferred none)) = .ok v (w.putObj D (.deferred none))) (hR : R (.returned v) (w.putObj D (.deferred none))) :
  marksPost P fn R .ret { tmps := tmps, defers := [{ target := .collected D, args := #[] }] } w :=
 ⟨by simp, .inl ⟨D, _, rfl, run_takeDeferred hK, v, hr, hR⟩⟩
end Go.Proofs.YteocdndanehpnaaGreat
namespace Go.Proofs.YteocdndanehpnaaGreat
open Go.RowKit
set_option linter.unusedSimpArgs false
structure RankWay (m : Int) (R : Int → Int → List Value → Prop) (f : Int → Int → Int → Int → Int) : Prop where
 len : ∀ {p s S}, R p s S → S.length = 17
 one : ∀ {p s S}, R p s S → ∀ v ∈ S, v.oneCell' = true
 ranked : ∀ (p s : Int) (w : World), 1 ≤ p → p ≤ 1000000000 → 0 ≤ s → s ≤ 1000 → Calls Tryz.prog 57 #[.int .i64 m, .int .i64 p, .int .i64 s] w (fun e w' => ∃ S : List Value, e = .returned (.agg S.toArray) ∧ R p s S ∧ Lat w w')
 cmp : ∀ {p1 s1 p2 s2 S1 S2}, R p1 s1 S1 → R p2 s2 S2 → ∀ w, Calls Tryz.prog 84 #[.agg S1.toArray, .agg S2.toArray] w (fun e w' => e = .returned (.int .i64 (f p1 s1 p2 s2)) ∧ Lat w w')
theorem rankInfo17 : (Tryz.prog.info? 124).map (·.size) = some 17 := by kernel_rfl
def Cl (R : Int → Int → List Value → Prop) (w : World) (g : Nat) (i p s : Int) : Prop :=
 ∃ S : List Value, R p s S ∧ Blk w g 127 (.int .i64 i :: .int .i64 p :: .int .i64 s :: S).toArray
theorem Cl.later {R : Int → Int → List Value → Prop} {W w : World} {g : Nat} {i p s : Int} (h : Cl R W g i p s) (hl : Lat W w) : Cl R w g i p s := by
 obtain ⟨S, h1, h2⟩ := h
 exact ⟨S, h1, h2.later hl⟩
theorem Cl.kept {R : Int → Int → List Value → Prop} {W w : World} {g : Nat} {i p s : Int} (h : Cl R W g i p s) (hk : w.heap[g]? = W.heap[g]?) : Cl R w g i p s := by
 obtain ⟨S, h1, h2⟩ := h
 exact ⟨S, h1, hk.trans h2⟩
theorem Cl.lt {R : Int → Int → List Value → Prop} {w : World} {g : Nat} {i p s : Int} (h : Cl R w g i p s) : g < w.heap.size := by
 obtain ⟨S, _, h2⟩ := h
 exact h2.lt
theorem Blk.rangeFrom {w : World} {g : Nat} {t : TypeId} {x y z : Value} {S : List Value} (h : Blk w g t (x :: y :: z :: S).toArray) : w.rangeAt g 3 S := fun j v hj => by
 rw [h.cell (3 + j), Nat.add_comm]
 simpa using hj
set_option maxRecDepth 100000 in
set_option maxHeartbeats 2000000 in
theorem cmpCl {m : Int} {R : Int → Int → List Value → Prop} {f : Int → Int → Int → Int → Int} (hW : RankWay m R f) (g1 g2 : Nat) (i1 p1 s1 i2 p2 s2 : Int) (w : World) (h1 : Cl R w g1 i1 p1 s1) (h2 : Cl R w g2 i2 p2 s2) :
  Calls Tryz.prog 83 #[pt g1, pt g2] w (fun e w' => e = .returned (.int .i64 (f p1 s1 p2 s2)) ∧ Lat w w') := by
 obtain ⟨S1, r1, k1⟩ := h1
 obtain ⟨S2, r2, k2⟩ := h2
 have HC := Lib.hid (hW.cmp r1 r2)
 have J1 : Hid ((Tryz.prog.info? 124).map (·.size) = some S1.length) := by show _ = _; rw [hW.len r1]; exact rankInfo17
 have J2 : Hid ((Tryz.prog.info? 124).map (·.size) = some S2.length) := by show _ = _; rw [hW.len r2]; exact rankInfo17
 have R1 : ∀ w', Lat w w' → w'.rangeAt g1 3 S1 := fun w' hl => (k1.later hl).rangeFrom
 have R2 : ∀ w', Lat w w' → w'.rangeAt g2 3 S2 := fun w' hl => (k2.later hl).rangeFrom
 clear hW r1 r2 k1 k2
 go_enter Tryz.func83, Tryz.ntmps83
 go_upto_region 1 with (fail)
 refine wp_region_held_drew (S := fun w' => Lat w w') (by kernel_rfl) (Lat.drew _) (fun hHeld => ?_)
 refine wpAnyH_take (i := 0) (v := .pointer (some ⟨g1, 0, none⟩)) rfl (by kernel_rfl) (by kernel_rfl) (by kernel_rfl) (fun _ _ _ h => h) (Or.inl ⟨by rfl, by intro w' _; go_simp⟩) hHeld ?_
 simp only [Act.put, List.setIfInBounds_toArray, List.set_cons_zero, List.set_cons_succ]
 refine wpAnyH_take (i := 1) (v := .pointer (some ⟨g1, 0, none⟩)) rfl (by kernel_rfl) (by kernel_rfl) (by kernel_rfl) (fun _ _ _ h => h) (Or.inl ⟨by rfl, by intro w' _; go_simp⟩) hHeld ?_
 simp only [Act.put, List.setIfInBounds_toArray, List.set_cons_zero, List.set_cons_succ]
 refine wpAnyH_take (i := 2) (v := .pointer (some ⟨g1, 3, none⟩)) rfl (by kernel_rfl) (by kernel_rfl) (by kernel_rfl) (fun _ _ _ h => h) (Or.inl ⟨by rfl, by intro w' _; go_simp⟩) hHeld ?_
 simp only [Act.put, List.setIfInBounds_toArray, List.set_cons_zero, List.set_cons_succ]
 refine' wpAnyH_take (i := 3) rfl (by kernel_rfl) (by kernel_rfl) (by kernel_rfl) (fun _ _ _ h => h) (yieldsIf_load_mid (by rfl) 124 (.tmp 7) rfl g1 3 rfl S1 _ R1 Tryz.underlying124 rfl J1.out) hHeld ?_
 simp only [Act.put, List.setIfInBounds_toArray, List.set_cons_zero, List.set_cons_succ]
 refine wpAnyH_take (i := 4) (v := .pointer (some ⟨g2, 0, none⟩)) rfl (by kernel_rfl) (by kernel_rfl) (by kernel_rfl) (fun _ _ _ h => h) (Or.inl ⟨by rfl, by intro w' _; go_simp⟩) hHeld ?_
 simp only [Act.put, List.setIfInBounds_toArray, List.set_cons_zero, List.set_cons_succ]
 refine wpAnyH_take (i := 5) (v := .pointer (some ⟨g2, 0, none⟩)) rfl (by kernel_rfl) (by kernel_rfl) (by kernel_rfl) (fun _ _ _ h => h) (Or.inl ⟨by rfl, by intro w' _; go_simp⟩) hHeld ?_
 simp only [Act.put, List.setIfInBounds_toArray, List.set_cons_zero, List.set_cons_succ]
 refine wpAnyH_take (i := 6) (v := .pointer (some ⟨g2, 3, none⟩)) rfl (by kernel_rfl) (by kernel_rfl) (by kernel_rfl) (fun _ _ _ h => h) (Or.inl ⟨by rfl, by intro w' _; go_simp⟩) hHeld ?_
 simp only [Act.put, List.setIfInBounds_toArray, List.set_cons_zero, List.set_cons_succ]
 refine' wpAnyH_take (i := 7) rfl (by kernel_rfl) (by kernel_rfl) (by kernel_rfl) (fun _ _ _ h => h) (yieldsIf_load_mid (by rfl) 124 (.tmp 11) rfl g2 3 rfl S2 _ R2 Tryz.underlying124 rfl J2.out) hHeld ?_
 simp only [Act.put, List.setIfInBounds_toArray, List.set_cons_zero, List.set_cons_succ]
 refine wpAnyH_ready (rs := [8]) (by kernel_rfl) (by simp) (AllReadyH.cons rfl (fun K hK => ?_) AllReadyH.nil)
 go_simp
 refine (HC.out _).mono ?_
 rintro e w1 ⟨rfl, l1⟩
 have L1 := hHeld.trans l1
 refine hK.out _ _ L1 (fun hHeld2 => ?_)
 clear hK K hHeld
 refine wpAnyH_ready (rs := [9]) (by kernel_rfl) (by simp) (AllReadyH.cons rfl (fun K hK => ?_) AllReadyH.nil)
 go_simp
 refine hK.out _ _ L1 (fun hHeld3 => ?_)
 clear hK K hHeld2
 refine wpAnyH_done (by kernel_rfl) ?_ _
 go_wp2
 go_ret
 exact ⟨rfl, L1⟩
end Go.Proofs.YteocdndanehpnaaGreat
namespace Go.Proofs.YteocdndanehpnaaGreat
open Go.RowKit
structure LatP (M : Nat → Prop) (W w : World) : Prop where
 os : w.os = W.os
 tape : w.tape = W.tape
 output : w.output = W.output
 size : W.heap.size ≤ w.heap.size
 block : ∀ k, k < W.heap.size → ¬ M k → w.heap[k]? = W.heap[k]?
section
variable {M N : Nat → Prop} {W w X : World}
theorem LatP.refl (M : Nat → Prop) (W : World) : LatP M W W := ⟨rfl, rfl, rfl, Nat.le_refl _, fun _ _ _ => rfl⟩
theorem LatP.trans (h : LatP M W w) (k : LatP M w X) : LatP M W X :=
 ⟨k.os.trans h.os, k.tape.trans h.tape, k.output.trans h.output, Nat.le_trans h.size k.size, fun i hi hm => (k.block i (Nat.lt_of_lt_of_le hi h.size) hm).trans (h.block i hi hm)⟩
theorem LatP.wider (h : LatP M W w) (hMN : ∀ k, M k → N k) : LatP N W w := ⟨h.os, h.tape, h.output, h.size, fun k hk hn => h.block k hk (fun hm => hn (hMN k hm))⟩
theorem Lat.p (h : Lat W w) (M : Nat → Prop) : LatP M W w := ⟨Below.os h, Below.tape h, Below.output h, h.size, fun k hk _ => Below.block h k hk⟩
theorem LatP.lat {W0 : World} (h0 : Lat W0 W) (h : LatP M W w) (hM : ∀ k, M k → W0.heap.size ≤ k) : Lat W0 w :=
 ⟨h.os.trans (Below.os h0), h.tape.trans (Below.tape h0), h.output.trans (Below.output h0), Nat.le_trans h0.size h.size, fun k hk => (h.block k (Nat.lt_of_lt_of_le hk h0.size) (fun hm => by have := hM k hm; omega)).trans (Below.block h0 k hk)⟩
theorem Blk.keepP {g : Nat} {t : TypeId} {cs : Array Value} (h : Blk W g t cs) (hl : LatP M W w) (hg : ¬ M g) : Blk w g t cs := (hl.block g h.lt hg).trans h
end
theorem name_set {w : World} {g : Nat} {t : TypeId} {cs : Array Value} {i : Nat} {u : Value} {Q : World → Prop} (hb : Blk w g t cs)
  (h : ∀ W', Blk W' g t (cs.setIfInBounds i u) → (∀ k, k ≠ g → W'.heap[k]? = w.heap[k]?) → W'.heap.size = w.heap.size → LatP (· = g) w W' → Q W') : Q (w.setCell ⟨g, i, none⟩ u) := by
 have hs : (w.setCell ⟨g, i, none⟩ u).heap.size = w.heap.size := by simp [World.setCell]
 have hk : ∀ k, k ≠ g → (w.setCell ⟨g, i, none⟩ u).heap[k]? = w.heap[k]? := fun k hk => Below.heap_setCell w ⟨g, i, none⟩ u k hk
 exact h _ (hb.set i u) hk hs ⟨rfl, rfl, rfl, by omega, fun k _ hne => hk k hne⟩
structure Site where
 G : Nat → Nat
 C : List Nat
 A : Option Addr
 n : Nat
 c : Nat
 br : Nat
 bt : Nat
 rc : Nat
 td : Nat
def Site.mine (s : Site) (k : Nat) : Prop := k = s.br ∨ k = s.bt ∨ k = s.rc ∨ k = s.td ∨ (∃ i ∈ s.C, k = s.G i) ∨ ∃ a, s.A = some a ∧ k = a.block
structure Site.Apart (s : Site) : Prop where
 nodup : s.C.Nodup
 inj : ∀ i j, i ∈ s.C → j ∈ s.C → s.G i = s.G j → i = j
 br_bt : s.br ≠ s.bt
 br_rc : s.br ≠ s.rc
 br_td : s.br ≠ s.td
 bt_rc : s.bt ≠ s.rc
 bt_td : s.bt ≠ s.td
 rc_td : s.rc ≠ s.td
 g_br : ∀ i, i ∈ s.C → s.G i ≠ s.br
 g_bt : ∀ i, i ∈ s.C → s.G i ≠ s.bt
 g_rc : ∀ i, i ∈ s.C → s.G i ≠ s.rc
 g_td : ∀ i, i ∈ s.C → s.G i ≠ s.td
 a_rc : ∀ a, s.A = some a → a.block ≠ s.rc
 a_td : ∀ a, s.A = some a → a.block ≠ s.td
 a_g : ∀ a, s.A = some a → ∀ i, i ∈ s.C → a.block ≠ s.G i
structure Mem (s : Site) (m : Int) (R : Int → Int → List Value → Prop) (P S : List Int) (left : Int) (tv : Value) (W : World) : Prop where
 br : Blk W s.br 160 #[.pointer (some ⟨s.rc, 0, none⟩)]
 bt : Blk W s.bt 130 #[.pointer (some ⟨s.td, 0, none⟩)]
 rc : Blk W s.rc 119 #[.int .i64 m, .slice s.A s.n s.c, .int .i64 left]
 td : Blk W s.td 117 #[tv]
 row : Row W s.A s.n (ptrs s.G s.C)
 cl : ∀ i, i ∈ s.C → Cl R W (s.G i) i (atI P i) (atI S i)
section
variable {s : Site} {m : Int} {R : Int → Int → List Value → Prop} {P S : List Int} {left : Int} {tv : Value} {W w : World}
theorem Mem.keep {M : Nat → Prop} (h : Mem s m R P S left tv W) (hl : LatP M W w) (hM : ∀ k, s.mine k → ¬ M k) : Mem s m R P S left tv w :=
 ⟨h.br.keepP hl (hM _ (.inl rfl)), h.bt.keepP hl (hM _ (.inr (.inl rfl))), h.rc.keepP hl (hM _ (.inr (.inr (.inl rfl)))), h.td.keepP hl (hM _ (.inr (.inr (.inr (.inl rfl))))),
  by
   refine ⟨h.row.1, fun hn => ?_⟩
   obtain ⟨a, e, hlt, hc⟩ := h.row.2 hn
   refine ⟨a, e, Nat.lt_of_lt_of_le hlt hl.size, fun j x hx => ?_⟩
   rw [← hc j x hx]
   exact World.cell?_of_block (by rw [block_add]; exact hl.block _ hlt (hM _ (.inr (.inr (.inr (.inr (.inr ⟨a, e, rfl⟩)))))))
  , fun i hi => (h.cl i hi).kept (hl.block _ (h.cl i hi).lt (hM _ (.inr (.inr (.inr (.inr (.inl ⟨i, hi, rfl⟩)))))))⟩
theorem Mem.later (h : Mem s m R P S left tv W) (hl : Lat W w) : Mem s m R P S left tv w := h.keep (hl.p (fun _ => False)) (fun _ _ h => h)
theorem Mem.left_set {left' : Int} (h : Mem s m R P S left tv W) (hA : s.Apart) (hb : Blk w s.rc 119 #[.int .i64 m, .slice s.A s.n s.c, .int .i64 left']) (hk : ∀ k, k ≠ s.rc → w.heap[k]? = W.heap[k]?) (hs : W.heap.size ≤ w.heap.size) :
  Mem s m R P S left' tv w :=
 ⟨(hk _ hA.br_rc).trans h.br, (hk _ hA.bt_rc).trans h.bt, hb, (hk _ (Ne.symm hA.rc_td)).trans h.td, h.row.kept hs (fun a e => hk _ (hA.a_rc a e)), fun i hi => (h.cl i hi).kept (hk _ (hA.g_rc i hi))⟩
theorem Mem.tied_set {tv' : Value} (h : Mem s m R P S left tv W) (hA : s.Apart) (hb : Blk w s.td 117 #[tv']) (hk : ∀ k, k ≠ s.td → w.heap[k]? = W.heap[k]?) (hs : W.heap.size ≤ w.heap.size) :
  Mem s m R P S left tv' w :=
 ⟨(hk _ hA.br_td).trans h.br, (hk _ hA.bt_td).trans h.bt, (hk _ hA.rc_td).trans h.rc, hb, h.row.kept hs (fun a e => hk _ (hA.a_td a e)), fun i hi => (h.cl i hi).kept (hk _ (hA.g_td i hi))⟩
theorem Mem.bump {i : Nat} (h : Mem s m R P S left tv W) (hA : s.Apart) (hi : i ∈ s.C) (hl : i < S.length) (hk : ∀ k, k < W.heap.size → k ≠ s.G i → w.heap[k]? = W.heap[k]?) (hs : W.heap.size ≤ w.heap.size)
  (hc : Cl R w (s.G i) i (atI P i) (atI S i + 1)) : Mem s m R P (S.set i (atI S i + 1)) left tv w :=
 ⟨(hk _ h.br.lt (Ne.symm (hA.g_br i hi))).trans h.br, (hk _ h.bt.lt (Ne.symm (hA.g_bt i hi))).trans h.bt, (hk _ h.rc.lt (Ne.symm (hA.g_rc i hi))).trans h.rc, (hk _ h.td.lt (Ne.symm (hA.g_td i hi))).trans h.td,
  by
   refine ⟨h.row.1, fun hn => ?_⟩
   obtain ⟨a, e, hlt, hc⟩ := h.row.2 hn
   refine ⟨a, e, Nat.lt_of_lt_of_le hlt hs, fun j x hx => ?_⟩
   rw [← hc j x hx]
   exact World.cell?_of_block (by rw [block_add]; exact hk _ hlt (hA.a_g a e i hi))
  , fun j hj => by
   by_cases e : i = j
   ·subst e; rw [atI_set_same hl]; exact hc
   ·rw [atI_set_ne e]
    exact (h.cl j hj).kept (hk _ (h.cl j hj).lt (fun h' => e (hA.inj i j hi hj h'.symm)))⟩
end
def leftOf (rc : Nat) (w : World) : Nat := ((w.cell? ⟨rc, 2, none⟩).map fun v => (intOf v).toNat).getD 0
theorem leftOf_of {rc : Nat} {w : World} {x y : Value} {left : Int} {t : TypeId} (h : Blk w rc t #[x, y, .int .i64 left]) : leftOf rc w = left.toNat := by
 unfold leftOf
 rw [h.cell 2]
 rfl
theorem LatP.setCells {g : Nat} (vs : List Value) : ∀ (w : World) (o : Nat), LatP (· = g) w (w.setCells g o vs) := by
 induction vs with
 | nil => exact fun w o => LatP.refl _ _
 | cons x r ih =>
   intro w o
   refine LatP.trans ?_ (ih (w.setCell ⟨g, o, none⟩ x) (o + 1))
   exact ⟨rfl, rfl, rfl, by simp [World.setCell], fun k _ hk => Below.heap_setCell w ⟨g, o, none⟩ x k hk⟩
theorem put_tail {w : World} {g : Nat} {t : TypeId} {x y z : Value} {T T' : List Value} (h : Blk w g t (x :: y :: z :: T).toArray) (hl : T.length = T'.length) : Blk (w.setCells g 3 T') g t (x :: y :: z :: T').toArray := by
 obtain ⟨cs', h1, h2, h3, h4⟩ := Blk.setCells_at T' w 3 _ h (by simp; omega)
 have : cs' = (x :: y :: z :: T').toArray := by
  apply Array.ext_getElem?
  intro j
  rcases Nat.lt_or_ge j 3 with hj | hj
  ·rw [h4 j hj]
   have : j = 0 ∨ j = 1 ∨ j = 2 := by omega
   rcases this with rfl | rfl | rfl <;> simp
  ·obtain ⟨k, rfl⟩ : ∃ k, j = 3 + k := ⟨j - 3, by omega⟩
   rcases Nat.lt_or_ge k T'.length with hk | hk
   ·rw [h3 k T'[k] (List.getElem?_eq_getElem hk)]
    rw [Nat.add_comm]; simp [hk]
   ·rw [Array.getElem?_eq_none (by rw [h2]; simp; omega), Array.getElem?_eq_none (by simp; omega)]
 rw [this] at h1
 exact h1
theorem there_tail {w : World} {g : Nat} {t : TypeId} {x y z : Value} {T : List Value} (h : Blk w g t (x :: y :: z :: T).toArray) {n : Nat} (hl : T.length = n) : w.there g 3 n := fun j hj => by
 refine ⟨?_, h.frozen _⟩
 rw [h.cell (3 + j), Nat.add_comm]
 simp
 omega
end Go.Proofs.YteocdndanehpnaaGreat
namespace Go.Proofs.YteocdndanehpnaaGreat
open Go.RowKit
def RowN (W : World) (g n : Nat) (xs : List Int) : Prop := ∃ cur, Blk W g 3 cur ∧ cur.toList.take n = xs.map (Value.int .i64) ∧ xs.length = n ∧ n ≤ cur.size
theorem RowN.keepP {M : Nat → Prop} {W w : World} {g n : Nat} {xs : List Int} (h : RowN W g n xs) (hl : LatP M W w) (hg : ¬ M g) : RowN w g n xs := by
 obtain ⟨cur, h1, h2⟩ := h
 exact ⟨cur, h1.keepP hl hg, h2⟩
theorem RowN.cell {W : World} {g n : Nat} {xs : List Int} (h : RowN W g n xs) {i : Nat} {x : Int} (hx : xs[i]? = some x) : W.cell? ⟨g, i, none⟩ = some (.int .i64 x) := by
 obtain ⟨cur, h1, h2, h3, h4⟩ := h
 rw [h1.cell i]
 have hi : i < xs.length := (List.getElem?_eq_some_iff.1 hx).1
 have : (cur.toList.take n)[i]? = some (.int .i64 x) := by rw [h2]; simp [hx]
 rw [List.getElem?_take] at this
 split at this
 ·simpa using this
 ·cases this
theorem RowN.set {W : World} {g n : Nat} {xs : List Int} (h : RowN W g n xs) {i : Nat} (_hi : i < xs.length) (x : Int) : RowN (W.setCell ⟨g, i, none⟩ (.int .i64 x)) g n (xs.set i x) := by
 obtain ⟨cur, h1, h2, h3, h4⟩ := h
 refine ⟨_, h1.set i _, ?_, by simpa using h3, by simpa using h4⟩
 rw [Array.toList_setIfInBounds, List.take_set, h2, List.map_set]
theorem RowN.sl {W : World} {g n : Nat} {xs : List Int} (h : RowN W g n xs) : Sl W .i64 (some ⟨g, 0, none⟩) n xs := by
 obtain ⟨cur, h1, h2, h3, h4⟩ := h
 refine ⟨h3, fun _ => ⟨_, rfl, h1.lt, fun i x hx => ?_⟩⟩
 have e : (⟨g, 0, none⟩ : Addr).add i = ⟨g, i, none⟩ := by unfold Addr.add; split <;> simp_all
 rw [e]
 exact RowN.cell ⟨cur, h1, h2, h3, h4⟩ hx
theorem Sl.plain {w : World} {A : Option Addr} {n : Nat} {xs : List Int} (h : Sl w .i64 A n xs) (hn : 0 < n) : ∃ b o, A = some ⟨b, o, none⟩ ∧ ∀ j, j < xs.length → w.cell? ⟨b, o + j, none⟩ = some (.int .i64 (xs.getD j 0)) := by
 obtain ⟨a, e, hb, hc⟩ := h.2 hn
 obtain ⟨b, o, sp⟩ := a
 have h0 := hc 0 _ (List.getElem?_eq_getElem (by have := h.1; omega))
 have hsp : sp = none := by
  cases sp with
  | none => rfl
  | some x =>
    unfold World.cell? at h0
    simp only [Addr.add, if_true] at h0
    split at h0
    ·simp at h0
    ·cases h0
 subst hsp
 refine ⟨b, o, e, fun j hj => ?_⟩
 have h1 := hc j _ (List.getElem?_eq_getElem hj)
 have ea : (⟨b, o, none⟩ : Addr).add j = ⟨b, o + j, none⟩ := by unfold Addr.add; split <;> simp_all
 rw [ea] at h1
 rw [h1, List.getD_eq_getElem?_getD, List.getElem?_eq_getElem hj]
 rfl
end Go.Proofs.YteocdndanehpnaaGreat
