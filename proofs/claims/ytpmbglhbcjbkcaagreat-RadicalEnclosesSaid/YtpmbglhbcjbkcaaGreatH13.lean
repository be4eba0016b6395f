/- Several texts in one: Store, StoreB, Round. -/
import Derived.Test.YtpmbglhbcjbkcaaGreatH02
import Derived.Deep.MidRow
import Derived.BigFrame
import Derived.RangeFuncNested
import Derived.RangeFuncBound
import Derived.RangeFuncCalls
import Derived.RangeFuncLeaves
import Derived.OwnWalkIn
import Derived.Orders
import Derived.OrdersHeld
import Derived.Deep.RegionHeld
namespace Go.Proofs.YtpmbglhbcjbkcaaGreat
open Go.RowKit
theorem Blk.setCells_at {g : Nat} {t : TypeId} (vs : List Value) : ∀ (w : World) (o : Nat) (cs : Array Value), Blk w g t cs → o + vs.length ≤ cs.size →
  ∃ cs', Blk (w.setCells g o vs) g t cs' ∧ cs'.size = cs.size ∧ (∀ j v, vs[j]? = some v → cs'[o + j]? = some v) ∧ ∀ j, j < o → cs'[j]? = cs[j]? := by
 induction vs with
 | nil => exact fun w o cs h _ => ⟨cs, h, rfl, fun j v h => by simp at h, fun _ _ => rfl⟩
 | cons x r ih =>
   intro w o cs h hl
   obtain ⟨cs', h1, h2, h3, h4⟩ := ih (w.setCell ⟨g, o, none⟩ x) (o + 1) _ (h.set o x) (by simp at hl ⊢; omega)
   refine ⟨cs', h1, by simpa using h2, fun j v hj => ?_, fun j hj => ?_⟩
   ·cases j with
    | zero =>
      simp at hj
      subst hj
      rw [Nat.add_zero, h4 o (by omega)]
      have : o < cs.size := by simp at hl; omega
      simp [this]
    | succ j =>
      have := h3 j v (by simpa using hj)
      rw [show o + (j + 1) = o + 1 + j by omega]
      exact this
   ·rw [h4 j (by omega), Array.getElem?_setIfInBounds_ne (by omega)]
theorem Blk.setCells {w : World} {g : Nat} {t : TypeId} {old : Array Value} (h : Blk w g t old) (cs : Array Value) (hs : old.size = cs.size) : Blk (w.setCells g 0 cs.toList) g t cs := by
 obtain ⟨cs', h1, h2, h3, _⟩ := Blk.setCells_at cs.toList w 0 old h (by simp; omega)
 have : cs' = cs := by
  apply Array.ext_getElem?
  intro j
  rcases Nat.lt_or_ge j cs.size with hj | hj
  ·have := h3 j cs[j] (by simp [hj])
   rw [Nat.zero_add] at this
   rw [this]; simp [hj]
  ·rw [Array.getElem?_eq_none (by omega), Array.getElem?_eq_none hj]
 rw [this] at h1
 exact h1
theorem Lat.setCells {w0 : World} {g : Nat} (hg : w0.heap.size ≤ g) (vs : List Value) : ∀ (w : World) (o : Nat), Lat w0 w → Lat w0 (w.setCells g o vs) := by
 induction vs with
 | nil => exact fun w o h => h
 | cons x r ih => exact fun w o h => ih _ _ (h.setCell (p := ⟨g, o, none⟩) hg x)
theorem zaC {g k : Nat} (hk : k ≠ g) (vs : List Value) : ∀ (w : World) (o : Nat), (w.setCells g o vs).heap[k]? = w.heap[k]? := by
 induction vs with
 | nil => exact fun w o => rfl
 | cons x r ih => exact fun w o => (ih _ _).trans (Below.heap_setCell w ⟨g, o, none⟩ x k hk)
theorem size_setCells {g : Nat} (vs : List Value) : ∀ (w : World) (o : Nat), (w.setCells g o vs).heap.size = w.heap.size := by
 induction vs with
 | nil => exact fun w o => rfl
 | cons x r ih => exact fun w o => (ih _ _).trans (by simp [World.setCell])
structure Put (w w' : World) (g : Nat) (t : TypeId) (cs : Array Value) : Prop where
 blk : Blk w' g t cs
 lat : ∀ W0, Lat W0 w → W0.heap.size ≤ g → Lat W0 w'
 far : ∀ k, k ≠ g → w'.heap[k]? = w.heap[k]?
 size : w'.heap.size = w.heap.size
theorem Put.keep {w w' : World} {g g' : Nat} {t t' : TypeId} {cs cs' : Array Value} (h : Put w w' g t cs) (hb : Blk w g' t' cs') (hne : g' ≠ g) : Blk w' g' t' cs' := (h.far g' hne).trans hb
theorem zat {P : Program} {ops : Array Oper} {rest : List Oper} {op : Oper} {a : Act} {w : World} {Q : Exit → Act → World → Prop} (hgd : op.guard = none) (ty : TypeId) (x y : Operand) (ho : op.op = .store ty x y) (hd : op.dst = none)
  (g : Nat) (hx : a.eval x = .pointer (some ⟨g, 0, none⟩)) (cs : Array Value) (hy : a.eval y = .agg cs) {t : TypeId} {old : Array Value} (hb : Blk w g t old) (hs : old.size = cs.size)
  (hi : (P.info? ty).map (·.size) = some cs.size) (h1 : cs.all (·.oneCell') = true)
  (h : ∀ w', Put w w' g t cs → wpList P ops Q rest a w') : wpList P ops Q (op :: rest) a w := by
 have ht : w.there g 0 cs.size := fun j hj => by
  rw [Nat.zero_add]
  exact ⟨by rw [hb.cell j, Array.getElem?_eq_getElem (by omega)]; rfl, hb.frozen j⟩
 refine wpList_store_mid hgd ty x y ho g 0 cs hx hy ht hi h1 ?_
 have e : a.put op.dst undef = a := by rw [hd]; rfl
 rw [e]
 exact h _ ⟨hb.setCells cs hs, fun W0 hl hle => Lat.setCells hle _ _ _ hl, fun k hk => zaC hk _ _ _, size_setCells _ _ _⟩
theorem zaW {P : Program} {ops : Array Oper} {rest : List Oper} {op : Oper} {a : Act} {w : World} {Q : Exit → Act → World → Prop} (hgd : op.guard = none) (ty : TypeId) (x : Operand) (ho : op.op = .load ty x)
  (g : Nat) (hx : a.eval x = .pointer (some ⟨g, 0, none⟩)) {t : TypeId} {cs : Array Value} (hb : Blk w g t cs) (d : TypeDesc) (hu : P.underlying ty = some d) (hr : d.isRow = true)
  (hi : (P.info? ty).map (·.size) = some cs.size) (h : wpList P ops Q rest (a.put op.dst (.agg cs)) w) : wpList P ops Q (op :: rest) a w :=
 wpList_load_mid hgd ty x ho g 0 hx cs.toList d (fun j v hj => by rw [Nat.zero_add, hb.cell j]; simpa using hj) hu hr (by simpa using hi) (by simpa using h)
section
variable {P : Program} {ops : Array Oper} {Q : Exit → Act → World → Prop} {n l : Nat}
theorem zeU {o : Oper} {a : Act} {K K' : Act → World → Prop} (hK : ∀ a w, K a w → K' a w) : ∀ r : Result Next, o.upon P a K Q r → o.uponIn (Fence.wide.inRound l) n P a K' Q r := by
 intro r h
 have hd : (Fence.wide.inRound l).depth.isSome = true → 1 ≤ n := fun h => by simp [Fence.wide] at h
 cases r with
 | ok x w' =>
   cases x with
   | value v => exact hK _ _ h
   | skip => exact hK _ _ h
   | defer d => exact hK _ _ h
   | enter f args =>
     refine ⟨hd, CallsIn.inRound l (callsIn_wide.2 (Calls.mono h fun e w'' he => ?_))⟩
     cases e with
     | returned v => exact hK _ _ he
     | panicked c => exact he
     | outgrown => exact he
   | row row args =>
     refine ⟨hd, fun c cs _ => ?_⟩
     obtain ⟨v, w', hr, hs⟩ := h c cs
     exact ⟨v, w', hK _ _ hr, stepsIn_wide.2 hs⟩
   | round l f tmps assign body => exact h.elim
   | _ => exact h.elim
 | halt x w' =>
   cases x <;> first | exact h | exact h.elim
theorem zdH (hno : ¬ LetsOut Q) (hd : ∀ (i : Nat) (o : Oper) (c : Call), ops[i]? = some o → o.op ≠ .defer c) :
  ∀ (is : List Nat) (a : Act) (w : World), wpOps P ops Q is a w → wpOpsIn (Fence.wide.inRound l) n P ops Q is a w := by
 intro is
 induction is with
 | nil => exact fun a w h => h
 | cons i rest ih =>
   intro a w h
   unfold wpOps at h
   unfold wpOpsIn
   cases ho : ops[i]? with
   | none => simp only [ho] at h ⊢; exact ih a w h
   | some o =>
     simp only [ho] at h ⊢
     by_cases hw : Region.wanted o (yielded ops a.tmps) = true
     ·rw [if_pos hw] at h ⊢
      rcases h with h | ⟨_, h⟩
      ·refine ⟨fun _ _ => trivial, ?_⟩
       rw [Oper.semAt_plain _ _ _ (fun c => hd i o c ho)]
       exact zeU ih _ h
      ·exact absurd h hno
     ·rw [if_neg hw] at h ⊢
      exact ⟨fun _ _ => trivial, ih _ _ h⟩
theorem zaA {id : Nat} {os : List Oper} {a : Act} {w : World} (hno : ¬ LetsOut Q) (hd : (os.all fun o => match o.op with | .defer _ => false | _ => true) = true) (h : wpList P os.toArray Q os a w) :
  (Code.region id os.toArray false).wpIn (Fence.wide.inRound l) n P Q a w := by
 refine wpIn_region (zdH hno (fun i o c ho e => ?_) _ _ _ ?_)
 ·rw [List.all_eq_true] at hd
  have := hd o (List.mem_of_getElem? (by simpa using ho))
  rw [e] at this
  cases this
 ·rw [List.range_eq_range', ← Array.length_toList, wpOps_eq_wpList os.toArray.toList 0 (by simp)]
  simpa using h
end
def zdZ (a : Act) (fn : FuncId) (ps : Array Tmp) (assign body : Code) (D : Nat) (st : LoopState) (pe : Option Code) : Loop :=
 { state := st, pending := pe, fn, tmps := a.tmps, params := ps, assign, body, defers := D }
def zgv (P : Program) (fn : Func) (R : Ending → World → Prop) : Exit → Act → World → Prop
 | .normal, a, w | .ret, a, w => LeavesInM Fence.wide 3 P fn a.tmps R a.defers .returning w
 | _, _, _ => False
theorem zcB {P : Program} {f : FuncId} {fn : Func} {c : Code} {args : Array Value} {w : World} {R : Ending → World → Prop} (hf : P.funcs[f]? = some fn) (hb : fn.body = some c)
  (h : c.wp P (zgv P fn R) { tmps := args ++ Array.replicate (fn.ntmps - args.size) undef, defers := [] } w) : Calls P f args w R := by
 refine (callsIn_wide (n := 3)).1 (callsIn_of_wp_marks hf hb trivial (wpIn_wide.2 (Code.wp_mono ?_ h)))
 intro e a w h
 cases e <;> first | exact h | exact h.elim
theorem zcp {P : Program} {fn : Func} {R : Ending → World → Prop} {tmps : Array Value} {w : World} {v : Value} {D : Nat} (hK : w.heap[D]? = some (.deferred (some [])))
  (hr : (results fn tmps).run P (w.putObj D (.deferred none)) = .ok v (w.putObj D (.deferred none))) (hR : R (.returned v) (w.putObj D (.deferred none))) :
  zgv P fn R .ret { tmps := tmps, defers := [{ target := .collected D, args := #[] }] } w :=
 ⟨by simp, .inl ⟨D, _, rfl, run_takeDeferred hK, v, hr, hR⟩⟩
end Go.Proofs.YtpmbglhbcjbkcaaGreat
