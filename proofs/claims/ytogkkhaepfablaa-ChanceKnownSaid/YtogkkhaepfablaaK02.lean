/- Several texts in one: ChP, RgA. -/
import Derived.Test.YtogkkhaepfablaaJ28
import Derived.Deep.DeepCutAuto

/- Worlds that are later but for some blocks; the objects of a range over a function. -/
namespace Go.Proofs.Ytogkkhaepfablaa
open Go.RowKit

/-- w is W, but for new blocks and the blocks of M. -/
structure LatP (M : Nat → Prop) (W w : World) : Prop where
  os : w.os = W.os
  tape : w.tape = W.tape
  output : w.output = W.output
  size : W.heap.size ≤ w.heap.size
  block : ∀ k, k < W.heap.size → ¬ M k → w.heap[k]? = W.heap[k]?
section
variable {M N : Nat → Prop} {W w X : World}
theorem LatP.refl (M : Nat → Prop) (W : World) : LatP M W W := ⟨rfl, rfl, rfl, Nat.le_refl _, fun _ _ _ => rfl⟩
theorem LatP.trans (h : LatP M W w) (k : LatP M w X) : LatP M W X :=
  ⟨k.os.trans h.os, k.tape.trans h.tape, k.output.trans h.output, Nat.le_trans h.size k.size, fun i hi hm => (k.block i (Nat.lt_of_lt_of_le hi h.size) hm).trans (h.block i hi hm)⟩
theorem LatP.wider (h : LatP M W w) (hMN : ∀ k, M k → N k) : LatP N W w := ⟨h.os, h.tape, h.output, h.size, fun k hk hn => h.block k hk (fun hm => hn (hMN k hm))⟩
theorem Lat.p (h : Lat W w) (M : Nat → Prop) : LatP M W w := ⟨Below.os h, Below.tape h, Below.output h, h.size, fun k hk _ => Below.block h k hk⟩
theorem LatP.lat {W0 : World} (h0 : Lat W0 W) (h : LatP M W w) (hM : ∀ k, M k → W0.heap.size ≤ k) : Lat W0 w :=
  ⟨h.os.trans (Below.os h0), h.tape.trans (Below.tape h0), h.output.trans (Below.output h0), Nat.le_trans h0.size h.size, fun k hk => (h.block k (Nat.lt_of_lt_of_le hk h0.size) (fun hm => by have := hM k hm; omega)).trans (Below.block h0 k hk)⟩
theorem Blk.keepP {g : Nat} {t : TypeId} {cs : Array Value} (h : Blk W g t cs) (hl : LatP M W w) (hg : ¬ M g) : Blk w g t cs := (hl.block g h.lt hg).trans h
end

/-- A store into a cell of a block that is known whole: the new world under a name. -/
theorem name_set {w : World} {g : Nat} {t : TypeId} {cs : Array Value} {i : Nat} {u : Value} {Q : World → Prop} (hb : Blk w g t cs)
    (h : ∀ W', Blk W' g t (cs.setIfInBounds i u) → (∀ k, k ≠ g → W'.heap[k]? = w.heap[k]?) → W'.heap.size = w.heap.size → LatP (· = g) w W' → Q W') : Q (w.setCell ⟨g, i, none⟩ u) := by
  have hs : (w.setCell ⟨g, i, none⟩ u).heap.size = w.heap.size := by simp [World.setCell]
  have hk : ∀ k, k ≠ g → (w.setCell ⟨g, i, none⟩ u).heap[k]? = w.heap[k]? := fun k hk => Below.heap_setCell w ⟨g, i, none⟩ u k hk
  exact h _ (hb.set i u) hk hs ⟨rfl, rfl, rfl, by omega, fun k _ hne => hk k hne⟩

theorem LatP.setCells {g : Nat} (vs : List Value) : ∀ (w : World) (o : Nat), LatP (· = g) w (w.setCells g o vs) := by
  induction vs with
  | nil => exact fun w o => LatP.refl _ _
  | cons x r ih =>
    intro w o
    refine LatP.trans ?_ (ih (w.setCell ⟨g, o, none⟩ x) (o + 1))
    exact ⟨rfl, rfl, rfl, by simp [World.setCell], fun k _ hk => Below.heap_setCell w ⟨g, o, none⟩ x k hk⟩

theorem lat_putObj {w : World} {l : Nat} {o : Obj} (_hl : l < w.heap.size) : LatP (· = l) w (w.putObj l o) := by
  refine ⟨rfl, rfl, rfl, by simp [World.putObj], fun k _ hk => ?_⟩
  simp only [World.putObj]
  rw [Array.getElem?_setIfInBounds_ne (fun h => hk h.symm)]
theorem putObj_at {w : World} {l : Nat} {o : Obj} (hl : l < w.heap.size) : (w.putObj l o).heap[l]? = some o := World.putObj_heap_same hl
theorem heap_lt {W : World} {k : Nat} {o : Obj} (h : W.heap[k]? = some o) : k < W.heap.size := (Array.getElem?_eq_some_iff.1 h).1
theorem LatP.at_ {M : Nat → Prop} {W w : World} {k : Nat} {o : Obj} (hl : LatP M W w) (h : W.heap[k]? = some o) (hk : ¬ M k) : w.heap[k]? = some o := (hl.block k (heap_lt h) hk).trans h
theorem LatP.narrow {g : Nat} {w w2 w4 : World} (h : LatP (· = g) w2 w4) (l : Lat w w2) (hg : w.heap.size ≤ g) : Lat w w4 :=
  ⟨h.os.trans (Below.os l), h.tape.trans (Below.tape l), h.output.trans (Below.output l), Nat.le_trans l.size h.size, fun k hk => (h.block k (Nat.lt_of_lt_of_le hk l.size) (Nat.ne_of_lt (Nat.lt_of_lt_of_le hk hg))).trans (Below.block l k hk)⟩

/-- How a round's body may be left: off its end, or by a return. -/
def roundRets (l : Nat) (rec : LoopState → Option Code → Loop) (R : Bool → World → Prop) : Exit → Act → World → Prop
  | .normal, _, w => w.heap[l]? = some (.loop (rec .busy none)) ∧ R true (w.putObj l (.loop (rec .ready none)))
  | .ret, _, w => w.heap[l]? = some (.loop (rec .busy none)) ∧ R false (w.putObj l (.loop (rec .done (some .ret))))
  | _, _, _ => False

/-- A round that may return. -/
theorem round_ret {P : Program} {a : Act} {fn : FuncId} {ps : Array Tmp} {assign body : Code} {D l n : Nat} {args : Array Value} {W : World} {R : Bool → World → Prop}
    (hl : W.heap[l]? = some (.loop (recOf a fn ps assign body D .ready none))) (hs : args.size = ps.size)
    (h : assign.wpIn (Fence.wide.inRound l) n P (Exit.then (fun a₁ w₁ => w₁.heap[l]? = some (.loop (recOf a fn ps assign body D .ready none)) ∧
        body.wpIn (Fence.wide.inRound l) n P (roundRets l (recOf a fn ps assign body D) R) a₁ (w₁.putObj l (.loop (recOf a fn ps assign body D .busy none)))) (fun _ _ _ => False))
      { tmps := (ps.zip args).foldl (fun tmps (t, a) => tmps.setIfInBounds t a) a.tmps, defers := [] } W) :
    YieldAt Fence.wide n P l args W (fun e w' => ∃ b, e = .returned (.bool b) ∧ R b w') := by
  refine ⟨fn, _, assign, body, run_yield hl hs, roundIn_of_wpIn trivial ?_⟩
  refine wpIn_mono h ?_
  rintro e a₁ w₁ hq
  cases e with
  | normal =>
    obtain ⟨hl1, hb⟩ := hq
    refine ⟨_, run_beginRound hl1 rfl, ?_⟩
    refine wpIn_mono hb ?_
    rintro e a₂ w₂ hq
    cases e with
    | normal =>
      obtain ⟨h1, h2⟩ := hq
      exact ⟨_, _, run_endRound none h1, true, rfl, h2⟩
    | ret =>
      obtain ⟨h1, h2⟩ := hq
      exact ⟨_, _, run_endRound (some .ret) h1, false, rfl, h2⟩
    | exit i => exact hq.elim
    | goto t => exact hq.elim
    | panic c => exact hq.elim
    | outgrown => exact hq.elim
  | exit id => exact hq.elim
  | ret => exact hq.elim
  | goto t => exact hq.elim
  | panic c => exact hq.elim
  | outgrown => exact hq.elim

/-- What the iterator's call must leave: it has run to its end, or a round has returned. -/
def iterRets (l D : Nat) (rec : LoopState → Option Code → Loop) (Q : Exit → Act → World → Prop) (a : Act) (e : Ending) (w : World) : Prop :=
  ∃ v, e = .returned v ∧
    ((w.heap[l]? = some (.loop (rec .ready none)) ∧ Q .normal { a with defers := { target := .collected D, args := #[] } :: a.defers } (w.putObj l (.loop (rec .exhausted none)))) ∨
     (w.heap[l]? = some (.loop (rec .done (some .ret))) ∧ Q .ret { a with defers := { target := .collected D, args := #[] } :: a.defers } (w.putObj l (.loop (rec .exhausted (some .ret))))))

/-- The statement, where the body may return. -/
theorem rangeFunc_ret {P : Program} {g : Operand} {ps : Array Tmp} {assign body : Code} {Q : Exit → Act → World → Prop} {a : Act} {w : World} {gf : Nat} {lb : Array Value}
    (hg : a.eval g = .func (.func gf) #[] lb) (eg : ∀ args w, (callFunc gf args).run P w = .ok (.enter gf args) w)
    (h : ∀ (fn : FuncId) (W1 : World), W1 = (w.alloc (.deferred (some []))).alloc (.loop (recOf a fn ps assign body w.heap.size .ready none)) →
      Calls P gf (#[.func (.yield (w.heap.size + 1)) #[] #[]] ++ lb) W1 (iterRets (w.heap.size + 1) w.heap.size (recOf a fn ps assign body w.heap.size) Q a)) :
    (Code.rangeFunc g ps assign body).wp P Q a w := by
  refine (wpIn_wide (n := 3)).1 (wpIn_rangeFunc (F := Fence.wide) (n := 3) ?_)
  intro fn _
  have hro : Fence.wide.round = none := rfl
  rw [hro]
  have h' := h fn _ rfl
  obtain ⟨W1, hW1⟩ : ∃ W1, (w.alloc (.deferred (some []))).alloc (.loop (recOf a fn ps assign body w.heap.size .ready none)) = W1 := ⟨_, rfl⟩
  rw [hW1] at h'
  refine ⟨w.heap.size + 1, [{ target := .collected w.heap.size, args := #[] }], W1, { target := .fn (.func gf) lb, args := #[.func (.yield (w.heap.size + 1)) #[] #[]] }, W1, gf,
    #[.func (.yield (w.heap.size + 1)) #[] #[]] ++ lb, W1, ?_, ?_, fun _ _ => trivial, ?_, ?_, ?_⟩
  · have := run_enterLoop_outer (P := P) (w := w) fn a.tmps ps assign body
    rw [this, ← hW1]
    rfl
  · clear h h' eg
    simp only [resolve, hg]
    simp [go_sem]
  · clear h h' hg
    simp [invoke, go_sem, eg]
  · intro hh; cases hh
  · rw [show (3 - 1 : Nat) = 2 from rfl]
    refine callsIn_wide.2 (h'.mono ?_)
    rintro e w2 ⟨v, rfl, h⟩
    rcases h with ⟨h1, h2⟩ | ⟨h1, h2⟩
    · exact ⟨none, _, run_endLoop h1 (by simp [recOf]), h2⟩
    · exact ⟨some .ret, _, run_endLoop h1 (by simp [recOf]), wpIn_ret h2⟩
end Go.Proofs.Ytogkkhaepfablaa

/- For regions that draw their order, walked by hand: blocks whole, operations whose guard does not hold (the general part of RefZ and Skip). -/
namespace Go.Proofs.Ytogkkhaepfablaa
open Go.RowKit

theorem Blk.rangeAll {w : World} {g : Nat} {t : TypeId} {l : List Value} (h : Blk w g t l.toArray) : w.rangeAt g 0 l := fun j v hj => by rw [Nat.zero_add, h.cell j]; simpa using hj
theorem Blk.thereAll {w : World} {g : Nat} {t : TypeId} {cs : Array Value} (h : Blk w g t cs) (n : Nat) (hn : cs.size = n) : w.there g 0 n := fun j hj => by
  rw [Nat.zero_add]
  exact ⟨by rw [h.cell j, Array.getElem?_eq_getElem (by omega)]; rfl, h.frozen j⟩

theorem Blk.keepS {W w : World} {g : Nat} {t : TypeId} {cs : Array Value} {gs : List Nat} (h : Blk W g t cs) (hg : g ∉ gs) (hl : LatS W gs w) : Blk w g t cs := (hl.2 g h.lt hg).trans h

theorem LatS.setCells {w0 : World} {gs : List Nat} {g : Nat} (hg : g ∈ gs) (vs : List Value) : ∀ (w : World) (o : Nat), LatS w0 gs w → LatS w0 gs (w.setCells g o vs) := by
  induction vs with
  | nil => exact fun w o h => h
  | cons x r ih => exact fun w o h => ih _ _ (h.set (p := ⟨g, o, none⟩) hg x)

theorem wpAnyH_skip {P : Program} {md : Region.Mode} {ops : Array Oper} {Q : Exit → Act → World → Prop} {S : World → Prop} (i : Nat) (d : Tmp) {fuel : Nat} {listed : Array Bool} {a : Act} {w : World} (h0 : (ops[i]?).map (·.dst) = some (some d))
    (hs : Region.noSelect ops = true) (hf : Region.free md ops listed i = true) (hr : (Region.ready md ops listed).contains i = true)
    (hQ : ∀ c (a : Act) w, Q (.panic c) (a.put (some d) undef) w → Q (.panic c) a w) (hw : (ops[i]?).map (fun o => Region.wanted o (yielded ops a.tmps)) = some false) (hS : S w)
    (h : wpAnyH P md ops Q S fuel (listed.setIfInBounds i true) (a.put (some d) undef) w) : wpAnyH P md ops Q S (fuel + 1) listed a w := by
  cases ho : ops[i]? with
  | none => rw [ho] at h0; cases h0
  | some o =>
    rw [ho] at h0 hw
    simp only [Option.map_some, Option.some.injEq] at h0 hw
    refine wpAnyH_take (oi := o) (v := undef) ho hs hf hr (by rw [h0]; exact hQ) (.inr ⟨hw, rfl⟩) hS ?_
    rw [h0]
    exact h

end Go.Proofs.Ytogkkhaepfablaa
