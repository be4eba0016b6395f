
/- Rows of elements of several cells, rewritten in place (out of XRowB, for the seats of Chance). -/
import Derived.Test.YtogkkhaepfablaaK01
import Derived.Test.YtogkkhaepfablaaK02
import Derived.Lib.SliceRun
namespace Go.Proofs.Ytogkkhaepfablaa
open Go.RowKit

/-- Block g begins with the elements xs, m cells each. -/
def RowB (w : World) (g : Nat) (E : TypeId) (m : Nat) (xs : List (List Value)) : Prop :=
  (∀ x ∈ xs, x.length = m ∧ ∀ v ∈ x, v.oneCell' = true) ∧ ∃ cs, Blk w g E cs ∧ xs.length * m ≤ cs.size ∧ ∀ (i : Nat) (x : List Value), xs[i]? = some x → ∀ (j : Nat) (v : Value), x[j]? = some v → cs[i * m + j]? = some v
section
variable {w W : World} {g m : Nat} {E : TypeId} {xs : List (List Value)}
theorem RowB.lt (h : RowB w g E m xs) : g < w.heap.size := by obtain ⟨_, cs, hb, _⟩ := h; exact hb.lt
theorem RowB.later (h : RowB W g E m xs) (hl : Lat W w) : RowB w g E m xs := by
  obtain ⟨h0, cs, hb, h1⟩ := h
  exact ⟨h0, cs, hb.later hl, h1⟩
theorem RowB.kept (h : RowB W g E m xs) (hk : w.heap[g]? = W.heap[g]?) : RowB w g E m xs := by
  obtain ⟨h0, cs, hb, h1⟩ := h
  exact ⟨h0, cs, hk.trans hb, h1⟩
theorem RowB.range (h : RowB w g E m xs) {i : Nat} {x : List Value} (hx : xs[i]? = some x) : w.rangeAt g (i * m) x := fun j v hj => by
  obtain ⟨_, cs, hb, _, h2⟩ := h
  rw [hb.cell (i * m + j)]
  exact h2 i x hx j v hj
theorem RowB.row (h : RowB w g E m xs) : RowM w (some ⟨g, 0, none⟩) m xs.length xs :=
  ⟨rfl, fun x hx => (h.1 x hx).1, fun _ => ⟨g, 0, rfl, h.lt, fun i x hx => by rw [Nat.zero_add]; exact h.range hx⟩⟩
theorem RowB.take (h : RowB w g E m xs) (k : Nat) : RowB w g E m (xs.take k) := by
  obtain ⟨h0, cs, hb, h1, h2⟩ := h
  refine ⟨fun x hx => h0 x (List.mem_of_mem_take hx), cs, hb, Nat.le_trans (Nat.mul_le_mul_right m (by simp; omega)) h1, fun i x hx => h2 i x ?_⟩
  rw [List.getElem?_take] at hx
  split at hx
  · exact hx
  · cases hx
theorem RowB.there (h : RowB w g E m xs) {i k : Nat} (hk : i * m + k ≤ xs.length * m) : w.there g (i * m) k := fun j hj => by
  obtain ⟨_, cs, hb, h1, _⟩ := h
  refine ⟨?_, hb.frozen _⟩
  rw [hb.cell, Array.getElem?_eq_getElem (by omega)]
  rfl
/-- Cells that are written in a block. -/
theorem Blk.write {cs : Array Value} (h : Blk w g E cs) (vs : List Value) : ∀ o, o + vs.length ≤ cs.size → ∃ cs', Blk (w.setCells g o vs) g E cs' ∧ cs'.size = cs.size ∧ (∀ j v, vs[j]? = some v → cs'[o + j]? = some v) ∧ ∀ j, (j < o ∨ o + vs.length ≤ j) → cs'[j]? = cs[j]? := by
  induction vs generalizing w cs with
  | nil => exact fun o _ => ⟨cs, h, rfl, fun j v h => by simp at h, fun _ _ => rfl⟩
  | cons x r ih =>
    intro o hl
    have hlen : o + 1 + r.length ≤ (cs.setIfInBounds o x).size := by simp at hl ⊢; omega
    obtain ⟨cs', h1, h2, h3, h4⟩ := ih (w := w.setCell ⟨g, o, none⟩ x) (h.set o x) (o + 1) hlen
    refine ⟨cs', h1, by simpa using h2, fun j v hj => ?_, fun j hj => ?_⟩
    · cases j with
      | zero =>
        simp at hj
        subst hj
        rw [Nat.add_zero, h4 o (.inl (by omega))]
        have : o < cs.size := by simp at hl; omega
        simp [this]
      | succ j =>
        have := h3 j v (by simpa using hj)
        rw [show o + (j + 1) = o + 1 + j by omega]
        exact this
    · simp at hj
      rw [h4 j (by omega), Array.getElem?_setIfInBounds_ne (by omega)]
/-- One element is written. -/
theorem RowB.set (h : RowB w g E m xs) {i : Nat} (hi : i < xs.length) {y : List Value} (hy : y.length = m) (h1y : ∀ v ∈ y, v.oneCell' = true) : RowB (w.setCells g (i * m) y) g E m (xs.set i y) := by
  obtain ⟨h0, cs, hb, h1, h2⟩ := h
  have hle : i * m + y.length ≤ cs.size := by
    have : (i + 1) * m ≤ xs.length * m := Nat.mul_le_mul_right m hi
    rw [Nat.add_mul] at this
    omega
  obtain ⟨cs', b1, b2, b3, b4⟩ := hb.write y (i * m) hle
  refine ⟨fun x hx => ?_, cs', b1, by rw [List.length_set, b2]; exact h1, fun k x hx j v hv => ?_⟩
  · rcases List.mem_or_eq_of_mem_set hx with hx | rfl
    · exact h0 x hx
    · exact ⟨hy, h1y⟩
  · by_cases e : i = k
    · subst e
      rw [List.getElem?_set_self hi] at hx
      cases hx
      exact b3 j v hv
    · rw [List.getElem?_set_ne e] at hx
      have hj : j < m := by
        have := (List.getElem?_eq_some_iff.1 hv).1
        have := (h0 x (List.mem_of_getElem? hx)).1
        omega
      rw [b4 (k * m + j) ?_]
      · exact h2 k x hx j v hv
      · rcases Nat.lt_or_ge k i with hki | hki
        · left
          have : (k + 1) * m ≤ i * m := Nat.mul_le_mul_right m hki
          rw [Nat.add_mul] at this
          omega
        · right
          have : (i + 1) * m ≤ k * m := Nat.mul_le_mul_right m (by omega)
          rw [Nat.add_mul] at this
          omega
end

/-- A store of a whole element. -/
theorem wpList_setM {P : Program} {ops : Array Oper} {rest : List Oper} {op : Oper} {a : Act} {w : World} {Q : Exit → Act → World → Prop} (hgd : op.guard = none) (ty : TypeId) (x y : Operand) (ho : op.op = .store ty x y) (hd : op.dst = none)
    {g m i o : Nat} {E : TypeId} {xs : List (List Value)} (hr : RowB w g E m xs) (hi : i < xs.length) (ho' : o = i * m) (hx : a.eval x = .pointer (some ⟨g, o, none⟩)) (c : List Value) (hy : a.eval y = .agg c.toArray) (hc : c.length = m)
    (hinfo : (P.info? ty).map (·.size) = some m) (h1 : ∀ v ∈ c, v.oneCell' = true)
    (h : ∀ w', RowB w' g E m (xs.set i c) → LatP (· = g) w w' → w'.heap.size = w.heap.size → wpList P ops Q rest a w') : wpList P ops Q (op :: rest) a w := by
  subst ho'
  have ht : w.there g (i * m) c.toArray.size := by
    have : (i + 1) * m ≤ xs.length * m := Nat.mul_le_mul_right m hi
    rw [Nat.add_mul] at this
    exact hr.there (by simp; omega)
  refine wpList_store_mid hgd ty x y ho g (i * m) c.toArray hx hy ht (by rw [hinfo]; simp [hc]) (by simpa [Array.all_eq_true'] using h1) ?_
  have e : a.put op.dst undef = a := by rw [hd]; rfl
  rw [e]
  have hw := hr.set hi hc h1
  exact h _ (by simpa using hw) (by simpa using LatP.setCells c w (i * m)) (size_setCells _ _ _)
end Go.Proofs.Ytogkkhaepfablaa
