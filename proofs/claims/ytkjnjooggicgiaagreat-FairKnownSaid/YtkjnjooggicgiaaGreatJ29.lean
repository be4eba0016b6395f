/- Several texts in one: Mem. -/
import Derived.Test.YtkjnjooggicgiaaGreatJ28

/- Divisor: the memory of a race, and what its steps keep. -/
namespace Go.Proofs.YtkjnjooggicgiaaGreat
open Go.RowKit

/-- w is W, but for new blocks and the blocks of M. -/
structure LatP (M : Nat → Prop) (W w : World) : Prop where
  os : w.os = W.os
  tape : w.tape = W.tape
  output : w.output = W.output
  size : W.heap.size ≤ w.heap.size
  block : ∀ k, k < W.heap.size → ¬ M k → w.heap[k]? = W.heap[k]?
section
variable {M N : Nat → Prop} {W w X : World}
theorem LatP.refl (M : Nat → Prop) (W : World) : LatP M W W := ⟨rfl, rfl, rfl, Nat.le_refl _, fun _ _ _ => rfl⟩
theorem LatP.trans (h : LatP M W w) (k : LatP M w X) : LatP M W X :=
  ⟨k.os.trans h.os, k.tape.trans h.tape, k.output.trans h.output, Nat.le_trans h.size k.size, fun i hi hm => (k.block i (Nat.lt_of_lt_of_le hi h.size) hm).trans (h.block i hi hm)⟩
theorem LatP.wider (h : LatP M W w) (hMN : ∀ k, M k → N k) : LatP N W w := ⟨h.os, h.tape, h.output, h.size, fun k hk hn => h.block k hk (fun hm => hn (hMN k hm))⟩
theorem Lat.p (h : Lat W w) (M : Nat → Prop) : LatP M W w := ⟨Below.os h, Below.tape h, Below.output h, h.size, fun k hk _ => Below.block h k hk⟩
theorem LatP.lat {W0 : World} (h0 : Lat W0 W) (h : LatP M W w) (hM : ∀ k, M k → W0.heap.size ≤ k) : Lat W0 w :=
  ⟨h.os.trans (Below.os h0), h.tape.trans (Below.tape h0), h.output.trans (Below.output h0), Nat.le_trans h0.size h.size, fun k hk => (h.block k (Nat.lt_of_lt_of_le hk h0.size) (fun hm => by have := hM k hm; omega)).trans (Below.block h0 k hk)⟩
theorem Blk.keepP {g : Nat} {t : TypeId} {cs : Array Value} (h : Blk W g t cs) (hl : LatP M W w) (hg : ¬ M g) : Blk w g t cs := (hl.block g h.lt hg).trans h
end

/-- A store into a cell of a block that is known whole: the new world under a name. -/
theorem name_set {w : World} {g : Nat} {t : TypeId} {cs : Array Value} {i : Nat} {u : Value} {Q : World → Prop} (hb : Blk w g t cs)
    (h : ∀ W', Blk W' g t (cs.setIfInBounds i u) → (∀ k, k ≠ g → W'.heap[k]? = w.heap[k]?) → W'.heap.size = w.heap.size → LatP (· = g) w W' → Q W') : Q (w.setCell ⟨g, i, none⟩ u) := by
  have hs : (w.setCell ⟨g, i, none⟩ u).heap.size = w.heap.size := by simp [World.setCell]
  have hk : ∀ k, k ≠ g → (w.setCell ⟨g, i, none⟩ u).heap[k]? = w.heap[k]? := fun k hk => Below.heap_setCell w ⟨g, i, none⟩ u k hk
  exact h _ (hb.set i u) hk hs ⟨rfl, rfl, rfl, by omega, fun k _ hne => hk k hne⟩

/-- Where the parts of a race lie. -/
structure Site where
  G : Nat → Nat
  C : List Nat
  A : Option Addr
  n : Nat
  c : Nat
  br : Nat
  bt : Nat
  rc : Nat
  td : Nat

/-- The blocks of the race. -/
def Site.mine (s : Site) (k : Nat) : Prop := k = s.br ∨ k = s.bt ∨ k = s.rc ∨ k = s.td ∨ (∃ i ∈ s.C, k = s.G i) ∨ ∃ a, s.A = some a ∧ k = a.block

/-- The parts of a race lie apart. -/
structure Site.Apart (s : Site) : Prop where
  nodup : s.C.Nodup
  inj : ∀ i j, i ∈ s.C → j ∈ s.C → s.G i = s.G j → i = j
  br_bt : s.br ≠ s.bt
  br_rc : s.br ≠ s.rc
  br_td : s.br ≠ s.td
  bt_rc : s.bt ≠ s.rc
  bt_td : s.bt ≠ s.td
  rc_td : s.rc ≠ s.td
  g_br : ∀ i, i ∈ s.C → s.G i ≠ s.br
  g_bt : ∀ i, i ∈ s.C → s.G i ≠ s.bt
  g_rc : ∀ i, i ∈ s.C → s.G i ≠ s.rc
  g_td : ∀ i, i ∈ s.C → s.G i ≠ s.td
  a_rc : ∀ a, s.A = some a → a.block ≠ s.rc
  a_td : ∀ a, s.A = some a → a.block ≠ s.td
  a_g : ∀ a, s.A = some a → ∀ i, i ∈ s.C → a.block ≠ s.G i

section
variable {s : Site} {m : Int} {R : Int → Int → List Value → Prop} {P S : List Int} {left : Int} {tv : Value} {W w : World}
end

/-- What the race holds as left. -/
def leftOf (rc : Nat) (w : World) : Nat := ((w.cell? ⟨rc, 2, none⟩).map fun v => (intOf v).toNat).getD 0
theorem leftOf_of {rc : Nat} {w : World} {x y : Value} {left : Int} {t : TypeId} (h : Blk w rc t #[x, y, .int .i64 left]) : leftOf rc w = left.toNat := by
  unfold leftOf
  rw [h.cell 2]
  rfl

theorem LatP.setCells {g : Nat} (vs : List Value) : ∀ (w : World) (o : Nat), LatP (· = g) w (w.setCells g o vs) := by
  induction vs with
  | nil => exact fun w o => LatP.refl _ _
  | cons x r ih =>
    intro w o
    refine LatP.trans ?_ (ih (w.setCell ⟨g, o, none⟩ x) (o + 1))
    exact ⟨rfl, rfl, rfl, by simp [World.setCell], fun k _ hk => Below.heap_setCell w ⟨g, o, none⟩ x k hk⟩
/-- A store into all cells behind the third. -/
theorem put_tail {w : World} {g : Nat} {t : TypeId} {x y z : Value} {T T' : List Value} (h : Blk w g t (x :: y :: z :: T).toArray) (hl : T.length = T'.length) : Blk (w.setCells g 3 T') g t (x :: y :: z :: T').toArray := by
  obtain ⟨cs', h1, h2, h3, h4⟩ := Blk.setCells_at T' w 3 _ h (by simp; omega)
  have : cs' = (x :: y :: z :: T').toArray := by
    apply Array.ext_getElem?
    intro j
    rcases Nat.lt_or_ge j 3 with hj | hj
    · rw [h4 j hj]
      have : j = 0 ∨ j = 1 ∨ j = 2 := by omega
      rcases this with rfl | rfl | rfl <;> simp
    · obtain ⟨k, rfl⟩ : ∃ k, j = 3 + k := ⟨j - 3, by omega⟩
      rcases Nat.lt_or_ge k T'.length with hk | hk
      · rw [h3 k T'[k] (List.getElem?_eq_getElem hk)]
        rw [Nat.add_comm]; simp [hk]
      · rw [Array.getElem?_eq_none (by rw [h2]; simp; omega), Array.getElem?_eq_none (by simp; omega)]
  rw [this] at h1
  exact h1
theorem there_tail {w : World} {g : Nat} {t : TypeId} {x y z : Value} {T : List Value} (h : Blk w g t (x :: y :: z :: T).toArray) {n : Nat} (hl : T.length = n) : w.there g 3 n := fun j hj => by
  refine ⟨?_, h.frozen _⟩
  rw [h.cell (3 + j), Nat.add_comm]
  simp
  omega
end Go.Proofs.YtkjnjooggicgiaaGreat
