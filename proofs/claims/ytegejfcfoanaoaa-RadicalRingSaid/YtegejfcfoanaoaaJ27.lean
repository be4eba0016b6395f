/- Several texts in one: Cells. -/
import Derived.Test.YtegejfcfoanaoaaJ01
import Derived.Deep.AppendLies

/- Slices whose elements are any values of one cell: read, and made by appending. -/
namespace Go.Proofs.Ytegejfcfoanaoaa
open Go.RowKit

/-- A slice over A of n elements reads as the values xs. -/
def Row (w : World) (A : Option Addr) (n : Nat) (xs : List Value) : Prop :=
  xs.length = n ∧ (0 < n → ∃ a, A = some a ∧ a.block < w.heap.size ∧ ∀ (i : Nat) (x : Value), xs[i]? = some x → w.cell? (a.add i) = some x)
section
variable {w W : World} {A : Option Addr} {n : Nat} {xs : List Value}
theorem Row.later (h : Row W A n xs) (hl : Lat W w) : Row w A n xs :=
  ⟨h.1, fun hn => by
    obtain ⟨a, e, hb, hc⟩ := h.2 hn
    exact ⟨a, e, Nat.lt_of_lt_of_le hb hl.size, fun i x hx => hl.cell (by rw [block_add]; exact hb) (hc i x hx)⟩⟩
theorem Row.nil (w : World) (A : Option Addr) : Row w A 0 [] := ⟨rfl, fun h => absurd h (by omega)⟩
theorem Row.at (h : Row w A n xs) {i : Nat} (hi : i < n) : ∃ a x, A = some a ∧ a.block < w.heap.size ∧ xs[i]? = some x ∧ w.cell? (a.add i) = some x := by
  obtain ⟨a, e, hb, hc⟩ := h.2 (by omega)
  have hl : i < xs.length := by have := h.1; omega
  exact ⟨a, xs[i], e, hb, List.getElem?_eq_getElem hl, hc i _ (List.getElem?_eq_getElem hl)⟩
/-- A store into a block in which the slice does not lie. -/
theorem Row.far (h : Row w A n xs) {p : Addr} (hp : ∀ a, A = some a → a.block ≠ p.block) (u : Value) : Row (w.setCell p u) A n xs := by
  refine ⟨h.1, fun hn => ?_⟩
  obtain ⟨a, e, hlt, hc⟩ := h.2 hn
  refine ⟨a, e, by simpa [World.setCell] using hlt, fun j x hx => ?_⟩
  rw [← hc j x hx]
  exact World.cell?_of_block (by rw [block_add]; exact Below.heap_setCell _ _ _ _ (hp a e))
/-- A world in which the slice's block is as it was. -/
theorem Row.kept (h : Row W A n xs) (hs : W.heap.size ≤ w.heap.size) (hk : ∀ a, A = some a → w.heap[a.block]? = W.heap[a.block]?) : Row w A n xs := by
  refine ⟨h.1, fun hn => ?_⟩
  obtain ⟨a, e, hlt, hc⟩ := h.2 hn
  refine ⟨a, e, Nat.lt_of_lt_of_le hlt hs, fun j x hx => ?_⟩
  rw [← hc j x hx]
  exact World.cell?_of_block (by rw [block_add]; exact hk a e)
end

/-- The value v is a slice of the values xs in cells that the call has made, blocks from B on. -/
def OwnV (w : World) (B : Nat) (E : TypeId) (v : Value) (xs : List Value) : Prop := w.ownsRow B E 1 v xs.length xs
section
variable {w w' : World} {B : Nat} {E : TypeId} {v : Value} {xs : List Value}
theorem OwnV.nil (w : World) (B : Nat) (E : TypeId) : OwnV w B E (.slice none 0 0) [] := World.ownsRow_nil _ _ _ _
theorem OwnV.later (h : OwnV w B E v xs) (hl : Lat w w') : OwnV w' B E v xs := by
  obtain ⟨h1, h2⟩ := h
  refine ⟨h1, ?_⟩
  rcases h2 with h2 | ⟨g, cap, cur, a1, a2, a3, a4⟩
  · exact .inl h2
  · refine .inr ⟨g, cap, cur, a1, a2, ?_, a4⟩
    have hlt : g < w.heap.size := by
      rcases Nat.lt_or_ge g w.heap.size with hlt | hge
      · exact hlt
      · rw [Array.getElem?_eq_none hge] at a3; cases a3
    rw [Below.block hl g hlt]; exact a3
/-- A world in which the slice's own block is as it was. -/
theorem OwnV.kept (h : OwnV w B E v xs) (hk : ∀ g, v.ownBlock = some g → w'.heap[g]? = w.heap[g]?) : OwnV w' B E v xs := by
  obtain ⟨h1, h2⟩ := h
  refine ⟨h1, ?_⟩
  rcases h2 with h2 | ⟨g, cap, cur, a1, a2, a3, a4⟩
  · exact .inl h2
  · refine .inr ⟨g, cap, cur, a1, a2, ?_, a4⟩
    rw [hk g (by rw [a1]; rfl)]; exact a3
theorem OwnV.form (h : OwnV w B E v xs) : ∃ A c, v = .slice A xs.length c ∧ Row w A xs.length xs ∧ xs.length ≤ c ∧ ∀ a, A = some a → B ≤ a.block ∧ a.block < w.heap.size := by
  obtain ⟨h1, h2⟩ := h
  rcases h2 with ⟨rfl, h0⟩ | ⟨g, cap, cur, rfl, hb, hg, hnc, _, hcs, ht⟩
  · refine ⟨none, 0, by rw [h0], ?_, by omega, fun a e => by cases e⟩
    have : xs = [] := List.eq_nil_of_length_eq_zero h0
    subst this
    exact Row.nil _ _
  · have hlt : g < w.heap.size := by
      rcases Nat.lt_or_ge g w.heap.size with hlt | hge
      · exact hlt
      · rw [Array.getElem?_eq_none hge] at hg; cases hg
    refine ⟨_, cap, rfl, ⟨rfl, fun hn => ⟨_, rfl, hlt, fun i x hx => ?_⟩⟩, hnc, fun a e => by cases e; exact ⟨hb, hlt⟩⟩
    have e : (⟨g, 0, none⟩ : Addr).add i = ⟨g, i, none⟩ := by unfold Addr.add; split <;> simp_all
    rw [e, cell_of_row w g i cur E (0, 0) hg]
    have hi : xs[i]? = some x := by simp [hx]
    rw [← ht, List.getElem?_take] at hi
    split at hi
    · simpa using hi
    · cases hi
theorem OwnV.blk {A : Option Addr} {n c : Nat} (h : OwnV w B E (.slice A n c) xs) : ∀ a, A = some a → ∃ cs, Blk w a.block E cs := by
  intro a e
  rcases h.2 with ⟨e', _⟩ | ⟨g, cap, cur, e', _, hg, _⟩
  · cases e'; cases e
  · cases e'; cases e; exact ⟨cur, hg⟩
/-- 'xs[:0]'. -/
theorem OwnV.cut {A : Option Addr} {n c : Nat} (h : OwnV w B E (.slice A n c) xs) : OwnV w B E (.slice A 0 c) [] := by
  obtain ⟨h1, h2⟩ := h
  refine ⟨rfl, ?_⟩
  rcases h2 with ⟨e, h0⟩ | ⟨g, cap, cur, e, hb, hg, hnc, hm, hcs, ht⟩
  · cases e
    exact .inl ⟨rfl, rfl⟩
  · cases e
    exact .inr ⟨g, _, cur, rfl, hb, hg, Nat.zero_le _, hm, hcs, by simp⟩
theorem OwnV.lat {W : World} (h : OwnV w B E v xs) (hl : Lat W w) (hB : W.heap.size ≤ B) (hg : w.grownBy w' v.ownBlock) : Lat W w' :=
  Below.grown hl hg (hl.size) (fun j hj => by
    rcases h.2 with ⟨rfl, _⟩ | ⟨g, cap, cur, rfl, hb, _⟩
    · cases hj
    · have : g = j := by simpa [Value.ownBlock] using hj
      omega)
end

/-- 'append(out, y, ..)' at a step of a region that draws its order. -/
theorem step_pushV {P : Program} {ops : Array Oper} {o : Oper} {a : Act} {K : Act → World → Prop} {Q : Exit → Act → World → Prop} {E0 : Prop} (hgd : o.guard = none) (s x : Operand) (t : TypeId)
    (ho : o.op = .call { callee := .builtin .append, args := #[s, x], argTypes := #[t, t] })
    (B : Nat) (E T : TypeId) (z : Value) (by_ : Nat) (ht : P.underlying t = some (.slice E)) (hinfo : (P.info? E).map (fun i => (i.zero, i.size, i.bytes)) = some (some z, 1, by_)) (hz : z.cells.size = 1) (hby : by_ ≤ 8)
    (v : Value) (xs ys : List Value) (hys : ∀ u ∈ ys, u.oneCell' = true) (w : World) (g : Nat) (hs : a.eval s = v) (hown : OwnV w B E v xs) (hb : Blk w g T ys.toArray)
    (m : Nat) (hm : ys.length = m) (hm0 : 0 < m) (hx : a.eval x = .slice (some ⟨g, 0, none⟩) m m) (hlen : xs.length + m ≤ 17000000000000) (hB : B ≤ w.heap.size)
    (h : ∀ v' w', OwnV w' B E v' (xs ++ ys) → w.grownBy w' v.ownBlock → (∀ W0, Lat W0 w → W0.heap.size ≤ B → Lat W0 w') → K (a.put o.dst v') w') :
    if Region.wanted o (yielded ops a.tmps) = true then Oper.wp P o a w K Q else E0 := by
  obtain ⟨i0, hi, hz0, hz1, hz2⟩ := info_parts hinfo
  subst hm
  have hw : Region.wanted o (yielded ops a.tmps) = true := by simp [Region.wanted, hgd]
  rw [if_pos hw]
  refine wp_append_own w s x t ho B E i0 z 1 by_ ht hi hz0 hz1 hz2 hz (by decide) v xs.length _ hs hown ⟨g, 0, none⟩ ys.length ys.length ys hx (by simp) ?_ hys ?_ ?_ hB ?_
  · intro j u hu
    have e : (⟨g, 0, none⟩ : Addr).add j = ⟨g, j, none⟩ := by unfold Addr.add; split <;> simp_all
    rw [e, hb.cell j]
    simpa using hu
  · unfold maxLen; omega
  · have := Nat.mul_le_mul_left (xs.length + ys.length) hby; omega
  · intro v' w' h1 h2 _
    refine h v' w' ?_ h2 (fun W0 hl hle => OwnV.lat hown hl hle h2)
    unfold OwnV
    rw [List.length_append]
    exact h1
/-- .. in a plain region. -/
theorem wpList_pushV {P : Program} {ops : Array Oper} {rest : List Oper} {o : Oper} {a : Act} {Q : Exit → Act → World → Prop} (hgd : o.guard = none) (s x : Operand) (t : TypeId)
    (ho : o.op = .call { callee := .builtin .append, args := #[s, x], argTypes := #[t, t] })
    (B : Nat) (E T : TypeId) (z : Value) (by_ : Nat) (ht : P.underlying t = some (.slice E)) (hinfo : (P.info? E).map (fun i => (i.zero, i.size, i.bytes)) = some (some z, 1, by_)) (hz : z.cells.size = 1) (hby : by_ ≤ 8)
    (v : Value) (xs ys : List Value) (hys : ∀ u ∈ ys, u.oneCell' = true) (w : World) (g : Nat) (hs : a.eval s = v) (hown : OwnV w B E v xs) (hb : Blk w g T ys.toArray)
    (m : Nat) (hm : ys.length = m) (hm0 : 0 < m) (hx : a.eval x = .slice (some ⟨g, 0, none⟩) m m) (hlen : xs.length + m ≤ 17000000000000) (hB : B ≤ w.heap.size)
    (h : ∀ v' w', OwnV w' B E v' (xs ++ ys) → w.grownBy w' v.ownBlock → (∀ W0, Lat W0 w → W0.heap.size ≤ B → Lat W0 w') → wpList P ops Q rest (a.put o.dst v') w') : wpList P ops Q (o :: rest) a w := by
  refine wpList_plain hgd fun K hK => ?_
  have := step_pushV (ops := #[]) (K := K) (Q := Q) (E0 := False) hgd s x t ho B E T z by_ ht hinfo hz hby v xs ys hys w g hs hown hb m hm hm0 hx hlen hB (fun v' w' h1 h2 h3 => hK _ _ (h v' w' h1 h2 h3))
  rwa [if_pos (by simp [Region.wanted, hgd])] at this
end Go.Proofs.Ytegejfcfoanaoaa
