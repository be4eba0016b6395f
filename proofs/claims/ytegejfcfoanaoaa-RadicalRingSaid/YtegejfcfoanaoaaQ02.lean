/- Several texts in one: Many. -/
import Derived.Test.YtegejfcfoanaoaaJ27
import Derived.Test.YtegejfcfoanaoaaJ28

/- Slices whose elements have several cells: read, cut, and made by appending; no program is in sight. -/
namespace Go.Proofs.Ytegejfcfoanaoaa
open Go.RowKit

/-- A slice over A of n elements of m cells each reads as xs. -/
def RowM (w : World) (A : Option Addr) (m n : Nat) (xs : List (List Value)) : Prop :=
  xs.length = n ∧ (∀ x ∈ xs, x.length = m) ∧ (0 < n → ∃ g o, A = some ⟨g, o, none⟩ ∧ g < w.heap.size ∧ ∀ (i : Nat) (x : List Value), xs[i]? = some x → w.rangeAt g (o + i * m) x)
theorem rangeAt_later {W w : World} {g o : Nat} {l : List Value} (h : W.rangeAt g o l) (hg : g < W.heap.size) (hl : Lat W w) : w.rangeAt g o l := fun j v hj => hl.cell (p := ⟨g, o + j, none⟩) hg (h j v hj)
theorem rangeAt_keep {W w : World} {g o : Nat} {l : List Value} (h : W.rangeAt g o l) (hk : w.heap[g]? = W.heap[g]?) : w.rangeAt g o l := fun j v hj => by
  rw [← h j v hj]
  exact World.cell?_of_block (a := ⟨g, o + j, none⟩) hk
section
variable {w W : World} {A : Option Addr} {m n : Nat} {xs : List (List Value)}
theorem RowM.later (h : RowM W A m n xs) (hl : Lat W w) : RowM w A m n xs :=
  ⟨h.1, h.2.1, fun hn => by
    obtain ⟨g, o, e, hb, hc⟩ := h.2.2 hn
    exact ⟨g, o, e, Nat.lt_of_lt_of_le hb hl.size, fun i x hx => rangeAt_later (hc i x hx) hb hl⟩⟩
/-- A world in which the slice's block is as it was. -/
theorem RowM.kept (h : RowM W A m n xs) (hs : W.heap.size ≤ w.heap.size) (hk : ∀ a, A = some a → w.heap[a.block]? = W.heap[a.block]?) : RowM w A m n xs :=
  ⟨h.1, h.2.1, fun hn => by
    obtain ⟨g, o, e, hb, hc⟩ := h.2.2 hn
    exact ⟨g, o, e, Nat.lt_of_lt_of_le hb hs, fun i x hx => rangeAt_keep (hc i x hx) (hk _ e)⟩⟩
theorem RowM.nil (w : World) (A : Option Addr) (m : Nat) : RowM w A m 0 [] := ⟨rfl, fun x h => by simp at h, fun h => absurd h (by omega)⟩
theorem RowM.at (h : RowM w A m n xs) {i : Nat} (hi : i < n) : ∃ g o x, A = some ⟨g, o, none⟩ ∧ g < w.heap.size ∧ xs[i]? = some x ∧ x.length = m ∧ w.rangeAt g (o + i * m) x := by
  obtain ⟨g, o, e, hb, hc⟩ := h.2.2 (by omega)
  have hl : i < xs.length := by have := h.1; omega
  exact ⟨g, o, xs[i], e, hb, List.getElem?_eq_getElem hl, h.2.1 _ (List.getElem_mem hl), hc i _ (List.getElem?_eq_getElem hl)⟩
theorem RowM.take (h : RowM w A m n xs) {k : Nat} (hk : k ≤ n) : RowM w A m k (xs.take k) := by
  refine ⟨by rw [List.length_take, h.1]; omega, fun x hx => h.2.1 x (List.mem_of_mem_take hx), fun hp => ?_⟩
  obtain ⟨g, o, e, hb, hc⟩ := h.2.2 (by omega)
  refine ⟨g, o, e, hb, fun i x hx => hc i x ?_⟩
  rw [List.getElem?_take] at hx
  split at hx
  · exact hx
  · cases hx
theorem RowM.drop {g o : Nat} (h : RowM w (some ⟨g, o, none⟩) m n xs) {k : Nat} (hk : k ≤ n) : RowM w (some ⟨g, o + k * m, none⟩) m (n - k) (xs.drop k) := by
  refine ⟨by rw [List.length_drop, h.1], fun x hx => h.2.1 x (List.mem_of_mem_drop hx), fun hp => ?_⟩
  obtain ⟨g', o', e, hb, hc⟩ := h.2.2 (by omega)
  cases e
  refine ⟨g, _, rfl, hb, fun i x hx => ?_⟩
  rw [List.getElem?_drop] at hx
  have := hc (k + i) x hx
  rw [show o + k * m + i * m = o + (k + i) * m by rw [Nat.add_mul]; omega]
  exact this
end

/-- The cells of elements of m cells each. -/
theorem flat_length {m : Nat} : ∀ {xs : List (List Value)}, (∀ x ∈ xs, x.length = m) → xs.flatten.length = xs.length * m
  | [], _ => by simp
  | x :: r, h => by
    have h1 := h x (by simp)
    have h2 := flat_length (xs := r) (fun y hy => h y (by simp [hy]))
    rw [List.flatten_cons, List.length_append, h1, h2, List.length_cons, Nat.add_mul]
    omega
theorem flat_get {m : Nat} : ∀ {xs : List (List Value)} (_ : ∀ x ∈ xs, x.length = m) {i j : Nat} {x : List Value} {v : Value}, xs[i]? = some x → x[j]? = some v → xs.flatten[i * m + j]? = some v
  | [], _, i, j, x, v, hx, _ => by simp at hx
  | y :: r, h, 0, j, x, v, hx, hv => by
    simp at hx
    subst hx
    have hj : j < y.length := (List.getElem?_eq_some_iff.1 hv).1
    rw [Nat.zero_mul, Nat.zero_add, List.flatten_cons, List.getElem?_append_left hj]
    exact hv
  | y :: r, h, i + 1, j, x, v, hx, hv => by
    have h1 := h y (by simp)
    have h2 := flat_get (xs := r) (fun z hz => h z (by simp [hz])) (i := i) (by simpa using hx) hv
    rw [List.flatten_cons, List.getElem?_append_right (by rw [h1, Nat.add_mul]; omega), h1]
    rw [show (i + 1) * m + j - m = i * m + j by rw [Nat.add_mul]; omega]
    exact h2

/-- The value v is a slice of the elements xs, m cells each, in cells that the call has made, blocks from B on. -/
def OwnM (w : World) (B : Nat) (E : TypeId) (m : Nat) (v : Value) (xs : List (List Value)) : Prop := (∀ x ∈ xs, x.length = m) ∧ w.ownsRow B E m v xs.length xs.flatten
section
variable {w w' : World} {B m : Nat} {E : TypeId} {v : Value} {xs : List (List Value)}
theorem OwnM.nil (w : World) (B : Nat) (E : TypeId) (m : Nat) : OwnM w B E m (.slice none 0 0) [] := ⟨fun x h => by simp at h, World.ownsRow_nil _ _ _ _⟩
theorem OwnM.later (h : OwnM w B E m v xs) (hl : Lat w w') : OwnM w' B E m v xs := by
  obtain ⟨h0, h1, h2⟩ := h
  refine ⟨h0, h1, ?_⟩
  rcases h2 with h2 | ⟨g, cap, cur, a1, a2, a3, a4⟩
  · exact .inl h2
  · refine .inr ⟨g, cap, cur, a1, a2, ?_, a4⟩
    have hlt : g < w.heap.size := by
      rcases Nat.lt_or_ge g w.heap.size with hlt | hge
      · exact hlt
      · rw [Array.getElem?_eq_none hge] at a3; cases a3
    rw [Below.block hl g hlt]; exact a3
theorem OwnM.kept (h : OwnM w B E m v xs) (hk : ∀ g, v.ownBlock = some g → w'.heap[g]? = w.heap[g]?) : OwnM w' B E m v xs := by
  obtain ⟨h0, h1, h2⟩ := h
  refine ⟨h0, h1, ?_⟩
  rcases h2 with h2 | ⟨g, cap, cur, a1, a2, a3, a4⟩
  · exact .inl h2
  · refine .inr ⟨g, cap, cur, a1, a2, ?_, a4⟩
    rw [hk g (by rw [a1]; rfl)]; exact a3
theorem OwnM.form (h : OwnM w B E m v xs) : ∃ A c, v = .slice A xs.length c ∧ RowM w A m xs.length xs ∧ xs.length ≤ c ∧ (∀ a, A = some a → B ≤ a.block ∧ a.block < w.heap.size) ∧ (A = none → xs.length = 0 ∧ c = 0) := by
  obtain ⟨h0, h1, h2⟩ := h
  rcases h2 with ⟨rfl, hz⟩ | ⟨g, cap, cur, rfl, hb, hg, hnc, _, hcs, ht⟩
  · refine ⟨none, 0, by rw [hz], ?_, by omega, (fun a e => by cases e), fun _ => ⟨hz, rfl⟩⟩
    have : xs = [] := List.eq_nil_of_length_eq_zero hz
    subst this
    exact RowM.nil _ _ _
  · have hlt : g < w.heap.size := by
      rcases Nat.lt_or_ge g w.heap.size with hlt | hge
      · exact hlt
      · rw [Array.getElem?_eq_none hge] at hg; cases hg
    refine ⟨_, cap, rfl, ⟨rfl, h0, fun hn => ⟨g, 0, rfl, hlt, fun i x hx j u hu => ?_⟩⟩, hnc, (fun a e => by cases e; exact ⟨hb, hlt⟩), fun e => by cases e⟩
    rw [cell_of_row w g (0 + i * m + j) cur E (0, 0) hg]
    have hi := flat_get h0 hx hu
    rw [← ht, List.getElem?_take] at hi
    split at hi
    · rw [Nat.zero_add]; simpa using hi
    · cases hi
theorem OwnM.blk {A : Option Addr} {n c : Nat} (h : OwnM w B E m (.slice A n c) xs) : ∀ a, A = some a → ∃ cs, Blk w a.block E cs ∧ a.off = 0 := by
  intro a e
  rcases h.2.2 with ⟨e', _⟩ | ⟨g, cap, cur, e', _, hg, _⟩
  · cases e'; cases e
  · cases e'; cases e; exact ⟨cur, hg, rfl⟩
theorem OwnM.lat {W : World} (h : OwnM w B E m v xs) (hl : Lat W w) (hB : W.heap.size ≤ B) (hg : w.grownBy w' v.ownBlock) : Lat W w' :=
  Below.grown hl hg (hl.size) (fun j hj => by
    rcases h.2.2 with ⟨rfl, _⟩ | ⟨g, cap, cur, rfl, hb, _⟩
    · cases hj
    · have : g = j := by simpa [Value.ownBlock] using hj
      omega)
end

/-- 'append(out, x)' of one element of m cells, which lies in a block of its own. -/
theorem wpList_pushM {P : Program} {ops : Array Oper} {rest : List Oper} {o : Oper} {a : Act} {Q : Exit → Act → World → Prop} (hgd : o.guard = none) (s x : Operand) (t : TypeId)
    (ho : o.op = .call { callee := .builtin .append, args := #[s, x], argTypes := #[t, t] })
    (B : Nat) (E T : TypeId) (z : Value) (m by_ : Nat) (ht : P.underlying t = some (.slice E)) (hinfo : (P.info? E).map (fun i => (i.zero, i.size, i.bytes)) = some (some z, m, by_)) (hz : z.cells.size = m) (hm : 0 < m) (hby : by_ ≤ 1000)
    (v : Value) (xs : List (List Value)) (y : List Value) (hys : ∀ u ∈ y, u.oneCell' = true) (w : World) (g : Nat) (hs : a.eval s = v) (hown : OwnM w B E m v xs) (hb : Blk w g T y.toArray)
    (hy : y.length = m) (c : Nat) (hx : a.eval x = .slice (some ⟨g, 0, none⟩) 1 c) (hlen : xs.length ≤ 100000000) (hB : B ≤ w.heap.size)
    (h : ∀ v' w', OwnM w' B E m v' (xs ++ [y]) → w.grownBy w' v.ownBlock → (∀ W0, Lat W0 w → W0.heap.size ≤ B → Lat W0 w') → wpList P ops Q rest (a.put o.dst v') w') : wpList P ops Q (o :: rest) a w := by
  obtain ⟨i0, hi, hz0, hz1, hz2⟩ := info_parts hinfo
  refine wpList_append_own _ hgd s x t ho B E i0 z m by_ ht hi hz0 hz1 hz2 hz hm v xs.length _ hs hown.2 ⟨g, 0, none⟩ 1 c y hx (by omega) ?_ hys ?_ ?_ hB ?_
  · intro j u hu
    have e : (⟨g, 0, none⟩ : Addr).add j = ⟨g, j, none⟩ := by unfold Addr.add; split <;> simp_all
    rw [e, hb.cell j]
    simpa using hu
  · unfold maxLen; omega
  · have := Nat.mul_le_mul_left (xs.length + 1) hby; omega
  · intro v' w' h1 h2 _
    refine h v' w' ⟨fun u hu => ?_, ?_⟩ h2 (fun W0 hl hle => OwnM.lat hown hl hle h2)
    · rcases List.mem_append.1 hu with hu | hu
      · exact hown.1 u hu
      · rw [List.mem_singleton] at hu; subst hu; exact hy
    · rw [List.length_append, List.flatten_append]
      simpa using h1
end Go.Proofs.Ytegejfcfoanaoaa
