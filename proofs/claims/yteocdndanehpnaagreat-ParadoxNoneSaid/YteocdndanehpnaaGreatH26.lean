/- Several texts in one: Many, RowB, SortP, SortK, Skip. -/
import Derived.Test.YteocdndanehpnaaGreatH16
import Derived.Test.YteocdndanehpnaaGreatH17
import Derived.Lib.SliceRun
namespace Go.Proofs.YteocdndanehpnaaGreat
open Go.RowKit
def RowM (w : World) (A : Option Addr) (m n : Nat) (xs : List (List Value)) : Prop :=
 xs.length = n ∧ (∀ x ∈ xs, x.length = m) ∧ (0 < n → ∃ g o, A = some ⟨g, o, none⟩ ∧ g < w.heap.size ∧ ∀ (i : Nat) (x : List Value), xs[i]? = some x → w.rangeAt g (o + i * m) x)
theorem rangeAt_later {W w : World} {g o : Nat} {l : List Value} (h : W.rangeAt g o l) (hg : g < W.heap.size) (hl : Lat W w) : w.rangeAt g o l := fun j v hj => hl.cell (p := ⟨g, o + j, none⟩) hg (h j v hj)
section
variable {w W : World} {A : Option Addr} {m n : Nat} {xs : List (List Value)}
theorem RowM.later (h : RowM W A m n xs) (hl : Lat W w) : RowM w A m n xs :=
 ⟨h.1, h.2.1, fun hn => by
  obtain ⟨g, o, e, hb, hc⟩ := h.2.2 hn
  exact ⟨g, o, e, Nat.lt_of_lt_of_le hb hl.size, fun i x hx => rangeAt_later (hc i x hx) hb hl⟩⟩
theorem RowM.nil (w : World) (A : Option Addr) (m : Nat) : RowM w A m 0 [] := ⟨rfl, fun x h => by simp at h, fun h => absurd h (by omega)⟩
theorem RowM.at (h : RowM w A m n xs) {i : Nat} (hi : i < n) : ∃ g o x, A = some ⟨g, o, none⟩ ∧ g < w.heap.size ∧ xs[i]? = some x ∧ x.length = m ∧ w.rangeAt g (o + i * m) x := by
 obtain ⟨g, o, e, hb, hc⟩ := h.2.2 (by omega)
 have hl : i < xs.length := by have := h.1; omega
 exact ⟨g, o, xs[i], e, hb, List.getElem?_eq_getElem hl, h.2.1 _ (List.getElem_mem hl), hc i _ (List.getElem?_eq_getElem hl)⟩
end
theorem flat_get {m : Nat} : ∀ {xs : List (List Value)} (_ : ∀ x ∈ xs, x.length = m) {i j : Nat} {x : List Value} {v : Value}, xs[i]? = some x → x[j]? = some v → xs.flatten[i * m + j]? = some v
 | [], _, i, j, x, v, hx, _ => by simp at hx
 | y :: r, h, 0, j, x, v, hx, hv => by
   simp at hx
   subst hx
   have hj : j < y.length := (List.getElem?_eq_some_iff.1 hv).1
   rw [Nat.zero_mul, Nat.zero_add, List.flatten_cons, List.getElem?_append_left hj]
   exact hv
 | y :: r, h, i + 1, j, x, v, hx, hv => by
   have h1 := h y (by simp)
   have h2 := flat_get (xs := r) (fun z hz => h z (by simp [hz])) (i := i) (by simpa using hx) hv
   rw [List.flatten_cons, List.getElem?_append_right (by rw [h1, Nat.add_mul]; omega), h1]
   rw [show (i + 1) * m + j - m = i * m + j by rw [Nat.add_mul]; omega]
   exact h2
def OwnM (w : World) (B : Nat) (E : TypeId) (m : Nat) (v : Value) (xs : List (List Value)) : Prop := (∀ x ∈ xs, x.length = m) ∧ w.ownsRow B E m v xs.length xs.flatten
section
variable {w w' : World} {B m : Nat} {E : TypeId} {v : Value} {xs : List (List Value)}
theorem OwnM.nil (w : World) (B : Nat) (E : TypeId) (m : Nat) : OwnM w B E m (.slice none 0 0) [] := ⟨fun x h => by simp at h, World.ownsRow_nil _ _ _ _⟩
theorem OwnM.later (h : OwnM w B E m v xs) (hl : Lat w w') : OwnM w' B E m v xs := by
 obtain ⟨h0, h1, h2⟩ := h
 refine ⟨h0, h1, ?_⟩
 rcases h2 with h2 | ⟨g, cap, cur, a1, a2, a3, a4⟩
 ·exact .inl h2
 ·refine .inr ⟨g, cap, cur, a1, a2, ?_, a4⟩
  have hlt : g < w.heap.size := by
   rcases Nat.lt_or_ge g w.heap.size with hlt | hge
   ·exact hlt
   ·rw [Array.getElem?_eq_none hge] at a3; cases a3
  rw [Below.block hl g hlt]; exact a3
theorem OwnM.kept (h : OwnM w B E m v xs) (hk : ∀ g, v.ownBlock = some g → w'.heap[g]? = w.heap[g]?) : OwnM w' B E m v xs := by
 obtain ⟨h0, h1, h2⟩ := h
 refine ⟨h0, h1, ?_⟩
 rcases h2 with h2 | ⟨g, cap, cur, a1, a2, a3, a4⟩
 ·exact .inl h2
 ·refine .inr ⟨g, cap, cur, a1, a2, ?_, a4⟩
  rw [hk g (by rw [a1]; rfl)]; exact a3
theorem OwnM.form (h : OwnM w B E m v xs) : ∃ A c, v = .slice A xs.length c ∧ RowM w A m xs.length xs ∧ xs.length ≤ c ∧ (∀ a, A = some a → B ≤ a.block ∧ a.block < w.heap.size) ∧ (A = none → xs.length = 0 ∧ c = 0) := by
 obtain ⟨h0, h1, h2⟩ := h
 rcases h2 with ⟨rfl, hz⟩ | ⟨g, cap, cur, rfl, hb, hg, hnc, _, hcs, ht⟩
 ·refine ⟨none, 0, by rw [hz], ?_, by omega, (fun a e => by cases e), fun _ => ⟨hz, rfl⟩⟩
  have : xs = [] := List.eq_nil_of_length_eq_zero hz
  subst this
  exact RowM.nil _ _ _
 ·have hlt : g < w.heap.size := by
   rcases Nat.lt_or_ge g w.heap.size with hlt | hge
   ·exact hlt
   ·rw [Array.getElem?_eq_none hge] at hg; cases hg
  refine ⟨_, cap, rfl, ⟨rfl, h0, fun hn => ⟨g, 0, rfl, hlt, fun i x hx j u hu => ?_⟩⟩, hnc, (fun a e => by cases e; exact ⟨hb, hlt⟩), fun e => by cases e⟩
  rw [cell_of_row w g (0 + i * m + j) cur E (0, 0) hg]
  have hi := flat_get h0 hx hu
  rw [← ht, List.getElem?_take] at hi
  split at hi
  ·rw [Nat.zero_add]; simpa using hi
  ·cases hi
theorem OwnM.lat {W : World} (h : OwnM w B E m v xs) (hl : Lat W w) (hB : W.heap.size ≤ B) (hg : w.grownBy w' v.ownBlock) : Lat W w' :=
 Below.grown hl hg (hl.size) (fun j hj => by
  rcases h.2.2 with ⟨rfl, _⟩ | ⟨g, cap, cur, rfl, hb, _⟩
  ·cases hj
  ·have : g = j := by simpa [Value.ownBlock] using hj
   omega)
end
theorem wpList_pushM {P : Program} {ops : Array Oper} {rest : List Oper} {o : Oper} {a : Act} {Q : Exit → Act → World → Prop} (hgd : o.guard = none) (s x : Operand) (t : TypeId)
  (ho : o.op = .call { callee := .builtin .append, args := #[s, x], argTypes := #[t, t] })
  (B : Nat) (E T : TypeId) (z : Value) (m by_ : Nat) (ht : P.underlying t = some (.slice E)) (hinfo : (P.info? E).map (fun i => (i.zero, i.size, i.bytes)) = some (some z, m, by_)) (hz : z.cells.size = m) (hm : 0 < m) (hby : by_ ≤ 1000)
  (v : Value) (xs : List (List Value)) (y : List Value) (hys : ∀ u ∈ y, u.oneCell' = true) (w : World) (g : Nat) (hs : a.eval s = v) (hown : OwnM w B E m v xs) (hb : Blk w g T y.toArray)
  (hy : y.length = m) (c : Nat) (hx : a.eval x = .slice (some ⟨g, 0, none⟩) 1 c) (hlen : xs.length ≤ 100000000) (hB : B ≤ w.heap.size)
  (h : ∀ v' w', OwnM w' B E m v' (xs ++ [y]) → w.grownBy w' v.ownBlock → (∀ W0, Lat W0 w → W0.heap.size ≤ B → Lat W0 w') → wpList P ops Q rest (a.put o.dst v') w') : wpList P ops Q (o :: rest) a w := by
 obtain ⟨i0, hi, hz0, hz1, hz2⟩ := info_parts hinfo
 refine wpList_append_own _ hgd s x t ho B E i0 z m by_ ht hi hz0 hz1 hz2 hz hm v xs.length _ hs hown.2 ⟨g, 0, none⟩ 1 c y hx (by omega) ?_ hys ?_ ?_ hB ?_
 ·intro j u hu
  have e : (⟨g, 0, none⟩ : Addr).add j = ⟨g, j, none⟩ := by unfold Addr.add; split <;> simp_all
  rw [e, hb.cell j]
  simpa using hu
 ·unfold maxLen; omega
 ·have := Nat.mul_le_mul_left (xs.length + 1) hby; omega
 ·intro v' w' h1 h2 _
  refine h v' w' ⟨fun u hu => ?_, ?_⟩ h2 (fun W0 hl hle => OwnM.lat hown hl hle h2)
  ·rcases List.mem_append.1 hu with hu | hu
   ·exact hown.1 u hu
   ·rw [List.mem_singleton] at hu; subst hu; exact hy
  ·rw [List.length_append, List.flatten_append]
   simpa using h1
end Go.Proofs.YteocdndanehpnaaGreat
namespace Go.Proofs.YteocdndanehpnaaGreat
open Go.RowKit
def RowB (w : World) (g : Nat) (E : TypeId) (m : Nat) (xs : List (List Value)) : Prop :=
 (∀ x ∈ xs, x.length = m ∧ ∀ v ∈ x, v.oneCell' = true) ∧ ∃ cs, Blk w g E cs ∧ xs.length * m ≤ cs.size ∧ ∀ (i : Nat) (x : List Value), xs[i]? = some x → ∀ (j : Nat) (v : Value), x[j]? = some v → cs[i * m + j]? = some v
section
variable {w W : World} {g m : Nat} {E : TypeId} {xs : List (List Value)}
theorem RowB.lt (h : RowB w g E m xs) : g < w.heap.size := by obtain ⟨_, cs, hb, _⟩ := h; exact hb.lt
theorem RowB.later (h : RowB W g E m xs) (hl : Lat W w) : RowB w g E m xs := by
 obtain ⟨h0, cs, hb, h1⟩ := h
 exact ⟨h0, cs, hb.later hl, h1⟩
theorem RowB.kept (h : RowB W g E m xs) (hk : w.heap[g]? = W.heap[g]?) : RowB w g E m xs := by
 obtain ⟨h0, cs, hb, h1⟩ := h
 exact ⟨h0, cs, hk.trans hb, h1⟩
theorem RowB.range (h : RowB w g E m xs) {i : Nat} {x : List Value} (hx : xs[i]? = some x) : w.rangeAt g (i * m) x := fun j v hj => by
 obtain ⟨_, cs, hb, _, h2⟩ := h
 rw [hb.cell (i * m + j)]
 exact h2 i x hx j v hj
theorem RowB.there (h : RowB w g E m xs) {i k : Nat} (hk : i * m + k ≤ xs.length * m) : w.there g (i * m) k := fun j hj => by
 obtain ⟨_, cs, hb, h1, _⟩ := h
 refine ⟨?_, hb.frozen _⟩
 rw [hb.cell, Array.getElem?_eq_getElem (by omega)]
 rfl
theorem Blk.write {cs : Array Value} (h : Blk w g E cs) (vs : List Value) : ∀ o, o + vs.length ≤ cs.size → ∃ cs', Blk (w.setCells g o vs) g E cs' ∧ cs'.size = cs.size ∧ (∀ j v, vs[j]? = some v → cs'[o + j]? = some v) ∧ ∀ j, (j < o ∨ o + vs.length ≤ j) → cs'[j]? = cs[j]? := by
 induction vs generalizing w cs with
 | nil => exact fun o _ => ⟨cs, h, rfl, fun j v h => by simp at h, fun _ _ => rfl⟩
 | cons x r ih =>
   intro o hl
   have hlen : o + 1 + r.length ≤ (cs.setIfInBounds o x).size := by simp at hl ⊢; omega
   obtain ⟨cs', h1, h2, h3, h4⟩ := ih (w := w.setCell ⟨g, o, none⟩ x) (h.set o x) (o + 1) hlen
   refine ⟨cs', h1, by simpa using h2, fun j v hj => ?_, fun j hj => ?_⟩
   ·cases j with
    | zero =>
      simp at hj
      subst hj
      rw [Nat.add_zero, h4 o (.inl (by omega))]
      have : o < cs.size := by simp at hl; omega
      simp [this]
    | succ j =>
      have := h3 j v (by simpa using hj)
      rw [show o + (j + 1) = o + 1 + j by omega]
      exact this
   ·simp at hj
    rw [h4 j (by omega), Array.getElem?_setIfInBounds_ne (by omega)]
theorem RowB.set (h : RowB w g E m xs) {i : Nat} (hi : i < xs.length) {y : List Value} (hy : y.length = m) (h1y : ∀ v ∈ y, v.oneCell' = true) : RowB (w.setCells g (i * m) y) g E m (xs.set i y) := by
 obtain ⟨h0, cs, hb, h1, h2⟩ := h
 have hle : i * m + y.length ≤ cs.size := by
  have : (i + 1) * m ≤ xs.length * m := Nat.mul_le_mul_right m hi
  rw [Nat.add_mul] at this
  omega
 obtain ⟨cs', b1, b2, b3, b4⟩ := hb.write y (i * m) hle
 refine ⟨fun x hx => ?_, cs', b1, by rw [List.length_set, b2]; exact h1, fun k x hx j v hv => ?_⟩
 ·rcases List.mem_or_eq_of_mem_set hx with hx | rfl
  ·exact h0 x hx
  ·exact ⟨hy, h1y⟩
 ·by_cases e : i = k
  ·subst e
   rw [List.getElem?_set_self hi] at hx
   cases hx
   exact b3 j v hv
  ·rw [List.getElem?_set_ne e] at hx
   have hj : j < m := by
    have := (List.getElem?_eq_some_iff.1 hv).1
    have := (h0 x (List.mem_of_getElem? hx)).1
    omega
   rw [b4 (k * m + j) ?_]
   ·exact h2 k x hx j v hv
   ·rcases Nat.lt_or_ge k i with hki | hki
    ·left
     have : (k + 1) * m ≤ i * m := Nat.mul_le_mul_right m hki
     rw [Nat.add_mul] at this
     omega
    ·right
     have : (i + 1) * m ≤ k * m := Nat.mul_le_mul_right m (by omega)
     rw [Nat.add_mul] at this
     omega
theorem RowB.cut (h : RowB w g E m xs) {i : Nat} {L : List Value} (hL : i * m + L.length ≤ xs.length * m) : RowB (w.setCells g (i * m) L) g E m (xs.take i) := by
 obtain ⟨h0, cs, hb, h1, h2⟩ := h
 obtain ⟨cs', b1, b2, b3, b4⟩ := hb.write L (i * m) (by omega)
 refine ⟨fun x hx => h0 x (List.mem_of_mem_take hx), cs', b1, by rw [b2]; exact Nat.le_trans (Nat.mul_le_mul_right m (by simp; omega)) h1, fun k x hx j v hv => ?_⟩
 rw [List.getElem?_take] at hx
 split at hx
 ·rename_i hki
  have hj : j < m := by
   have := (List.getElem?_eq_some_iff.1 hv).1
   have := (h0 x (List.mem_of_getElem? hx)).1
   omega
  have : (k + 1) * m ≤ i * m := Nat.mul_le_mul_right m hki
  rw [Nat.add_mul] at this
  rw [b4 (k * m + j) (.inl (by omega))]
  exact h2 k x hx j v hv
 ·cases hx
theorem RowB.of_own {B n c : Nat} (h : OwnM w B E m (.slice (some ⟨g, 0, none⟩) n c) xs) (h1 : ∀ x ∈ xs, ∀ v ∈ x, v.oneCell' = true) : RowB w g E m xs ∧ B ≤ g ∧ xs.length = n ∧ n ≤ c := by
 obtain ⟨h0, hl, h2⟩ := h
 rcases h2 with ⟨e, _⟩ | ⟨g', cap, cur, e, hb, hg, hnc, _, hcs, ht⟩
 ·cases e
 ·cases e
  refine ⟨⟨fun x hx => ⟨h0 x hx, h1 x hx⟩, cur, hg, by rw [hcs]; exact Nat.mul_le_mul_right m hnc, fun i x hx j v hv => ?_⟩, hb, rfl, hnc⟩
  have hi := flat_get h0 hx hv
  rw [← ht, List.getElem?_take] at hi
  split at hi
  ·simpa using hi
  ·cases hi
end
theorem wpList_setM {P : Program} {ops : Array Oper} {rest : List Oper} {op : Oper} {a : Act} {w : World} {Q : Exit → Act → World → Prop} (hgd : op.guard = none) (ty : TypeId) (x y : Operand) (ho : op.op = .store ty x y) (hd : op.dst = none)
  {g m i o : Nat} {E : TypeId} {xs : List (List Value)} (hr : RowB w g E m xs) (hi : i < xs.length) (ho' : o = i * m) (hx : a.eval x = .pointer (some ⟨g, o, none⟩)) (c : List Value) (hy : a.eval y = .agg c.toArray) (hc : c.length = m)
  (hinfo : (P.info? ty).map (·.size) = some m) (h1 : ∀ v ∈ c, v.oneCell' = true)
  (h : ∀ w', RowB w' g E m (xs.set i c) → LatP (· = g) w w' → w'.heap.size = w.heap.size → wpList P ops Q rest a w') : wpList P ops Q (op :: rest) a w := by
 subst ho'
 have ht : w.there g (i * m) c.toArray.size := by
  have : (i + 1) * m ≤ xs.length * m := Nat.mul_le_mul_right m hi
  rw [Nat.add_mul] at this
  exact hr.there (by simp; omega)
 refine wpList_store_mid hgd ty x y ho g (i * m) c.toArray hx hy ht (by rw [hinfo]; simp [hc]) (by simpa [Array.all_eq_true'] using h1) ?_
 have e : a.put op.dst undef = a := by rw [hd]; rfl
 rw [e]
 have hw := hr.set hi hc h1
 exact h _ (by simpa using hw) (by simpa using LatP.setCells c w (i * m)) (size_setCells _ _ _)
theorem run_clearM {P : Program} (w : World) (t e ty : TypeId) (z : Value) (ht : P.underlying t = some (.slice e)) (hv : ∀ w, (zeroValue e).run P w = .ok z w) (b o n c : Nat) (hn : 0 < n) (L : List Value) (hL : (Builtin.zeroCells z.cells n).toList = L) (h1 : ∀ v ∈ L, v.oneCell' = true)
  (hc : w.there b o L.length) :
  (Builtin.clear_ #[t] ty #[.slice (some ⟨b, o, none⟩) n c]).run P w = .ok (.tuple #[]) (w.setCells b o L) := by
 have hst := run_storeCells_cells (P := P) b o L 0 w (by intro j hj; simpa using (hc j hj).1) (by intro j hj; simpa using (hc j hj).2) h1
 simp only [Nat.add_zero] at hst
 obtain ⟨m, rfl⟩ : ∃ m, n = m + 1 := ⟨n - 1, by omega⟩
 simp [Builtin.clear_, run_underlying ht, hv, hL, hst]
structure DelInv (p : List Value → Bool) (xs : List (List Value)) (i j : Nat) (ph : List (List Value)) : Prop where
 lt : i < j
 le : j ≤ xs.length
 len : ph.length = xs.length
 kept : ph.take i = (xs.take j).filter fun x => !p x
 rest : ph.drop j = xs.drop j
section
variable {p : List Value → Bool} {xs ph : List (List Value)} {i j : Nat} {x : List Value}
theorem DelInv.start {k : Nat} (hx : xs[k]? = some x) (hp : p x = true) (hb : ∀ y ∈ xs.take k, p y = false) : DelInv p xs k (k + 1) xs := by
 obtain ⟨hl, e⟩ := List.getElem?_eq_some_iff.1 hx
 refine ⟨by omega, by omega, rfl, ?_, rfl⟩
 rw [List.take_succ_eq_append_getElem hl, e, List.filter_append]
 have h1 : (xs.take k).filter (fun x => !p x) = xs.take k := by
  rw [List.filter_eq_self]
  intro y hy
  rw [hb y hy]; rfl
 rw [h1]
 simp [hp]
theorem DelInv.cur (h : DelInv p xs i j ph) (hx : xs[j]? = some x) : ph[j]? = some x := by
 have h1 : (ph.drop j)[0]? = (xs.drop j)[0]? := by rw [h.rest]
 rw [List.getElem?_drop, List.getElem?_drop] at h1
 simpa [hx] using h1
theorem DelInv.skip (h : DelInv p xs i j ph) (hx : xs[j]? = some x) (hp : p x = true) : DelInv p xs i (j + 1) ph := by
 obtain ⟨hl, e⟩ := List.getElem?_eq_some_iff.1 hx
 refine ⟨by have := h.lt; omega, by omega, h.len, ?_, ?_⟩
 ·rw [h.kept, List.take_succ_eq_append_getElem hl, e, List.filter_append]
  simp [hp]
 ·rw [← List.drop_drop, ← List.drop_drop, h.rest]
theorem DelInv.keep (h : DelInv p xs i j ph) (hx : xs[j]? = some x) (hp : p x = false) : DelInv p xs (i + 1) (j + 1) (ph.set i x) := by
 obtain ⟨hl, e⟩ := List.getElem?_eq_some_iff.1 hx
 have hi : i < ph.length := by have := h.lt; have := h.len; omega
 refine ⟨by have := h.lt; omega, by omega, by rw [List.length_set]; exact h.len, ?_, ?_⟩
 ·rw [List.take_succ_eq_append_getElem (by simpa using hi), List.getElem_set_self, List.take_set_of_le (Nat.le_refl i), h.kept, List.take_succ_eq_append_getElem hl, e, List.filter_append]
  simp [hp]
 ·rw [List.drop_set_of_lt (by have := h.lt; omega), ← List.drop_drop, ← List.drop_drop, h.rest]
theorem DelInv.fin (h : DelInv p xs i j ph) (hj : xs.length = j) : i = (xs.filter fun x => !p x).length ∧ ph.take i = xs.filter fun x => !p x := by
 have h1 := h.kept
 rw [show xs.take j = xs from List.take_of_length_le (by omega)] at h1
 refine ⟨?_, h1⟩
 rw [← h1, List.length_take]
 have := h.lt
 have := h.len
 omega
end
theorem zeroCells_len (z : Array Value) (n : Nat) : (Builtin.zeroCells z n).toList.length = n * z.size := by simp [Builtin.zeroCells]
theorem zeroCells_one (z : Array Value) (h : ∀ v ∈ z.toList, v.oneCell' = true) (hz : 0 < z.size) (n : Nat) : ∀ v ∈ (Builtin.zeroCells z n).toList, v.oneCell' = true := by
 intro v hv
 simp only [Builtin.zeroCells, Array.toList_map, List.mem_map] at hv
 obtain ⟨i, _, rfl⟩ := hv
 have hlt := Nat.mod_lt i hz
 rw [getElem!_pos z (i % z.size) hlt]
 exact h _ (Array.getElem_mem_toList hlt)
end Go.Proofs.YteocdndanehpnaaGreat
namespace Go.Proofs.YteocdndanehpnaaGreat
section
variable {α : Type}
def posR (lt : α → α → Bool) (x : α) (S : List α) : Nat → Nat
 | 0 => 0
 | k + 1 => match S[k]? with
   | some y => if lt x y then posR lt x S k else k + 1
   | none => k + 1
def insR (lt : α → α → Bool) (S : List α) (x : α) : List α := S.take (posR lt x S S.length) ++ x :: S.drop (posR lt x S S.length)
def sortR (lt : α → α → Bool) (xs : List α) : List α := xs.foldl (insR lt) []
theorem insR_length (lt : α → α → Bool) (S : List α) (x : α) : (insR lt S x).length = S.length + 1 := by
 simp only [insR, List.length_append, List.length_cons, List.length_take, List.length_drop]
 omega
theorem foldR_length (lt : α → α → Bool) : ∀ (xs S : List α), (xs.foldl (insR lt) S).length = S.length + xs.length
 | [], S => by simp
 | x :: r, S => by rw [List.foldl_cons, foldR_length lt r, insR_length, List.length_cons]; omega
theorem sortR_length (lt : α → α → Bool) (xs : List α) : (sortR lt xs).length = xs.length := by
 rw [sortR, foldR_length]; simp
theorem sortR_snoc (lt : α → α → Bool) (xs : List α) (x : α) : sortR lt (xs ++ [x]) = insR lt (sortR lt xs) x := by
 simp [sortR, List.foldl_append]
theorem insR_mem {lt : α → α → Bool} {S : List α} {x y : α} : y ∈ insR lt S x ↔ y = x ∨ y ∈ S := by
 unfold insR
 rw [List.mem_append, List.mem_cons]
 constructor
 ·rintro (h | h | h)
  ·exact .inr (List.mem_of_mem_take h)
  ·exact .inl h
  ·exact .inr (List.mem_of_mem_drop h)
 ·rintro (h | h)
  ·exact .inr (.inl h)
  ·rw [← List.take_append_drop (posR lt x S S.length) S, List.mem_append] at h
   rcases h with h | h
   ·exact .inl h
   ·exact .inr (.inr h)
theorem foldR_mem {lt : α → α → Bool} {y : α} : ∀ {xs S : List α}, y ∈ xs.foldl (insR lt) S ↔ y ∈ S ∨ y ∈ xs
 | [], S => by simp
 | x :: r, S => by rw [List.foldl_cons, foldR_mem, insR_mem, List.mem_cons]; grind
theorem sortR_mem {lt : α → α → Bool} {y : α} {xs : List α} : y ∈ sortR lt xs ↔ y ∈ xs := by rw [sortR, foldR_mem]; simp
def onWay (A S R : List α) (x : α) (k : Nat) : List α := A ++ (S.take k ++ x :: (S.drop k ++ R))
theorem onWay_start (A S R : List α) (x : α) : A ++ (S ++ x :: R) = onWay A S R x S.length := by
 simp [onWay]
theorem onWay_x {A S R : List α} {x : α} {k : Nat} (hk : k ≤ S.length) : (onWay A S R x k)[A.length + k]? = some x := by
 unfold onWay
 rw [List.getElem?_append_right (by omega), Nat.add_sub_cancel_left, List.getElem?_append_right (by rw [List.length_take]; omega), List.length_take, Nat.min_eq_left hk, Nat.sub_self]
 rfl
theorem onWay_y {A S R : List α} {x y : α} {k : Nat} (hy : S[k]? = some y) : (onWay A S R x (k + 1))[A.length + k]? = some y := by
 have hk := (List.getElem?_eq_some_iff.1 hy).1
 unfold onWay
 rw [List.getElem?_append_right (by omega), Nat.add_sub_cancel_left, List.getElem?_append_left (by rw [List.length_take]; omega), List.getElem?_take_of_lt (by omega), hy]
theorem set_two (P Q : List α) (u v : α) : ((P ++ u :: v :: Q).set (P.length + 1) u).set P.length v = P ++ v :: u :: Q := by
 rw [List.set_append_right _ _ (by omega), Nat.add_sub_cancel_left, List.set_append_right _ _ (Nat.le_refl _), Nat.sub_self]
 rfl
theorem onWay_swap {A S R : List α} {x y : α} {k : Nat} (hy : S[k]? = some y) : ((onWay A S R x (k + 1)).set (A.length + (k + 1)) y).set (A.length + k) x = onWay A S R x k := by
 obtain ⟨hk, e⟩ := List.getElem?_eq_some_iff.1 hy
 have e1 : onWay A S R x (k + 1) = (A ++ S.take k) ++ (y :: x :: (S.drop (k + 1) ++ R)) := by
  unfold onWay
  rw [List.take_succ_eq_append_getElem hk, e]
  simp
 have e2 : onWay A S R x k = (A ++ S.take k) ++ (x :: y :: (S.drop (k + 1) ++ R)) := by
  unfold onWay
  rw [List.drop_eq_getElem_cons hk, e]
  simp
 have hP : (A ++ S.take k).length = A.length + k := by rw [List.length_append, List.length_take, Nat.min_eq_left (by omega)]
 rw [e1, e2, show A.length + (k + 1) = (A ++ S.take k).length + 1 by omega, show A.length + k = (A ++ S.take k).length by omega]
 exact set_two _ _ _ _
def way (lt : α → α → Bool) (x : α) (S : List α) (k : Nat) : Prop := posR lt x S S.length = posR lt x S k
theorem way_start (lt : α → α → Bool) (x : α) (S : List α) : way lt x S S.length := rfl
theorem way_step {lt : α → α → Bool} {x y : α} {S : List α} {k : Nat} (h : way lt x S (k + 1)) (hy : S[k]? = some y) (hl : lt x y = true) : way lt x S k := by
 unfold way at h ⊢
 rw [h, posR, hy]
 simp [hl]
theorem way_stop {lt : α → α → Bool} {A S R : List α} {x : α} {k : Nat} (h : way lt x S k) (hs : k = 0 ∨ ∃ j y, k = j + 1 ∧ S[j]? = some y ∧ lt x y = false) : onWay A S R x k = A ++ (insR lt S x ++ R) := by
 have hp : posR lt x S S.length = k := by
  unfold way at h
  rw [h]
  rcases hs with rfl | ⟨j, y, rfl, hy, hl⟩
  ·rfl
  ·rw [posR, hy]; simp [hl]
 unfold onWay insR
 rw [hp]
 simp
theorem block_next (lt : α → α → Bool) {xs : List α} {a i : Nat} {x : α} (ha : a ≤ i) (hx : xs[i]? = some x) :
  sortR lt ((xs.drop a).take (i + 1 - a)) = insR lt (sortR lt ((xs.drop a).take (i - a))) x ∧ xs.drop i = x :: xs.drop (i + 1) := by
 obtain ⟨hl, e⟩ := List.getElem?_eq_some_iff.1 hx
 have h1 : i - a < (xs.drop a).length := by simp; omega
 refine ⟨?_, by rw [List.drop_eq_getElem_cons hl, e]⟩
 rw [show i + 1 - a = (i - a) + 1 by omega, List.take_succ_eq_append_getElem h1, sortR_snoc]
 congr 1
 rw [List.getElem_drop, ← e]
 congr 1
 omega
end
end Go.Proofs.YteocdndanehpnaaGreat
namespace Go.Proofs.YteocdndanehpnaaGreat
section
variable {α : Type}
theorem insR_perm (lt : α → α → Bool) (S : List α) (x : α) : (insR lt S x).Perm (S ++ [x]) := by
 unfold insR
 have h : (S.take (posR lt x S S.length) ++ x :: S.drop (posR lt x S S.length)).Perm (x :: (S.take (posR lt x S S.length) ++ S.drop (posR lt x S S.length))) := List.perm_middle
 rw [List.take_append_drop] at h
 exact h.trans (List.perm_append_singleton x S).symm
theorem foldR_perm (lt : α → α → Bool) : ∀ (xs S : List α), (xs.foldl (insR lt) S).Perm (S ++ xs)
 | [], S => by simp
 | x :: r, S => by
   rw [List.foldl_cons]
   refine (foldR_perm lt r _).trans ?_
   have h := (insR_perm lt S x).append_right r
   rw [List.append_assoc] at h
   exact h
theorem sortR_perm (lt : α → α → Bool) (xs : List α) : (sortR lt xs).Perm xs := foldR_perm lt xs []
theorem posR_spec (lt : α → α → Bool) (x : α) (S : List α) : ∀ k, k ≤ S.length → posR lt x S k ≤ k ∧ (∀ j, posR lt x S k ≤ j → j < k → ∀ y, S[j]? = some y → lt x y = true) ∧
  (0 < posR lt x S k → ∃ y, S[posR lt x S k - 1]? = some y ∧ lt x y = false)
 | 0, _ => ⟨Nat.le_refl _, fun j _ h => absurd h (Nat.not_lt_zero _), fun h => absurd h (Nat.lt_irrefl _)⟩
 | k + 1, hk => by
   obtain ⟨y, hy⟩ : ∃ y, S[k]? = some y := ⟨_, List.getElem?_eq_getElem (show k < S.length by omega)⟩
   obtain ⟨h1, h2, h3⟩ := posR_spec lt x S k (by omega)
   by_cases hl : lt x y = true
   ·have e : posR lt x S (k + 1) = posR lt x S k := by simp [posR, hy, hl]
    rw [e]
    refine ⟨by omega, fun j h4 h5 z hz => ?_, h3⟩
    by_cases hj : j = k
    ·subst hj
     rw [hy] at hz
     cases hz
     exact hl
    ·exact h2 j h4 (by omega) z hz
   ·have e : posR lt x S (k + 1) = k + 1 := by simp [posR, hy, hl]
    rw [e]
    refine ⟨Nat.le_refl _, fun j h4 h5 => absurd h5 (by omega), fun _ => ⟨y, hy, by simpa using hl⟩⟩
theorem insR_desc {R : α → Int} {S : List α} (hs : S.Pairwise (fun a b => R b ≤ R a)) (x : α) : (insR (fun x y => decide (R y < R x)) S x).Pairwise (fun a b => R b ≤ R a) := by
 obtain ⟨h1, h2, h3⟩ := posR_spec (fun x y => decide (R y < R x)) x S S.length (Nat.le_refl _)
 unfold insR
 generalize posR (fun x y => decide (R y < R x)) x S S.length = k at *
 have hL : ∀ a ∈ S.take k, R x ≤ R a := by
  intro a ha
  obtain ⟨j, hj, rfl⟩ := List.mem_iff_getElem.1 ha
  rw [List.length_take] at hj
  obtain ⟨y, hy, hl⟩ := h3 (by omega)
  obtain ⟨hyl, rfl⟩ := List.getElem?_eq_some_iff.1 hy
  have hl : ¬ R S[k - 1] < R x := by simpa using hl
  rw [List.getElem_take]
  rcases Nat.lt_or_ge j (k - 1) with h | h
  ·have := List.pairwise_iff_getElem.1 hs j (k - 1) (by omega) hyl h
   omega
  ·have e : j = k - 1 := by omega
   subst e
   omega
 have hR : ∀ b ∈ S.drop k, R b ≤ R x := by
  intro b hb
  obtain ⟨j, hj, rfl⟩ := List.mem_iff_getElem.1 hb
  rw [List.length_drop] at hj
  rw [List.getElem_drop]
  have := h2 (k + j) (by omega) (by omega) S[k + j] (List.getElem?_eq_getElem (by omega))
  have : R S[k + j] < R x := by simpa using this
  omega
 rw [List.pairwise_append]
 refine ⟨hs.sublist (List.take_sublist _ _), List.pairwise_cons.2 ⟨hR, hs.sublist (List.drop_sublist _ _)⟩, ?_⟩
 intro a ha b hb
 have h4 := hL a ha
 rcases List.mem_cons.1 hb with rfl | hb
 ·exact h4
 ·have := hR b hb
  omega
theorem sortR_desc {R : α → Int} (xs : List α) : (sortR (fun x y => decide (R y < R x)) xs).Pairwise (fun a b => R b ≤ R a) := by
 have h : ∀ (xs S : List α), S.Pairwise (fun a b => R b ≤ R a) → (xs.foldl (insR (fun x y => decide (R y < R x))) S).Pairwise (fun a b => R b ≤ R a) := by
  intro xs
  induction xs with
  | nil => intro S h; exact h
  | cons x r ih => intro S h; rw [List.foldl_cons]; exact ih _ (insR_desc h x)
 exact h xs [] List.Pairwise.nil
end
end Go.Proofs.YteocdndanehpnaaGreat
namespace Go.Proofs.YteocdndanehpnaaGreat
open Go.RowKit
theorem wpAnyH_skip {P : Program} {md : Region.Mode} {ops : Array Oper} {Q : Exit → Act → World → Prop} {S : World → Prop} (i : Nat) (d : Tmp) {fuel : Nat} {listed : Array Bool} {a : Act} {w : World} (h0 : (ops[i]?).map (·.dst) = some (some d))
  (hs : Region.noSelect ops = true) (hf : Region.free md ops listed i = true) (hr : (Region.ready md ops listed).contains i = true)
  (hQ : ∀ c (a : Act) w, Q (.panic c) (a.put (some d) undef) w → Q (.panic c) a w) (hw : (ops[i]?).map (fun o => Region.wanted o (yielded ops a.tmps)) = some false) (hS : S w)
  (h : wpAnyH P md ops Q S fuel (listed.setIfInBounds i true) (a.put (some d) undef) w) : wpAnyH P md ops Q S (fuel + 1) listed a w := by
 cases ho : ops[i]? with
 | none => rw [ho] at h0; cases h0
 | some o =>
   rw [ho] at h0 hw
   simp only [Option.map_some, Option.some.injEq] at h0 hw
   refine wpAnyH_take (oi := o) (v := undef) ho hs hf hr (by rw [h0]; exact hQ) (.inr ⟨hw, rfl⟩) hS ?_
   rw [h0]
   exact h
theorem wp_setM {P : Program} {op : Oper} {a : Act} {w : World} {K : Act → World → Prop} {Q : Exit → Act → World → Prop} (ty : TypeId) (x y : Operand) (ho : op.op = .store ty x y)
  {g m i o : Nat} {E : TypeId} {xs : List (List Value)} (hr : RowB w g E m xs) (hi : i < xs.length) (ho' : o = i * m) (hx : a.eval x = .pointer (some ⟨g, o, none⟩)) (c : List Value) (hy : a.eval y = .agg c.toArray) (hc : c.length = m)
  (hinfo : (P.info? ty).map (·.size) = some m) (h1 : ∀ v ∈ c, v.oneCell' = true)
  (h : ∀ w', RowB w' g E m (xs.set i c) → LatP (· = g) w w' → w'.heap.size = w.heap.size → K (a.put op.dst undef) w') : Oper.wp P op a w K Q := by
 subst ho'
 have ht : w.there g (i * m) c.toArray.size := by
  have : (i + 1) * m ≤ xs.length * m := Nat.mul_le_mul_right m hi
  rw [Nat.add_mul] at this
  exact hr.there (by simp; omega)
 refine wp_store_mid ty x y ho g (i * m) c.toArray hx hy ht (by rw [hinfo]; simp [hc]) (by simpa [Array.all_eq_true'] using h1) ?_
 have hw := hr.set hi hc h1
 exact h _ (by simpa using hw) (by simpa using LatP.setCells c w (i * m)) (size_setCells _ _ _)
theorem ins_nums {a q jm n : Nat} (hjm : a + q = jm) (hjn : jm + 1 < n) (hn : n ≤ 1000000) :
  a < jm + 1 ∧ ((jm : Int) + 1).toNat = jm + 1 ∧ IntKind.i64.wrap (jm : Int) = jm ∧ wrap64 (jm : Int) = jm ∧ (jm : Int) + 1 < (n : Int) ∧ (jm : Int) < (n : Int) ∧ (a : Int) < (jm : Int) + 1 ∧ ¬ ((jm : Int) + 1 < 0) :=
 ⟨by omega, by omega, IntWalk.i64_in _ (by omega), IntWalk.wrap64_in _ (by omega), by omega, by omega, by omega, by omega⟩
theorem meas_up {b k : Nat} (h : k < b) : b - (intOf (.int .i64 ((k : Int) + 1))).toNat < b - (intOf (.int .i64 (k : Int))).toNat := by
 show b - ((k : Int) + 1).toNat < b - ((k : Int)).toNat
 omega
theorem meas_down (jm : Nat) : (intOf (.int .i64 (jm : Int))).toNat < (intOf (.int .i64 ((jm : Int) + 1))).toNat := by
 show ((jm : Int)).toNat < ((jm : Int) + 1).toNat
 omega
theorem int_succ (k : Nat) : Value.int .i64 ((k : Int) + 1) = .int .i64 ((k + 1 : Nat) : Int) := by simp
end Go.Proofs.YteocdndanehpnaaGreat
