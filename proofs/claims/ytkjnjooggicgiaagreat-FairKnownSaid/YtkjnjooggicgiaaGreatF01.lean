/- Several texts in one: RowB, FrM. -/
import Derived.Test.YtkjnjooggicgiaaGreatE02
import Derived.Test.YtkjnjooggicgiaaGreatJ29
import Derived.Lib.SliceRun
import Derived.Test.YtkjnjooggicgiaaGreatF03

/- Rows of elements of several cells that a call owns and rewrites in place. -/
namespace Go.Proofs.YtkjnjooggicgiaaGreat
open Go.RowKit

/-- Block g begins with the elements xs, m cells each. -/
def RowB (w : World) (g : Nat) (E : TypeId) (m : Nat) (xs : List (List Value)) : Prop :=
  (∀ x ∈ xs, x.length = m ∧ ∀ v ∈ x, v.oneCell' = true) ∧ ∃ cs, Blk w g E cs ∧ xs.length * m ≤ cs.size ∧ ∀ (i : Nat) (x : List Value), xs[i]? = some x → ∀ (j : Nat) (v : Value), x[j]? = some v → cs[i * m + j]? = some v
section
variable {w W : World} {g m : Nat} {E : TypeId} {xs : List (List Value)}
theorem RowB.lt (h : RowB w g E m xs) : g < w.heap.size := by obtain ⟨_, cs, hb, _⟩ := h; exact hb.lt
theorem RowB.later (h : RowB W g E m xs) (hl : Lat W w) : RowB w g E m xs := by
  obtain ⟨h0, cs, hb, h1⟩ := h
  exact ⟨h0, cs, hb.later hl, h1⟩
theorem RowB.kept (h : RowB W g E m xs) (hk : w.heap[g]? = W.heap[g]?) : RowB w g E m xs := by
  obtain ⟨h0, cs, hb, h1⟩ := h
  exact ⟨h0, cs, hk.trans hb, h1⟩
theorem RowB.range (h : RowB w g E m xs) {i : Nat} {x : List Value} (hx : xs[i]? = some x) : w.rangeAt g (i * m) x := fun j v hj => by
  obtain ⟨_, cs, hb, _, h2⟩ := h
  rw [hb.cell (i * m + j)]
  exact h2 i x hx j v hj
theorem RowB.row (h : RowB w g E m xs) : RowM w (some ⟨g, 0, none⟩) m xs.length xs :=
  ⟨rfl, fun x hx => (h.1 x hx).1, fun _ => ⟨g, 0, rfl, h.lt, fun i x hx => by rw [Nat.zero_add]; exact h.range hx⟩⟩
theorem RowB.take (h : RowB w g E m xs) (k : Nat) : RowB w g E m (xs.take k) := by
  obtain ⟨h0, cs, hb, h1, h2⟩ := h
  refine ⟨fun x hx => h0 x (List.mem_of_mem_take hx), cs, hb, Nat.le_trans (Nat.mul_le_mul_right m (by simp; omega)) h1, fun i x hx => h2 i x ?_⟩
  rw [List.getElem?_take] at hx
  split at hx
  · exact hx
  · cases hx
theorem idx_lt {i n m j : Nat} (hi : i < n) (hj : j < m) : i * m + j < n * m := by
  have : (i + 1) * m ≤ n * m := Nat.mul_le_mul_right m hi
  rw [Nat.add_mul] at this
  omega
theorem RowB.there (h : RowB w g E m xs) {i k : Nat} (hk : i * m + k ≤ xs.length * m) : w.there g (i * m) k := fun j hj => by
  obtain ⟨_, cs, hb, h1, _⟩ := h
  refine ⟨?_, hb.frozen _⟩
  rw [hb.cell, Array.getElem?_eq_getElem (by omega)]
  rfl
theorem div_one {i j m a b : Nat} (ha : a < m) (hb : b < m) (h : i * m + a = j * m + b) : i = j ∧ a = b := by
  have h1 : (i * m + a) / m = i := by rw [Nat.mul_comm, Nat.mul_add_div (by omega), Nat.div_eq_of_lt ha]; rfl
  have h2 : (j * m + b) / m = j := by rw [Nat.mul_comm, Nat.mul_add_div (by omega), Nat.div_eq_of_lt hb]; rfl
  have e : i = j := by rw [← h1, ← h2, h]
  subst e
  exact ⟨rfl, by omega⟩
/-- Cells that are written in a block. -/
theorem Blk.write {cs : Array Value} (h : Blk w g E cs) (vs : List Value) : ∀ o, o + vs.length ≤ cs.size → ∃ cs', Blk (w.setCells g o vs) g E cs' ∧ cs'.size = cs.size ∧ (∀ j v, vs[j]? = some v → cs'[o + j]? = some v) ∧ ∀ j, (j < o ∨ o + vs.length ≤ j) → cs'[j]? = cs[j]? := by
  induction vs generalizing w cs with
  | nil => exact fun o _ => ⟨cs, h, rfl, fun j v h => by simp at h, fun _ _ => rfl⟩
  | cons x r ih =>
    intro o hl
    have hlen : o + 1 + r.length ≤ (cs.setIfInBounds o x).size := by simp at hl ⊢; omega
    obtain ⟨cs', h1, h2, h3, h4⟩ := ih (w := w.setCell ⟨g, o, none⟩ x) (h.set o x) (o + 1) hlen
    refine ⟨cs', h1, by simpa using h2, fun j v hj => ?_, fun j hj => ?_⟩
    · cases j with
      | zero =>
        simp at hj
        subst hj
        rw [Nat.add_zero, h4 o (.inl (by omega))]
        have : o < cs.size := by simp at hl; omega
        simp [this]
      | succ j =>
        have := h3 j v (by simpa using hj)
        rw [show o + (j + 1) = o + 1 + j by omega]
        exact this
    · simp at hj
      rw [h4 j (by omega), Array.getElem?_setIfInBounds_ne (by omega)]
/-- One element is written. -/
theorem RowB.set (h : RowB w g E m xs) {i : Nat} (hi : i < xs.length) {y : List Value} (hy : y.length = m) (h1y : ∀ v ∈ y, v.oneCell' = true) : RowB (w.setCells g (i * m) y) g E m (xs.set i y) := by
  obtain ⟨h0, cs, hb, h1, h2⟩ := h
  have hle : i * m + y.length ≤ cs.size := by
    have : (i + 1) * m ≤ xs.length * m := Nat.mul_le_mul_right m hi
    rw [Nat.add_mul] at this
    omega
  obtain ⟨cs', b1, b2, b3, b4⟩ := hb.write y (i * m) hle
  refine ⟨fun x hx => ?_, cs', b1, by rw [List.length_set, b2]; exact h1, fun k x hx j v hv => ?_⟩
  · rcases List.mem_or_eq_of_mem_set hx with hx | rfl
    · exact h0 x hx
    · exact ⟨hy, h1y⟩
  · by_cases e : i = k
    · subst e
      rw [List.getElem?_set_self hi] at hx
      cases hx
      exact b3 j v hv
    · rw [List.getElem?_set_ne e] at hx
      have hj : j < m := by
        have := (List.getElem?_eq_some_iff.1 hv).1
        have := (h0 x (List.mem_of_getElem? hx)).1
        omega
      rw [b4 (k * m + j) ?_]
      · exact h2 k x hx j v hv
      · rcases Nat.lt_or_ge k i with hki | hki
        · left
          have : (k + 1) * m ≤ i * m := Nat.mul_le_mul_right m hki
          rw [Nat.add_mul] at this
          omega
        · right
          have : (i + 1) * m ≤ k * m := Nat.mul_le_mul_right m (by omega)
          rw [Nat.add_mul] at this
          omega
/-- All behind element i is written. -/
theorem RowB.cut (h : RowB w g E m xs) {i : Nat} {L : List Value} (hL : i * m + L.length ≤ xs.length * m) : RowB (w.setCells g (i * m) L) g E m (xs.take i) := by
  obtain ⟨h0, cs, hb, h1, h2⟩ := h
  obtain ⟨cs', b1, b2, b3, b4⟩ := hb.write L (i * m) (by omega)
  refine ⟨fun x hx => h0 x (List.mem_of_mem_take hx), cs', b1, by rw [b2]; exact Nat.le_trans (Nat.mul_le_mul_right m (by simp; omega)) h1, fun k x hx j v hv => ?_⟩
  rw [List.getElem?_take] at hx
  split at hx
  · rename_i hki
    have hj : j < m := by
      have := (List.getElem?_eq_some_iff.1 hv).1
      have := (h0 x (List.mem_of_getElem? hx)).1
      omega
    have : (k + 1) * m ≤ i * m := Nat.mul_le_mul_right m hki
    rw [Nat.add_mul] at this
    rw [b4 (k * m + j) (.inl (by omega))]
    exact h2 k x hx j v hv
  · cases hx
theorem RowB.of_own {B n c : Nat} (h : OwnM w B E m (.slice (some ⟨g, 0, none⟩) n c) xs) (h1 : ∀ x ∈ xs, ∀ v ∈ x, v.oneCell' = true) : RowB w g E m xs ∧ B ≤ g ∧ xs.length = n ∧ n ≤ c := by
  obtain ⟨h0, hl, h2⟩ := h
  rcases h2 with ⟨e, _⟩ | ⟨g', cap, cur, e, hb, hg, hnc, _, hcs, ht⟩
  · cases e
  · cases e
    refine ⟨⟨fun x hx => ⟨h0 x hx, h1 x hx⟩, cur, hg, by rw [hcs]; exact Nat.mul_le_mul_right m hnc, fun i x hx j v hv => ?_⟩, hb, rfl, hnc⟩
    have hi := flat_get h0 hx hv
    rw [← ht, List.getElem?_take] at hi
    split at hi
    · simpa using hi
    · cases hi
end

/-- A store of a whole element. -/
theorem wpList_setM {P : Program} {ops : Array Oper} {rest : List Oper} {op : Oper} {a : Act} {w : World} {Q : Exit → Act → World → Prop} (hgd : op.guard = none) (ty : TypeId) (x y : Operand) (ho : op.op = .store ty x y) (hd : op.dst = none)
    {g m i o : Nat} {E : TypeId} {xs : List (List Value)} (hr : RowB w g E m xs) (hi : i < xs.length) (ho' : o = i * m) (hx : a.eval x = .pointer (some ⟨g, o, none⟩)) (c : List Value) (hy : a.eval y = .agg c.toArray) (hc : c.length = m)
    (hinfo : (P.info? ty).map (·.size) = some m) (h1 : ∀ v ∈ c, v.oneCell' = true)
    (h : ∀ w', RowB w' g E m (xs.set i c) → LatP (· = g) w w' → w'.heap.size = w.heap.size → wpList P ops Q rest a w') : wpList P ops Q (op :: rest) a w := by
  subst ho'
  have ht : w.there g (i * m) c.toArray.size := by
    have : (i + 1) * m ≤ xs.length * m := Nat.mul_le_mul_right m hi
    rw [Nat.add_mul] at this
    exact hr.there (by simp; omega)
  refine wpList_store_mid hgd ty x y ho g (i * m) c.toArray hx hy ht (by rw [hinfo]; simp [hc]) (by simpa [Array.all_eq_true'] using h1) ?_
  have e : a.put op.dst undef = a := by rw [hd]; rfl
  rw [e]
  have hw := hr.set hi hc h1
  exact h _ (by simpa using hw) (by simpa using LatP.setCells c w (i * m)) (size_setCells _ _ _)

/-- 'clear(s[i:])'. -/
theorem run_clearM {P : Program} (w : World) (t e ty : TypeId) (z : Value) (ht : P.underlying t = some (.slice e)) (hv : ∀ w, (zeroValue e).run P w = .ok z w) (b o n c : Nat) (hn : 0 < n) (L : List Value) (hL : (Builtin.zeroCells z.cells n).toList = L) (h1 : ∀ v ∈ L, v.oneCell' = true)
    (hc : w.there b o L.length) :
    (Builtin.clear_ #[t] ty #[.slice (some ⟨b, o, none⟩) n c]).run P w = .ok (.tuple #[]) (w.setCells b o L) := by
  have hst := run_storeCells_cells (P := P) b o L 0 w (by intro j hj; simpa using (hc j hj).1) (by intro j hj; simpa using (hc j hj).2) h1
  simp only [Nat.add_zero] at hst
  obtain ⟨m, rfl⟩ : ∃ m, n = m + 1 := ⟨n - 1, by omega⟩
  simp [Builtin.clear_, run_underlying ht, hv, hL, hst]
/-- What DeleteFunc's loop keeps to: i elements are kept of the first j. -/
structure DelInv (p : List Value → Bool) (xs : List (List Value)) (i j : Nat) (ph : List (List Value)) : Prop where
  lt : i < j
  le : j ≤ xs.length
  len : ph.length = xs.length
  kept : ph.take i = (xs.take j).filter fun x => !p x
  rest : ph.drop j = xs.drop j
section
variable {p : List Value → Bool} {xs ph : List (List Value)} {i j : Nat} {x : List Value}
theorem DelInv.start {k : Nat} (hx : xs[k]? = some x) (hp : p x = true) (hb : ∀ y ∈ xs.take k, p y = false) : DelInv p xs k (k + 1) xs := by
  obtain ⟨hl, e⟩ := List.getElem?_eq_some_iff.1 hx
  refine ⟨by omega, by omega, rfl, ?_, rfl⟩
  rw [List.take_succ_eq_append_getElem hl, e, List.filter_append]
  have h1 : (xs.take k).filter (fun x => !p x) = xs.take k := by
    rw [List.filter_eq_self]
    intro y hy
    rw [hb y hy]; rfl
  rw [h1]
  simp [hp]
theorem DelInv.cur (h : DelInv p xs i j ph) (hx : xs[j]? = some x) : ph[j]? = some x := by
  have h1 : (ph.drop j)[0]? = (xs.drop j)[0]? := by rw [h.rest]
  rw [List.getElem?_drop, List.getElem?_drop] at h1
  simpa [hx] using h1
theorem DelInv.skip (h : DelInv p xs i j ph) (hx : xs[j]? = some x) (hp : p x = true) : DelInv p xs i (j + 1) ph := by
  obtain ⟨hl, e⟩ := List.getElem?_eq_some_iff.1 hx
  refine ⟨by have := h.lt; omega, by omega, h.len, ?_, ?_⟩
  · rw [h.kept, List.take_succ_eq_append_getElem hl, e, List.filter_append]
    simp [hp]
  · rw [← List.drop_drop, ← List.drop_drop, h.rest]
theorem DelInv.keep (h : DelInv p xs i j ph) (hx : xs[j]? = some x) (hp : p x = false) : DelInv p xs (i + 1) (j + 1) (ph.set i x) := by
  obtain ⟨hl, e⟩ := List.getElem?_eq_some_iff.1 hx
  have hi : i < ph.length := by have := h.lt; have := h.len; omega
  refine ⟨by have := h.lt; omega, by omega, by rw [List.length_set]; exact h.len, ?_, ?_⟩
  · rw [List.take_succ_eq_append_getElem (by simpa using hi), List.getElem_set_self, List.take_set_of_le (Nat.le_refl i), h.kept, List.take_succ_eq_append_getElem hl, e, List.filter_append]
    simp [hp]
  · rw [List.drop_set_of_lt (by have := h.lt; omega), ← List.drop_drop, ← List.drop_drop, h.rest]
theorem DelInv.fin (h : DelInv p xs i j ph) (hj : xs.length = j) : i = (xs.filter fun x => !p x).length ∧ ph.take i = xs.filter fun x => !p x := by
  have h1 := h.kept
  rw [show xs.take j = xs from List.take_of_length_le (by omega)] at h1
  refine ⟨?_, h1⟩
  rw [← h1, List.length_take]
  have := h.lt
  have := h.len
  omega
end
theorem zeroCells_len (z : Array Value) (n : Nat) : (Builtin.zeroCells z n).toList.length = n * z.size := by simp [Builtin.zeroCells]
theorem zeroCells_one (z : Array Value) (h : ∀ v ∈ z.toList, v.oneCell' = true) (hz : 0 < z.size) (n : Nat) : ∀ v ∈ (Builtin.zeroCells z n).toList, v.oneCell' = true := by
  intro v hv
  simp only [Builtin.zeroCells, Array.toList_map, List.mem_map] at hv
  obtain ⟨i, _, rfl⟩ := hv
  have hlt := Nat.mod_lt i hz
  rw [getElem!_pos z (i % z.size) hlt]
  exact h _ (Array.getElem_mem_toList hlt)
end Go.Proofs.YtkjnjooggicgiaaGreat

/- slices.IndexFunc and slices.DeleteFunc at elements of 2 cells. -/
namespace Go.Proofs.YtkjnjooggicgiaaGreat
open Go.RowKit
set_option linter.unusedSimpArgs false

theorem fRegSize : (Tryz.prog.info? 49).map (·.size) = some 2 := by kernel_rfl
/-- The first element that is meant. -/
def fRegIdxPost (w : World) (p : List Value → Bool) (xs : List (List Value)) (e : Ending) (w' : World) : Prop :=
  ∃ r : Int, e = .returned (.int .i64 r) ∧ ((r = -1 ∧ ∀ x ∈ xs, p x = false) ∨ ∃ (k : Nat) (x : List Value), r = (k : Int) ∧ xs[k]? = some x ∧ p x = true ∧ ∀ y ∈ xs.take k, p y = false) ∧ Lat w w'
set_option maxRecDepth 100000 in
set_option maxHeartbeats 2000000 in
theorem fRegIdx_any (p : List Value → Bool) (g n c : Nat) (xs : List (List Value)) (w : World) (hr : RowB w g 49 2 xs) (hn : xs.length = n) (hn1 : n ≤ 1000000)
    (HCL : ∀ x ∈ xs, ∀ w', Calls Tryz.prog 18 #[.agg x.toArray] w' (fun e w'' => e = .returned (.bool (p x)) ∧ Lat w' w'')) :
    Calls Tryz.prog 32 #[.slice (some ⟨g, 0, none⟩) n c, .func (.func 18) #[] #[]] w (fRegIdxPost w p xs) := by
  have HI := Lib.hid fRegSize
  have HC := Lib.hid HCL
  clear HCL
  go_enter Tryz.func32, Tryz.ntmps32
  go_wp2
  go_loopw [8] (fun i wr => ∃ k : Nat, k ≤ n ∧ i = .int .i64 k ∧ Hid (∀ y ∈ xs.take k, p y = false) ∧ Lat w wr) (fun i _ => n - (intOf i).toNat)
  case atStart => exact ⟨0, Nat.zero_le _, rfl, fun y hy => by simp at hy, Lat.refl w⟩
  case round =>
    rename_i wr
    obtain ⟨k, hk, rfl, hno, hlr⟩ := hrel
    by_cases hlt : k < n
    · have hkl : k < xs.length := by omega
      obtain ⟨x, hx⟩ : ∃ x, xs[k]? = some x := ⟨_, List.getElem?_eq_getElem hkl⟩
      have hmem := List.mem_of_getElem? hx
      have hxl : (Tryz.prog.info? 49).map (·.size) = some x.length := by rw [(hr.1 x hmem).1]; exact HI.out
      have hrange := (hr.later hlr).range hx
      have HX := Lib.hid hx
      have HT : Hid (∀ b, p x = b → b = false → ∀ y ∈ xs.take (k + 1), p y = false) := by
        intro b hb hf y hy
        obtain ⟨_, e⟩ := List.getElem?_eq_some_iff.1 hx
        rw [List.take_succ_eq_append_getElem hkl, List.mem_append, List.mem_singleton, e] at hy
        rcases hy with hy | rfl
        · exact hno.out y hy
        · rw [hb, hf]
      have HCx := HC.out x hmem
      have hgl := hr.later hlr |>.lt
      clear hx hmem
      go_wp2_with (refine wpList_load_mid (by rfl) 49 (.tmp 14) (by rfl) g (k * 2) (by rfl) x _ hrange Tryz.underlying49 rfl hxl ?_)
      refine (HCx wr).mono ?_
      rintro e w2 ⟨rfl, l2⟩
      cases hp : p x with
      | true =>
        have HP := Lib.hid hp
        clear hp
        go_wp2
        go_ret
        exact ⟨k, rfl, .inr ⟨k, x, rfl, HX.out, HP.out, hno.out⟩, hlr.trans l2⟩
      | false =>
        have HP := Lib.hid (HT.out _ hp rfl)
        clear hp
        go_wp2
        go_roundw
        case rel => exact ⟨k + 1, by omega, by go_num, HP.out, hlr.trans l2⟩
        case measure => simp [intOf]; omega
    · obtain rfl : k = n := by omega
      have HA : Hid (∀ y ∈ xs, p y = false) := by
        have := hno.out
        rwa [List.take_of_length_le (by omega)] at this
      go_wp2
      go_ret
      exact ⟨-1, rfl, .inl ⟨rfl, HA.out⟩, hlr⟩

def fRegDelPost (w : World) (g c : Nat) (p : List Value → Bool) (xs : List (List Value)) (e : Ending) (w' : World) : Prop :=
  e = .returned (.slice (some ⟨g, 0, none⟩) (xs.filter fun x => !p x).length c) ∧ RowB w' g 49 2 (xs.filter fun x => !p x) ∧ LatP (· = g) w w'
theorem fRegZero (w : World) : (zeroValue 49).run Tryz.prog w = .ok (.agg #[.int .i64 0, .int .i64 0]) w := by go_simp
theorem fRegZeroL (n : Nat) : (Builtin.zeroCells ((.agg #[.int .i64 0, .int .i64 0] : Value).cells) n).toList.length = n * 2 ∧ ∀ v ∈ (Builtin.zeroCells ((.agg #[.int .i64 0, .int .i64 0] : Value).cells) n).toList, v.oneCell' = true :=
  ⟨by rw [zeroCells_len]; rfl, zeroCells_one _ (by simp [Value.cells, Value.oneCell']) (by simp [Value.cells]) n⟩

set_option maxRecDepth 100000 in
set_option maxHeartbeats 4000000 in
theorem fRegDel_any (p : List Value → Bool) (g n c : Nat) (xs : List (List Value)) (w : World) (hr : RowB w g 49 2 xs) (hn : xs.length = n) (hn1 : n ≤ 1000000) (hc : n ≤ c)
    (HCL : ∀ x ∈ xs, ∀ w', Calls Tryz.prog 18 #[.agg x.toArray] w' (fun e w'' => e = .returned (.bool (p x)) ∧ Lat w' w'')) :
    Calls Tryz.prog 17 #[.slice (some ⟨g, 0, none⟩) n c, .func (.func 18) #[] #[]] w (fRegDelPost w g c p xs) := by
  have HIX := fRegIdx_any p g n c xs w hr hn hn1 HCL
  have HI := Lib.hid fRegSize
  have HC := Lib.hid HCL
  clear HCL
  go_enter Tryz.func17, Tryz.ntmps17
  go_wp2_with fail
  refine HIX.mono ?_
  rintro e w1 ⟨r, rfl, hcase, l1⟩
  have R1 := hr.later l1
  rcases hcase with ⟨rfl, hall⟩ | ⟨k0, x0, rfl, hx0, hp0, hbefore⟩
  · have hf : (xs.filter fun x => !p x) = xs := by
      rw [List.filter_eq_self]
      intro x hx
      rw [hall x hx]; rfl
    have HF := Lib.hid hf
    clear hf hall
    go_wp2
    go_ret
    refine ⟨?_, ?_, l1.p _⟩
    · rw [HF.out, hn]; try rfl
    · rw [HF.out]; exact R1
  · have HD := Lib.hid (DelInv.start hx0 hp0 hbefore)
    have hk0 : k0 < n := by have := (List.getElem?_eq_some_iff.1 hx0).1; omega
    have hne1 : ((k0 : Int) == -1) = false := beq_eq_false_iff_ne.2 (by omega)
    clear hx0 hp0 hbefore HIX
    go_wp2
    go_loopw [5, 6] (fun s5 s6 wr => ∃ (i j : Nat) (ph : List (List Value)), s5 = .int .i64 i ∧ s6 = .int .i64 j ∧ Hid (DelInv p xs i j ph) ∧ RowB wr g 49 2 ph ∧ LatP (· = g) w wr) (fun _ s6 _ => n - (intOf s6).toNat)
    case atStart => exact ⟨k0, k0 + 1, xs, rfl, by go_num, HD.out, R1, l1.p _⟩
    case round =>
      rename_i wr
      obtain ⟨i, j, ph, rfl, rfl, hD, hR, hlr⟩ := hrel
      have hij := hD.out.lt
      have hjn := hD.out.le
      have hphl := hD.out.len
      by_cases hlt : j < n
      · have hkl : j < xs.length := by omega
        obtain ⟨x, hx⟩ : ∃ x, xs[j]? = some x := ⟨_, List.getElem?_eq_getElem hkl⟩
        have hmem := List.mem_of_getElem? hx
        have hxm := (hr.1 x hmem)
        have hxl : (Tryz.prog.info? 49).map (·.size) = some x.length := by rw [hxm.1]; exact HI.out
        have hxa : (Tryz.prog.info? 49).map (·.size) = some x.toArray.size := by rw [HI.out]; simp [hxm.1]
        have hphx : ph[j]? = some x := hD.out.cur hx
        have hrange := hR.range hphx
        have HX := Lib.hid hx
        have HXM := Lib.hid hxm
        have HXA := Lib.hid hxa
        have hx1 : x.toArray.all (·.oneCell') = true := by simpa [Array.all_eq_true'] using hxm.2
        have HX1 := Lib.hid hx1
        have HCx := HC.out x hmem
        have hK0 := Blk.new wr 49 ((.agg #[.int .i64 0, .int .i64 0] : Value).cells)
        have hz : ((.agg #[.int .i64 0, .int .i64 0] : Value).cells).size = x.toArray.size := by simp [hxm.1, Value.cells]
        have hgl := hR.lt
        have hilt : i < ph.length := by omega
        clear hx hmem hxm hxa hphx hx1 hkl
        go_wp2_with (first
          | (refine wpList_load_mid (by rfl) 49 (.tmp 24) (by rfl) g (j * 2) (by rfl) x _ hrange Tryz.underlying49 rfl hxl ?_)
          | (refine wpList_put rfl 49 (.tmp 7) (.tmp 25) (by rfl) (by rfl) wr.heap.size (by rfl) x.toArray (by rfl) hK0 hz HXA.out HX1.out ?_; intro w2 hput; have B2 := hput.blk; have l2 := hput.lat wr (Lat.alloc _ _) (Nat.le_refl _); clear hput)
          | (refine wpList_get (by rfl) 49 (.tmp 7) (by rfl) wr.heap.size (by rfl) B2 _ Tryz.underlying49 rfl HXA.out ?_))
        refine (HCx w2).mono ?_
        rintro e w3 ⟨rfl, l3⟩
        have B3 := B2.later l3
        have R3 := hR.later (l2.trans l3)
        have LP3 := hlr.trans ((l2.trans l3).p _)
        clear hrange hK0 B2
        cases hp : p x with
        | true =>
          have HP := Lib.hid (hD.out.skip HX.out hp)
          clear hp
          go_wp2
          go_roundw
          case rel => exact ⟨i, j + 1, ph, rfl, by go_num, HP.out, R3, LP3⟩
          case measure => simp [intOf]; omega
        | false =>
          have HP := Lib.hid (hD.out.keep HX.out hp)
          clear hp
          go_wp2_with (first
            | (refine wpList_get (by rfl) 49 (.tmp 7) (by rfl) wr.heap.size (by rfl) B3 _ Tryz.underlying49 rfl HXA.out ?_)
            | (refine wpList_setM rfl 49 (.tmp 33) (.tmp 32) (by rfl) (by rfl) R3 hilt (o := i * 2) rfl (by rfl) x (by rfl) HXM.out.1 HI.out HXM.out.2 ?_; intro w4 R4 l4 hs4))
          go_roundw
          case rel => exact ⟨i + 1, j + 1, ph.set i x, by go_num, by go_num, HP.out, R4, LP3.trans l4⟩
          case measure => simp [intOf]; omega
      · obtain rfl : j = n := by omega
        have HE := Lib.hid (hD.out.fin hn)
        have hLz := fRegZeroL (j - i)
        have hcl : ∀ ty, (Builtin.clear_ #[47] ty #[.slice (some ⟨g, i * 2, none⟩) (j - i) (c - i)]).run Tryz.prog wr = .ok (.tuple #[]) (wr.setCells g (i * 2) (Builtin.zeroCells ((.agg #[.int .i64 0, .int .i64 0] : Value).cells) (j - i)).toList) := fun ty =>
          run_clearM wr 47 49 ty (.agg #[.int .i64 0, .int .i64 0]) Tryz.underlying47 fRegZero g (i * 2) _ _ (by omega) _ rfl hLz.2 (hR.there (by rw [hLz.1, hphl, hn, ← Nat.add_mul]; exact Nat.mul_le_mul_right _ (by omega)))
        have RC := Lib.hid (hR.cut (i := i) (L := (Builtin.zeroCells ((.agg #[.int .i64 0, .int .i64 0] : Value).cells) (j - i)).toList) (by rw [hLz.1, hphl, hn, ← Nat.add_mul]; exact Nat.mul_le_mul_right _ (by omega)))
        have LC := Lib.hid (hlr.trans (LatP.setCells (g := g) (Builtin.zeroCells ((.agg #[.int .i64 0, .int .i64 0] : Value).cells) (j - i)).toList wr (i * 2)))
        obtain ⟨WZ, hWZ⟩ : ∃ WZ, wr.setCells g (i * 2) (Builtin.zeroCells ((.agg #[.int .i64 0, .int .i64 0] : Value).cells) (j - i)).toList = WZ := ⟨_, rfl⟩
        rw [hWZ] at hcl RC LC
        clear hWZ hLz hR hlr
        have hic : i ≤ c := by omega
        go_wp2
        go_ret
        have h1 := HE.out
        refine ⟨?_, ?_, LC.out⟩
        · rw [h1.1]; rfl
        · rw [← h1.2]; exact RC.out

end Go.Proofs.YtkjnjooggicgiaaGreat
