/- Several texts in one: ShelfB, PlainD, FavA, FavB, Fav. -/
import Derived.Shelf.Sort.Plain
import Derived.Test.YtebbhhdnjflmcaaGreatJ03
import Derived.Test.YtebbhhdnjflmcaaGreatK08
import Derived.Test.YtebbhhdnjflmcaaGreatK07
import Derived.Deep.DeepCutAuto

/- The contract of slices.Sort out of the shelf, laid by the shelf's own program. -/
namespace Go.Proofs
open Go.Shelf
def Tryz.lays189_ren : Go.Shelf.Ren := ⟨fun | 189 => 31 | 125 => 54 | 257 => 53 | 128 => 85 | 129 => 86 | 294 => 76 | 295 => 77 | 296 => 78 | 297 => 79 | 298 => 80 | 299 => 81 | 216 => 82 | 300 => 83 | 301 => 84 | 328 => 107 | 329 => 108 | 330 => 109 | 331 => 110 | 332 => 111 | 215 => 112 | 343 => 134 | n => n, fun | 28 => 44 | 3 => 3 | 46 => 96 | 0 => 0 | 51 => 23 | 53 => 28 | 4 => 4 | 183 => 129 | 182 => 128 | 131 => 133 | 5 => 5 | 9 => 9 | 218 => 166 | 222 => 170 | 228 => 195 | 229 => 73 | n => n, fun | n => n⟩
theorem Tryz.lays189 : Go.Proofs.Lays.n189 Tryz.prog Tryz.lays189_ren := {
  mixed := by kernel_rfl
  f125 := Tryz.func54.trans (congrArg some (by kernel_rfl))
  f128 := Tryz.func85.trans (congrArg some (by kernel_rfl))
  f129 := Tryz.func86.trans (congrArg some (by kernel_rfl))
  f189 := Tryz.func31.trans (congrArg some (by kernel_rfl))
  f215 := Tryz.func112.trans (congrArg some (by kernel_rfl))
  f216 := Tryz.func82.trans (congrArg some (by kernel_rfl))
  f257 := Tryz.func53.trans (congrArg some (by kernel_rfl))
  f294 := Tryz.func76.trans (congrArg some (by kernel_rfl))
  f295 := Tryz.func77.trans (congrArg some (by kernel_rfl))
  f296 := Tryz.func78.trans (congrArg some (by kernel_rfl))
  f297 := Tryz.func79.trans (congrArg some (by kernel_rfl))
  f298 := Tryz.func80.trans (congrArg some (by kernel_rfl))
  f299 := Tryz.func81.trans (congrArg some (by kernel_rfl))
  f300 := Tryz.func83.trans (congrArg some (by kernel_rfl))
  f301 := Tryz.func84.trans (congrArg some (by kernel_rfl))
  f328 := Tryz.func107.trans (congrArg some (by kernel_rfl))
  f329 := Tryz.func108.trans (congrArg some (by kernel_rfl))
  f330 := Tryz.func109.trans (congrArg some (by kernel_rfl))
  f331 := Tryz.func110.trans (congrArg some (by kernel_rfl))
  f332 := Tryz.func111.trans (congrArg some (by kernel_rfl))
  f343 := Tryz.func134.trans (congrArg some (by kernel_rfl))
  t0 := Tryz.underlying0
  a0 := Tryz.isAgg0
  z0 := Tryz.sizeOf0
  v0 := Tryz.zeroValue0
  t3 := Tryz.underlying3
  a3 := Tryz.isAgg3
  z3 := Tryz.sizeOf3
  v3 := Tryz.zeroValue3
  t4 := Tryz.underlying4
  a4 := Tryz.isAgg4
  z4 := Tryz.sizeOf4
  v4 := Tryz.zeroValue4
  t5 := Tryz.underlying5
  a5 := Tryz.isAgg5
  z5 := Tryz.sizeOf5
  v5 := Tryz.zeroValue5
  t9 := Tryz.underlying9
  a9 := Tryz.isAgg9
  z9 := Tryz.sizeOf9
  v9 := Tryz.zeroValue9
  t28 := Tryz.underlying44
  a28 := Tryz.isAgg44
  z28 := Tryz.sizeOf44
  v28 := Tryz.zeroValue44
  t46 := Tryz.underlying96
  a46 := Tryz.isAgg96
  z46 := Tryz.sizeOf96
  v46 := Tryz.zeroValue96
  t51 := Tryz.underlying23
  a51 := Tryz.isAgg23
  z51 := Tryz.sizeOf23
  v51 := Tryz.zeroValue23
  t53 := Tryz.underlying28
  a53 := Tryz.isAgg28
  z53 := Tryz.sizeOf28
  v53 := Tryz.zeroValue28
  t131 := Tryz.underlying133
  a131 := Tryz.isAgg133
  z131 := Tryz.sizeOf133
  v131 := Tryz.zeroValue133
  t182 := Tryz.underlying128
  a182 := Tryz.isAgg128
  z182 := Tryz.sizeOf128
  v182 := Tryz.zeroValue128
  t183 := Tryz.underlying129
  a183 := Tryz.isAgg129
  z183 := Tryz.sizeOf129
  v183 := Tryz.zeroValue129
  t218 := Tryz.underlying166
  a218 := Tryz.isAgg166
  z218 := Tryz.sizeOf166
  v218 := Tryz.zeroValue166
  t222 := Tryz.underlying170
  a222 := Tryz.isAgg170
  z222 := Tryz.sizeOf170
  v222 := Tryz.zeroValue170
  t228 := Tryz.underlying195
  a228 := Tryz.isAgg195
  z228 := Tryz.sizeOf195
  v228 := Tryz.zeroValue195
  t229 := Tryz.underlying73
  a229 := Tryz.isAgg73
  z229 := Tryz.sizeOf73
  v229 := Tryz.zeroValue73 }
open Go.Sort Go.RowKit in
theorem Tryz.slices_Sort_int (blk off cap : Nat) (zs : List Int) (w : World) (hH : Holds (Value.int .i64) w blk off zs.toArray) (hblk : blk < w.heap.size) (hsz : zs.length < 4611686018427387904) :
    Calls Tryz.prog 31 #[.slice (some ⟨blk, off, none⟩) zs.length cap] w fun e w' =>
      e = .returned (.tuple #[]) ∧ ∃ n os, w' = grow (putRow (Value.int .i64) (Sort.ahead w n) blk off (zs.mergeSort fun x y => decide (x ≤ y)).toArray) os := Any.slices_Sort_int Tryz.lays189 blk off cap zs w hH hblk hsz
end Go.Proofs

/- Plain laws of the award: which method favours great regions. -/
namespace Go.Proofs.YtebbhhdnjflmcaaGreat

theorem mul_cancel_le {a b c : Int} (h : a * c ≤ b * c) (hc : 0 < c) : a ≤ b := Int.le_of_mul_le_mul_right h hc
/-- The heart of the step to and from Hill's method. -/
theorem hill_core {P Q X Y : Int} (hQ : 0 < Q) (hX : 0 < X) (hXY : X < Y) (h1 : P * X ≤ Q * Y) (h2 : Q * (Y * Y) * (4 * X + 1) ≤ P * (X * X) * (4 * Y + 1)) : False := by
  have h3 : P * X * (X * (4 * Y + 1)) ≤ Q * Y * (X * (4 * Y + 1)) := Int.mul_le_mul_of_nonneg_right h1 (Int.mul_nonneg (by omega) (by omega))
  have e1 : P * (X * X) * (4 * Y + 1) = P * X * (X * (4 * Y + 1)) := by grind
  have h4 : Q * (Y * Y) * (4 * X + 1) ≤ Q * Y * (X * (4 * Y + 1)) := by omega
  have e2 : Q * (Y * Y) * (4 * X + 1) = (Y * (4 * X + 1)) * (Q * Y) := by grind
  have e3 : Q * Y * (X * (4 * Y + 1)) = (X * (4 * Y + 1)) * (Q * Y) := by grind
  rw [e2, e3] at h4
  have h5 := mul_cancel_le h4 (Int.mul_pos hQ (by omega))
  have e4 : Y * (4 * X + 1) = 4 * (X * Y) + Y := by grind
  have e5 : X * (4 * Y + 1) = 4 * (X * Y) + X := by grind
  omega
/-- With the next method of the table the greater region gains. -/
theorem fav_step {m p q x y : Int} (m0 : 11 ≤ m) (m1 : m ≤ 14) (q1 : 1 ≤ q) (hpq : q ≤ p) (x0 : 0 ≤ x) (hxy : x < y) (h : 0 ≤ cmpR m p y q x) : 0 < cmpR (m + 1) p y q x := by
  have pos : ∀ z, 0 < sideOf z ↔ 0 < z := fun z => by unfold sideOf; split <;> (try split) <;> omega
  have hny : ∀ m, 11 ≤ m → m ≤ 15 → 0 < postN m y := fun m a b => by
    have := postN_nonneg m (show 0 ≤ y by omega)
    have hz := (postN_zero a b (show 0 ≤ y by omega)).2
    rcases Int.lt_or_eq_of_le this with h' | h'
    · exact h'
    · have := (postN_zero a b (show 0 ≤ y by omega)).2 h'.symm; omega
  have n1 := hny m m0 (by omega)
  have n2 := hny (m + 1) (by omega) (by omega)
  have hx1 : postN m x ≠ 0 := by
    intro e
    unfold cmpR at h
    rw [if_neg (by omega), if_pos e] at h
    omega
  have hx2 : postN (m + 1) x ≠ 0 := by
    intro e
    have := (postN_zero (m := m + 1) (by omega) (by omega) x0).2 e
    exact hx1 ((postN_zero m0 (by omega) x0).1 ⟨this.1, by omega⟩)
  have hxm : m ≤ 13 → 1 ≤ x := fun hm => by
    rcases Int.lt_or_eq_of_le x0 with h' | h'
    · omega
    · exact absurd ((postN_zero m0 (by omega) x0).1 ⟨h'.symm, hm⟩) hx1
  unfold cmpR at h ⊢
  rw [if_neg (by omega), if_neg hx1, sideOf_nonneg] at h
  rw [if_neg (by omega), if_neg hx2, pos]
  have hm : m = 11 ∨ m = 12 ∨ m = 13 ∨ m = 14 := by omega
  rcases hm with rfl | rfl | rfl | rfl
  · have hx := hxm (by omega)
    simp [postN, postD, topOf] at h ⊢
    have e : p * (2 * y + 1) * (2 * x * (x + 1)) - q * (2 * x + 1) * (2 * y * (y + 1)) = 2 * ((p * x - q * y) * ((x + 1) * (2 * y + 1))) + 2 * ((q * y) * ((x + 1) * (2 * y + 1) - (y + 1) * (2 * x + 1))) := by grind
    have e2 : (x + 1) * (2 * y + 1) - (y + 1) * (2 * x + 1) = y - x := by grind
    rw [e2] at e
    have k1 := Int.mul_nonneg (show 0 ≤ p * x - q * y by omega) (Int.mul_nonneg (show 0 ≤ x + 1 by omega) (show 0 ≤ 2 * y + 1 by omega))
    have k2 := Int.mul_pos (Int.mul_pos (show 0 < q by omega) (show 0 < y by omega)) (show 0 < y - x by omega)
    omega
  · have hx := hxm (by omega)
    simp [postN, postD, topOf] at h ⊢
    rcases Int.lt_or_le (q * q * (y * (y + 1))) (p * p * (x * (x + 1))) with h' | h'
    · omega
    · exfalso
      have hX : 0 < x * (x + 1) := Int.mul_pos (by omega) (by omega)
      have hXY : x * (x + 1) < y * (y + 1) := by
        have e : y * (y + 1) - x * (x + 1) = (y - x) * (y + x + 1) := by grind
        have := Int.mul_pos (show 0 < y - x by omega) (show 0 < y + x + 1 by omega)
        omega
      refine hill_core (P := p * p) (Q := q * q) (Int.mul_pos (by omega) (by omega)) hX hXY h' ?_
      have hA : q * (2 * x + 1) * (2 * y * (y + 1)) ≤ p * (2 * y + 1) * (2 * x * (x + 1)) := by omega
      have hB : 0 ≤ q * (2 * x + 1) * (2 * y * (y + 1)) := Int.mul_nonneg (Int.mul_nonneg (by omega) (by omega)) (Int.mul_nonneg (by omega) (by omega))
      have hS := Int.mul_le_mul hA hA hB (by omega)
      have e1 : q * (2 * x + 1) * (2 * y * (y + 1)) * (q * (2 * x + 1) * (2 * y * (y + 1))) = 4 * (q * q * (y * (y + 1) * (y * (y + 1))) * (4 * (x * (x + 1)) + 1)) := by grind
      have e2 : p * (2 * y + 1) * (2 * x * (x + 1)) * (p * (2 * y + 1) * (2 * x * (x + 1))) = 4 * (p * p * (x * (x + 1) * (x * (x + 1))) * (4 * (y * (y + 1)) + 1)) := by grind
      omega
  · have hx := hxm (by omega)
    simp [postN, postD, topOf] at h ⊢
    rcases Int.lt_or_le (q * 2 * (2 * y + 1)) (p * 2 * (2 * x + 1)) with h' | h'
    · omega
    · exfalso
      have hA : p * (2 * x + 1) ≤ q * (2 * y + 1) := by
        have e1 : p * 2 * (2 * x + 1) = 2 * (p * (2 * x + 1)) := by grind
        have e2 : q * 2 * (2 * y + 1) = 2 * (q * (2 * y + 1)) := by grind
        omega
      have hB : 0 ≤ p * (2 * x + 1) := Int.mul_nonneg (by omega) (by omega)
      have hS := Int.mul_le_mul hA hA hB (Int.mul_nonneg (by omega) (by omega))
      have e1 : p * (2 * x + 1) * (p * (2 * x + 1)) = p * p * (4 * (x * (x + 1)) + 1) := by grind
      have e2 : q * (2 * y + 1) * (q * (2 * y + 1)) = q * q * (4 * (y * (y + 1)) + 1) := by grind
      rw [e1, e2] at hS
      have hX : 0 < x * (x + 1) := Int.mul_pos (by omega) (by omega)
      have hY : 0 < y * (y + 1) := Int.mul_pos (by omega) (by omega)
      have hXY : x * (x + 1) < y * (y + 1) := by
        have e : y * (y + 1) - x * (x + 1) = (y - x) * (y + x + 1) := by grind
        have := Int.mul_pos (show 0 < y - x by omega) (show 0 < y + x + 1 by omega)
        omega
      generalize x * (x + 1) = X at *
      generalize y * (y + 1) = Y at *
      have hqq : 0 < q * q := Int.mul_pos (by omega) (by omega)
      generalize p * p = PP at *
      generalize q * q = QQ at *
      have h2 : QQ * Y ≤ PP * X := by omega
      have h3 := Int.mul_le_mul_of_nonneg_right h2 (show 0 ≤ 4 * X + 1 by omega)
      have h4 := Int.mul_le_mul_of_nonneg_right hS (show 0 ≤ X by omega)
      have e3 : PP * X * (4 * X + 1) = PP * (4 * X + 1) * X := by grind
      have e4 : QQ * Y * (4 * X + 1) = Y * (4 * X + 1) * QQ := by grind
      have e5 : QQ * (4 * Y + 1) * X = X * (4 * Y + 1) * QQ := by grind
      have h5 := mul_cancel_le (a := Y * (4 * X + 1)) (b := X * (4 * Y + 1)) (c := QQ) (by omega) hqq
      have e6 : Y * (4 * X + 1) = 4 * (X * Y) + Y := by grind
      have e7 : X * (4 * Y + 1) = 4 * (X * Y) + X := by grind
      omega
  · simp [postN, postD, topOf] at h ⊢
    have e1 : p * 2 * (2 * x + 1) = 4 * (p * x) + 2 * p := by grind
    have e2 : q * 2 * (2 * y + 1) = 4 * (q * y) + 2 * q := by grind
    have e3 : p * (x + 1) = p * x + p := by grind
    have e4 : q * (y + 1) = q * y + q := by grind
    rw [e1, e2] at h
    rw [e3, e4]
    rcases Int.lt_or_eq_of_le hpq with h' | h'
    · omega
    · subst h'
      have : q * x < q * y := Int.mul_lt_mul_of_pos_left hxy (by omega)
      omega
theorem fav_more {p q x y : Int} (q1 : 1 ≤ q) (hpq : q ≤ p) (x0 : 0 ≤ x) (hxy : x < y) : ∀ (k : Nat) (m : Int), 11 ≤ m → m + k + 1 ≤ 15 → 0 ≤ cmpR m p y q x → 0 < cmpR (m + k + 1) p y q x := by
  intro k
  induction k with
  | zero => intro m m0 m1 h; simpa using fav_step m0 (by omega) q1 hpq x0 hxy h
  | succ k ih =>
    intro m m0 m1 h
    have h1 := ih m m0 (by omega) h
    have h2 := fav_step (m := m + k + 1) (by omega) (by omega) q1 hpq x0 hxy (by omega)
    have e : m + ((k + 1 : Nat) : Int) + 1 = m + k + 1 + 1 := by omega
    rw [e]
    exact h2
end Go.Proofs.YtebbhhdnjflmcaaGreat

/- Sorting and turning a row in place; a census that is the call's own. -/
namespace Go.Proofs.YtebbhhdnjflmcaaGreat
open Go.RowKit Go.Shelf Go.Sort
set_option linter.unusedSimpArgs false
set_option linter.unusedVariables false

theorem rowN_holds {w : World} {g n : Nat} {xs : List Int} (h : RowN w g n xs) : Holds (Value.int .i64) w g 0 xs.toArray := by
  intro j hj
  have hj' : j < xs.length := by simpa using hj
  obtain ⟨cur, hb, _⟩ := id h
  refine ⟨?_, hb.frozen _⟩
  rw [Nat.zero_add, h.cell (List.getElem?_eq_getElem hj')]
  simp [hj']
theorem putRow_rowN {w w' : World} {g n q : Nat} {os : Array Obj} {xs ys : List Int} (h : RowN w g n xs) (hy : ys.length = n) (e : w' = grow (putRow (Value.int .i64) (Sort.ahead w q) g 0 ys.toArray) os) : RowN w' g n ys ∧ LatP (· = g) w w' := by
  obtain ⟨cur, hb, h1, h2, h3⟩ := h
  have hlt := hb.lt
  have hsz : (putRow (Value.int .i64) (Sort.ahead w q) g 0 ys.toArray).heap.size = w.heap.size := by simp [putRow, mapBlock, Sort.ahead]
  have hnew : w'.heap[g]? = some (.cells (putCells (Value.int .i64) 0 ys.toArray cur) 3 (0, 0)) := by
    rw [e, heap_grow_old _ _ (by rw [hsz]; exact hlt)]
    unfold Blk at hb
    simp [putRow, mapBlock, Sort.ahead, Array.getElem?_modify, hb, onCells]
  refine ⟨⟨_, hnew, ?_, hy, by simp [putCells]; exact h3⟩, ?_⟩
  · apply List.ext_getElem?
    intro k
    rw [List.getElem?_take, List.getElem?_map]
    split
    · rename_i hk
      have hk' : k < ys.length := by omega
      have hkc : k < cur.size := by omega
      simp [putCells, Array.getElem?_mapIdx, hk', hkc, List.getElem?_eq_getElem hk']
    · rw [List.getElem?_eq_none (by omega)]; rfl
  · refine ⟨by rw [e]; rfl, by rw [e]; rfl, by rw [e]; rfl, by rw [e]; simp [grow, hsz], fun k hk hne => ?_⟩
    rw [e, heap_grow_old _ _ (by rw [hsz]; exact hk)]
    have hne' : ¬ g = k := fun h => hne h.symm
    simp [putRow, mapBlock, Sort.ahead, Array.getElem?_modify, hne']
theorem sort_row {w : World} {g n c : Nat} {xs : List Int} (h : RowN w g n xs) (hn : n ≤ 1000) :
    Calls Tryz.prog 31 #[.slice (some ⟨g, 0, none⟩) n c] w (fun e w' => e = .returned (.tuple #[]) ∧ RowN w' g n (xs.mergeSort fun x y => decide (x ≤ y)) ∧ LatP (· = g) w w') := by
  have hl : xs.length = n := h.sl.1
  have := Tryz.slices_Sort_int g 0 c xs w (rowN_holds h) h.lt (by omega)
  rw [hl] at this
  refine this.mono ?_
  rintro e w' ⟨rfl, q, os, hw⟩
  exact ⟨rfl, putRow_rowN h (by rw [List.length_mergeSort]; exact hl) hw⟩
theorem reverse_row {w : World} {g n c : Nat} {xs : List Int} (h : RowN w g n xs) (hn : n ≤ 1000) :
    Calls Tryz.prog 32 #[.slice (some ⟨g, 0, none⟩) n c] w (fun e w' => e = .returned (.tuple #[]) ∧ RowN w' g n xs.reverse ∧ LatP (· = g) w w') := by
  have hl : xs.length = n := h.sl.1
  have := Tryz.slices_Reverse_int g 0 c xs w (rowN_holds h) (by omega)
  rw [hl] at this
  refine this.mono ?_
  rintro e w' ⟨rfl, q, hw⟩
  refine ⟨rfl, putRow_rowN (q := q) (os := #[]) h (by rw [List.length_reverse]; exact hl) ?_⟩
  rw [hw]
  unfold grow
  rw [Array.append_empty]

theorem perm_sum {l r : List Int} (h : l.Perm r) : l.sum = r.sum := by
  induction h with
  | nil => rfl
  | cons x _ ih => simp [ih]
  | swap x y l => simp; omega
  | trans _ _ ih1 ih2 => rw [ih1, ih2]
/-- The numbers, the greatest one first. -/
def downL (l : List Int) : List Int := (l.mergeSort fun x y => decide (x ≤ y)).reverse
theorem downL_perm (l : List Int) : (downL l).Perm l := (List.reverse_perm _).trans (List.mergeSort_perm l _)
theorem downL_census {l : List Int} (h : censusB l = true) : censusB (downL l) = true := by
  obtain ⟨a, b, c⟩ := census_iff.1 h
  have hp := downL_perm l
  exact census_iff.2 ⟨by rw [hp.length_eq]; exact a, fun x hx => b x (hp.mem_iff.1 hx), by rw [perm_sum hp]; exact c⟩
theorem downL_sorted (l : List Int) : ∀ i j, i < j → j < (downL l).length → atI (downL l) j ≤ atI (downL l) i := by
  have hs : (downL l).Pairwise (fun x y => y ≤ x) := by
    unfold downL
    rw [List.pairwise_reverse]
    have := List.pairwise_mergeSort (le := fun (x y : Int) => decide (x ≤ y)) (fun a b c h1 h2 => by simp at *; omega) (fun a b => by simp; omega) l
    exact this.imp fun h => by simpa using h
  intro i j hij hj
  rw [atI_of (List.getElem?_eq_getElem hj), atI_of (List.getElem?_eq_getElem (show i < (downL l).length by omega))]
  exact List.pairwise_iff_getElem.1 hs i j (by omega) hj hij
end Go.Proofs.YtebbhhdnjflmcaaGreat

/- Which method favours great regions: two awards, and what they add up to; a census that is the call's own. -/
namespace Go.Proofs.YtebbhhdnjflmcaaGreat
open Go.RowKit
set_option linter.unusedSimpArgs false
set_option linter.unusedVariables false

def CenOwn (w : World) (xs : List Int) (e : Ending) (w' : World) : Prop := ∃ v B, e = .returned v ∧ w.heap.size ≤ B ∧ Own w' B 3 .i64 v xs ∧ Lat w w'
set_option maxHeartbeats 2000000 in
theorem censusO_any (Ap : Option Addr) (np cp : Nat) (ps : List Int) (u : Int) (Al : Option Addr) (nl cl : Nat) (s : Int) (w : World) (hp : Sl w .u16 Ap np ps) (hn : np ≤ 9223372036854775807) (hr : ∀ x ∈ ps, 0 ≤ x ∧ x ≤ 65535) (u0 : 0 ≤ u) (u1 : u ≤ 255) :
    Calls Tryz.prog 16 #[.agg #[.slice Ap np cp, .int .u8 u, .slice Al nl cl, .int .u16 s]] w (CenOwn w (draftC u ps)) := by
  have HR := Lib.hid hr
  have hpl := hp.1
  have HPL := Lib.hid hpl
  clear hr hpl
  go_enter Tryz.func16, Tryz.ntmps16
  go_upto_region 1 with (fail)
  refine name1 (Q := fun W => Code.wp _ _ _ _ W) ?_
  intro W hl hs k1
  have hpW := hp.later hl
  go_wp2
  go_loopw [3, 4, 5] (fun v t i wr => ∃ k : Nat, k ≤ np ∧ k ≤ 8 ∧ i = .int .i64 k ∧ Own wr W.heap.size 3 .i64 v ((ps.take k).map (cenOne u)) ∧ t = .int .i64 ((ps.take k).map (cenOne u)).sum ∧ Lat W wr) (fun _ _ i _ => 8 - (intOf i).toNat)
  case atStart => exact ⟨0, Nat.zero_le _, by omega, rfl, Own.nil _ _ _ _, rfl, Lat.refl _⟩
  case round =>
    obtain ⟨k, hk, hk8, rfl, hown, rfl, hlr⟩ := hrel
    have hB := hlr.size
    have HSB := Lib.hid (cen_sum (cen_all u0 u1 HR.out k))
    have hlk : ((ps.take k).map (cenOne u)).length = k := by rw [List.length_map, List.length_take]; have := HPL.out; omega
    have hsb := HSB.out
    rw [hlk] at hsb
    have HLK := Lib.hid hlk
    clear hlk HSB
    have k2 := k1.later hlr
    have c1_0 := k2.cell 0
    have c1_1 := k2.cell 1
    have c1_2 := k2.cell 2
    have c1_3 := k2.cell 3
    by_cases hlt : k < np ∧ k < 8
    · obtain ⟨hlt, hlt8⟩ := hlt
      obtain ⟨a, x, rfl, ha, hxk, hcell⟩ := (hpW.later hlr).at hlt
      have hx := HR.out x (List.mem_of_getElem? hxk)
      have hx0 := hx.1
      have hx1 := hx.2
      have HT : Hid ((ps.take (k + 1)).map (cenOne u) = (ps.take k).map (cenOne u) ++ [cenOne u x]) := by
        obtain ⟨hl', rfl⟩ := List.getElem?_eq_some_iff.1 hxk
        show _ = _
        rw [List.take_succ_eq_append_getElem hl', List.map_append]; rfl
      have hc := cenOne_range u0 u1 hx0 hx1
      have hlt8' : (k : Int) < 8 := by omega
      have hlt' : (k : Int) < np := by omega
      obtain ⟨os, hos⟩ : ∃ os, (ps.take k).map (cenOne u) = os := ⟨_, rfl⟩
      rw [hos] at hown HT HLK hsb ⊢
      obtain ⟨t, ht⟩ : ∃ t, os.sum = t := ⟨_, rfl⟩
      rw [ht] at hsb ⊢
      have HS := Lib.hid ht
      obtain ⟨y, hy⟩ : ∃ y, cenOne u x = y := ⟨_, rfl⟩
      rw [hy] at HT hc
      have HS' : Hid (((ps.take (k + 1)).map (cenOne u)).sum = t + y) := by show _ = _; rw [HT.out, List.sum_append, ht]; simp
      have hc0 := hc.1
      have hc1 := hc.2
      have hs0 := hsb.1
      have hs1 : t ≤ 136000000 := by omega
      clear hxk hx ht hos hc hsb HS
      have hol : os.length + 1 ≤ 17000000000000 := by have := HLK.out; omega
      by_cases hu : u % 3 = 0
      · have hy' : x % 12 = y := by rw [← hy, cenOne, if_pos hu]
        have hub : (u % 3 == 0) = true := by simp [hu]
        clear hy hu
        go_wp2_with (at_builtin; refine wpList_push rfl _ _ 44 rfl W.heap.size 3 3 .i64 8 Tryz.underlying44 infoI64 (by decide) _ os [y] _ rfl wr (by rfl) hown 1 rfl (by decide) (by rfl) hol hB ?_; intro v' w1 hown1 hlat1)
        go_roundw
        case rel => exact ⟨k + 1, by omega, by omega, by go_num, by rw [HT.out]; exact hown1, by rw [HS'.out], hlat1 W hlr (Nat.le_refl _)⟩
        case measure => simp [intOf]; omega
      · have hy' : x * u = y := by rw [← hy, cenOne, if_neg hu]
        have hub : (u % 3 == 0) = false := by simp [hu]
        clear hy hu
        go_wp2_with (at_builtin; refine wpList_push rfl _ _ 44 rfl W.heap.size 3 3 .i64 8 Tryz.underlying44 infoI64 (by decide) _ os [y] _ rfl wr (by rfl) hown 1 rfl (by decide) (by rfl) hol hB ?_; intro v' w1 hown1 hlat1)
        go_roundw
        case rel => exact ⟨k + 1, by omega, by omega, by go_num, by rw [HT.out]; exact hown1, by rw [HS'.out], hlat1 W hlr (Nat.le_refl _)⟩
        case measure => simp [intOf]; omega
    · have htk : ps.take k = ps.take 8 := by
        have := HPL.out
        by_cases h8 : k = 8
        · rw [h8]
        · rw [List.take_of_length_le (by omega), List.take_of_length_le (by omega)]
      have hdr : Hid (draftC u ps = if ((ps.take k).map (cenOne u)).sum = 0 then (ps.take k).map (cenOne u) ++ [1] else (ps.take k).map (cenOne u)) := by show _ = _; rw [draftC, htk]
      obtain ⟨os, hos⟩ : ∃ os, (ps.take k).map (cenOne u) = os := ⟨_, rfl⟩
      rw [hos] at hown HLK hsb hdr ⊢
      obtain ⟨t, ht⟩ : ∃ t, os.sum = t := ⟨_, rfl⟩
      rw [ht] at hsb hdr ⊢
      have hs0 := hsb.1
      have hol : os.length + 1 ≤ 17000000000000 := by have := HLK.out; omega
      obtain ⟨A3, c3, rfl, hsl, hcap, hnew⟩ := hown.form
      have hLW := hl.trans hlr
      have hWs := hl.size
      clear htk hos ht hsb
      by_cases h0 : t = 0
      · have HD : Hid (draftC u ps = os ++ [1]) := by show _ = _; rw [hdr.out, if_pos h0]
        subst h0
        clear hdr
        by_cases hk1 : k < np
        · have hk2 : ¬ (k : Int) < 8 := by omega
          clear hlt
          go_wp2_with (at_builtin; refine wpList_push rfl _ _ 44 rfl W.heap.size 3 3 .i64 8 Tryz.underlying44 infoI64 (by decide) _ os [1] _ rfl wr (by rfl) hown 1 rfl (by decide) (by rfl) hol hB ?_; intro v' w1 hown1 hlat1)
          have hl1 := hlat1 W hlr (Nat.le_refl _)
          go_ret
          exact ⟨_, W.heap.size, rfl, hWs, by rw [HD.out]; exact hown1, hl.trans hl1⟩
        · clear hlt
          go_wp2_with (at_builtin; refine wpList_push rfl _ _ 44 rfl W.heap.size 3 3 .i64 8 Tryz.underlying44 infoI64 (by decide) _ os [1] _ rfl wr (by rfl) hown 1 rfl (by decide) (by rfl) hol hB ?_; intro v' w1 hown1 hlat1)
          have hl1 := hlat1 W hlr (Nat.le_refl _)
          go_ret
          exact ⟨_, W.heap.size, rfl, hWs, by rw [HD.out]; exact hown1, hl.trans hl1⟩
      · have HD : Hid (draftC u ps = os) := by show _ = _; rw [hdr.out, if_neg h0]
        have h0' : (t == 0) = false := by simp [h0]
        have HF : Hid (CenOwn w (draftC u ps) (.returned (.slice A3 os.length c3)) wr) := by
          show CenOwn _ _ _ _
          rw [HD.out]
          exact ⟨_, W.heap.size, rfl, hWs, hown, hLW⟩
        clear hdr h0 hown hsl hcap hnew
        by_cases hk1 : k < np
        · have hk2 : ¬ (k : Int) < 8 := by omega
          clear hlt
          go_wp2
          go_ret
          exact HF.out
        · clear hlt
          go_wp2
          go_ret
          exact HF.out


theorem rank_down (m : Int) {p : Int} (p1 : 1 ≤ p) {s : Int} (s0 : 0 ≤ s) : ∀ k : Nat, 0 ≤ cmpR m p s p (s + k) := by
  intro k
  induction k with
  | zero =>
    have := (cmpR_rank m).anti p s p s
    simp; omega
  | succ k ih =>
    have h := (cmpR_rank m).mono p (s + k) p1 (by omega)
    have e : s + ((k + 1 : Nat) : Int) = s + k + 1 := by omega
    rw [e]
    exact (cmpR_rank m).trans _ _ _ _ _ _ p1 s0 p1 (by omega) p1 (by omega) ih h
theorem rank_down' (m : Int) {p s t : Int} (p1 : 1 ≤ p) (s0 : 0 ≤ s) (h : s ≤ t) : 0 ≤ cmpR m p s p t := by
  have := rank_down m p1 s0 (t - s).toNat
  have e : s + ((t - s).toNat : Int) = t := by omega
  rwa [e] at this
theorem cmpR_strict (m : Int) {p q s : Int} (q1 : 1 ≤ q) (h : q < p) (s0 : 0 ≤ s) : 0 < cmpR m p s q s := by
  have pos : ∀ z, 0 < sideOf z ↔ 0 < z := fun z => by unfold sideOf; split <;> (try split) <;> omega
  have n1 := postN_nonneg m s0
  have d1 := postD_pos m s0
  have ht : topOf m q < topOf m p := by
    unfold topOf
    split
    · have h1 := Int.mul_le_mul_of_nonneg_left (show q ≤ p by omega) (show 0 ≤ q by omega)
      have h2 : q * p < p * p := Int.mul_lt_mul_of_pos_right h (by omega)
      omega
    · exact h
  unfold cmpR
  split
  · rw [pos]; omega
  · rw [pos]
    rw [show topOf m p * postD m s * postN m s - topOf m q * postD m s * postN m s = (topOf m p - topOf m q) * (postD m s * postN m s) by grind]
    exact Int.mul_pos (by omega) (Int.mul_pos (by omega) (by omega))

/-- No greater region loses a seat while a smaller one gains one. -/
theorem fav_pair {C : List Int} {s m m' : Int} (hc : censusB C = true) (hs : ∀ i j, i < j → j < C.length → atI C j ≤ atI C i) (s0 : 0 ≤ s) (m0 : 11 ≤ m) (hm : m < m') (m1 : m' ≤ 15) {i j : Nat} (hij : i < j) (hj : j < C.length) :
    ¬ (atI (awardOf (cmpR m') C (List.replicate C.length 0) s).seats i < atI (awardOf (cmpR m) C (List.replicate C.length 0) s).seats i ∧ atI (awardOf (cmpR m) C (List.replicate C.length 0) s).seats j < atI (awardOf (cmpR m') C (List.replicate C.length 0) s).seats j) := by
  rintro ⟨h1, h2⟩
  have hcen := census_iff.1 hc
  have FA := fromNil (m := m) hc s0
  have FB := fromNil (m := m') hc s0
  have RA := ranksOk (m := m) hc s0
  have RB := ranksOk (m := m') hc s0
  have hpop := hs i j hij hj
  have z : ∀ k, atI (List.replicate C.length (0 : Int)) k = 0 := fun k => by
    unfold atI
    rw [List.getElem?_replicate]
    split <;> rfl
  have ea : ∀ m, atI C i = atI C j → atI (awardOf (cmpR m) C (List.replicate C.length 0) s).seats i = atI (awardOf (cmpR m) C (List.replicate C.length 0) s).seats j := fun m e => by
    have k1 := award_more (m := m) (P := C) (i := i) (j := j) (by omega) (by omega) s.toNat (List.replicate C.length 0) s [] (by simp) (fun k => by rw [z]; exact Int.le_refl _) (by rw [z, z]; exact Int.le_refl _)
    have k2 := award_more (m := m) (P := C) (i := j) (j := i) (by omega) (by omega) s.toNat (List.replicate C.length 0) s [] (by simp) (fun k => by rw [z]; exact Int.le_refl _) (by rw [z, z]; exact Int.le_refl _)
    unfold awardOf
    omega
  have none : ∀ m k, atI C k ≤ 0 → atI (awardOf (cmpR m) C (List.replicate C.length 0) s).seats k = 0 := fun m k hk => by
    have ad := awardOf_adds (f := cmpR m) (Z := List.replicate C.length 0) (full_ne hcen.2.2) (by simp) s0
    rw [ad.seats, bump_other (fun h => by have := (mem_full.1 (ad.mem k h)).2; omega), z]
  have a1 := FA.pos
  have b0 := atI_sum_le' FB.pos i
  have c0 := atI_sum_le' FA.pos j
  have hq : 1 ≤ atI C j := by
    rcases Int.lt_or_le 0 (atI C j) with h | h
    · omega
    · have := none m' j h; omega
  have hI := RA.last i j (by omega) hj (by omega) (by omega) hq
  have hII := RB.last j i hj (by omega) (by omega) hq (by omega)
  have eA := ea m
  have eB := ea m'
  generalize atI (awardOf (cmpR m) C (List.replicate C.length 0) s).seats i = a at *
  generalize atI (awardOf (cmpR m') C (List.replicate C.length 0) s).seats i = b at *
  generalize atI (awardOf (cmpR m) C (List.replicate C.length 0) s).seats j = c at *
  generalize atI (awardOf (cmpR m') C (List.replicate C.length 0) s).seats j = d at *
  generalize atI C i = p at *
  generalize atI C j = q at *
  have R := cmpR_rank m'
  rcases Int.lt_or_le c (a - 1) with hca | hca
  · have hk : ∃ k : Nat, m' = m + k + 1 := ⟨(m' - m - 1).toNat, by omega⟩
    obtain ⟨k, rfl⟩ := hk
    have h3 := fav_more hq hpop c0 hca k m m0 m1 hI
    have k1 := rank_down' (m + k + 1) hq c0 (show c ≤ d - 1 by omega)
    have k2 := rank_down' (m + k + 1) (show 1 ≤ p by omega) b0 (show b ≤ a - 1 by omega)
    have k3 := R.trans _ _ _ _ _ _ hq c0 hq (by omega) (by omega) b0 k1 hII
    have k4 := R.trans _ _ _ _ _ _ hq c0 (by omega) b0 (by omega) (by omega) k3 k2
    have := R.anti p (a - 1) q c
    omega
  · rcases Int.lt_or_eq_of_le hpop with hlt | heq
    · have h3 := cmpR_strict m' hq hlt b0
      have k1 := rank_down' m' hq b0 (show b ≤ d - 1 by omega)
      have k2 := R.trans _ _ _ _ _ _ hq b0 hq (by omega) (by omega) b0 k1 hII
      have := R.anti p b q b
      omega
    · have x1 := eA heq.symm
      have x2 := eB heq.symm
      omega

theorem sum_lt : ∀ {l r : List Int}, l.length = r.length → l.sum < r.sum → ∃ i, i < l.length ∧ atI l i < atI r i
  | [], [], _, h => by simp at h
  | x :: l, y :: r, e, h => by
    rcases Int.lt_or_le x y with hx | hx
    · exact ⟨0, by simp, by simpa [atI] using hx⟩
    · simp only [List.sum_cons] at h
      obtain ⟨i, hi, hl⟩ := sum_lt (l := l) (r := r) (by simpa using e) (by omega)
      exact ⟨i + 1, by simpa using hi, by simpa [atI] using hl⟩
theorem atI_take {l : List Int} {k i : Nat} (h : i < k) : atI (l.take k) i = atI l i := by unfold atI; rw [List.getElem?_take_of_lt h]
theorem atI_drop (l : List Int) (k i : Nat) : atI (l.drop k) i = atI l (k + i) := by unfold atI; rw [List.getElem?_drop]
/-- The sums of the greatest regions do not become less. -/
theorem fav_prefix {A B : List Int} (hl : A.length = B.length) (hs : A.sum = B.sum) (h : ∀ i j, i < j → j < A.length → ¬ (atI B i < atI A i ∧ atI A j < atI B j)) (k : Nat) : (A.take k).sum ≤ (B.take k).sum := by
  rcases Int.lt_or_le (B.take k).sum (A.take k).sum with hlt | hle
  · exfalso
    obtain ⟨i, hi, h1⟩ := sum_lt (l := B.take k) (r := A.take k) (by simp [hl]) hlt
    have eA : A.sum = (A.take k).sum + (A.drop k).sum := by rw [← List.sum_append, List.take_append_drop]
    have eB : B.sum = (B.take k).sum + (B.drop k).sum := by rw [← List.sum_append, List.take_append_drop]
    obtain ⟨j, hj, h2⟩ := sum_lt (l := A.drop k) (r := B.drop k) (by simp [hl]) (by omega)
    have hik : i < k := by have := List.length_take_le k B; omega
    rw [List.length_drop] at hj
    rw [atI_take hik, atI_take hik] at h1
    rw [atI_drop, atI_drop] at h2
    exact h i (k + j) (by omega) (by omega) ⟨h1, h2⟩
  · exact hle
/-- The sums of the first ones. -/
def preL (l : List Int) : List Int := (List.range l.length).map fun i => (l.take (i + 1)).sum
theorem preL_length (l : List Int) : (preL l).length = l.length := by simp [preL]
theorem preL_get (l : List Int) {i : Nat} (h : i < l.length) : (preL l)[i]? = some (l.take (i + 1)).sum := by simp [preL, h]
end Go.Proofs.YtebbhhdnjflmcaaGreat

/- DivisorFavours: the walk. -/
namespace Go.Proofs.YtebbhhdnjflmcaaGreat
open Go.RowKit Go.Shelf
set_option linter.unusedSimpArgs false
set_option linter.unusedVariables false

/-- Give, and the seats lie in a new block. -/
def GivePostN (w : World) (F : Aw) (er : Int) (e : Ending) (w' : World) : Prop :=
  ∃ A1 n1 c1 A2 n2 c2, e = .returned (.tuple #[.agg #[.slice A1 n1 c1, .slice A2 n2 c2, .int .i64 F.left], .int .i64 er]) ∧ Sl w' .i64 A1 n1 F.seats ∧ Sl w' .i64 A2 n2 (ints F.tied) ∧ Lat w w' ∧ ∀ a, A1 = some a → w.heap.size ≤ a.block
set_option maxRecDepth 100000 in
set_option maxHeartbeats 2000000 in
theorem dGiveN_any (A : Option Addr) (n c : Nat) (P : List Int) (Al : Option Addr) (nl cl : Nat) (Lx : List Int) (seats m : Int) (w : World)
    (hs : Sl w .i64 A n P) (hl : Sl w .i64 Al nl Lx) (hn : n ≤ 17000000000000) (hnl : nl ≤ 17000000000000) :
    Calls Tryz.prog 20 #[.slice A n c, .int .i64 seats, .int .i64 m, .slice Al nl cl] w (GivePostN w (giveF P seats m Lx) (giveE P seats m Lx)) := by
  have HR := fun w (h1 : Sl w .i64 A n P) (h2 : Sl w .i64 Al nl Lx) => run_fin A n c P Al nl cl Lx seats m w h1 h2 hn hnl
  obtain ⟨F, hF⟩ : ∃ F, giveF P seats m Lx = F := ⟨_, rfl⟩
  obtain ⟨er, her⟩ : ∃ er, giveE P seats m Lx = er := ⟨_, rfl⟩
  rw [hF, her] at HR ⊢
  clear hF her
  go_enter Tryz.func20, Tryz.ntmps20
  go_wp2_with fail
  refine name1 (Q := fun W => Calls _ _ _ W _) ?_
  intro W hlW hs2 k1
  refine (HR W (hs.later hlW) (hl.later hlW)).mono ?_
  rintro e w1 ⟨A1, n1, c1, A2, n2, c2, A3, n3, c3, rfl, q1, q2, q3, l1, z1, z2, _⟩
  have Q1 := Lib.hid q1
  have Q2 := Lib.hid q2
  have Z1 := Lib.hid z1
  have Z2 := Lib.hid z2
  have K1 := k1.later l1
  clear k1 q1 q2 q3 HR z1 z2
  go_upto_region 2 with (fail)
  refine name1 (Q := fun W => Code.wp _ _ _ _ W) ?_
  intro w2 l2 hs3 k2
  have K1 := K1.later l2
  have c1_0 := K1.cell 0
  have c1_1 := K1.cell 1
  have c1_2 := K1.cell 2
  have f1_0 := K1.frozen 0
  have f1_1 := K1.frozen 1
  have f1_2 := K1.frozen 2
  have c2_0 := k2.cell 0
  have c2_1 := k2.cell 1
  have c2_2 := k2.cell 2
  go_wp2
  refine bodyPost_ret (v := .tuple #[.agg #[.slice A1 n1 c1, .slice A2 n2 c2, .int .i64 F.left], .int .i64 er]) (by simp [results, Tryz.results20, go_sem, c1_0, c1_1, c1_2]) rfl ?_
  have L := (hlW.trans l1).trans l2
  refine ⟨A1, n1, c1, A2, n2, c2, rfl, ?_, ?_, ?_, fun a e => by have := Z1.out a e; have := hlW.size; omega⟩
  · iterate 3 (refine Sl.far ?_ (fun a e => by have := Z1.out a e; show a.block ≠ w.heap.size; omega) _)
    exact Q1.out.later l2
  · iterate 3 (refine Sl.far ?_ (fun a e => by have := Z2.out a e; show a.block ≠ w.heap.size; omega) _)
    exact Q2.out.later l2
  · iterate 3 (refine Lat.setCell ?_ (Nat.le_refl _) _)
    exact L


/-- The first j of the one list, then the other. -/
def mixL (a b : List Int) (j : Nat) : List Int := a.take j ++ b.drop j
theorem mix_zero (a b : List Int) : mixL a b 0 = b := by simp [mixL]
theorem mix_all {a b : List Int} (h : b.length = a.length) : mixL a b a.length = a := by
  unfold mixL
  rw [List.take_length, List.drop_eq_nil_of_le (by omega), List.append_nil]
theorem mix_length {a b : List Int} (h : b.length = a.length) (j : Nat) : (mixL a b j).length = a.length := by simp [mixL]; omega
theorem mix_get {a b : List Int} (h : b.length = a.length) {j : Nat} (hj : j < a.length) : (mixL a b j)[j]? = b[j]? := by
  unfold mixL
  rw [List.getElem?_append_right (by simp; omega)]
  simp [Nat.min_eq_left (Nat.le_of_lt hj)]
theorem mix_set {a b : List Int} (h : b.length = a.length) {j : Nat} {x : Int} (hx : a[j]? = some x) : (mixL a b j).set j x = mixL a b (j + 1) := by
  obtain ⟨hl, rfl⟩ := List.getElem?_eq_some_iff.1 hx
  unfold mixL
  rw [List.take_succ_eq_append_getElem hl, List.drop_eq_getElem_cons (show j < b.length by omega), List.set_append_right _ _ (by simp; omega)]
  have : j - (a.take j).length = 0 := by simp; omega
  rw [this, List.set_cons_zero, List.append_assoc]
  rfl
theorem preL_zeros (n : Nat) : preL (List.replicate n 0) = List.replicate n 0 := by
  apply List.ext_getElem?
  intro i
  rcases Nat.lt_or_ge i n with h | h
  · rw [preL_get _ (by simpa using h), List.getElem?_replicate, if_pos h, List.take_replicate, sum_zeros]
  · rw [List.getElem?_eq_none (by rw [preL_length]; simpa using h), List.getElem?_eq_none (by simpa using h)]
/-- Whose sums have been kept: nobody's, or those of an award without ties by a method ahead of m. -/
def KeptOf (D : List Int) (t m : Int) (L : List Int) : Prop :=
  L = List.replicate D.length 0 ∨ ∃ m0, 11 ≤ m0 ∧ m0 < m ∧ L = (awardOf (cmpR m0) D (List.replicate D.length 0) t).seats ∧ (awardOf (cmpR m0) D (List.replicate D.length 0) t).left = 0
theorem keptOf_len {D : List Int} {t m : Int} {L : List Int} (hc : censusB D = true) (t0 : 0 ≤ t) (h : KeptOf D t m L) : L.length = D.length := by
  rcases h with rfl | ⟨m0, _, _, rfl, _⟩
  · simp
  · exact (fromNil (m := m0) hc t0).len
theorem keptOf_le {D : List Int} {t m : Int} {L : List Int} (hc : censusB D = true) (hs : ∀ i j, i < j → j < D.length → atI D j ≤ atI D i) (t0 : 0 ≤ t) (m0 : 11 ≤ m) (m1 : m ≤ 15) (h : KeptOf D t m L) (hl : (awardOf (cmpR m) D (List.replicate D.length 0) t).left = 0) (k : Nat) :
    (L.take k).sum ≤ ((awardOf (cmpR m) D (List.replicate D.length 0) t).seats.take k).sum := by
  have FB := fromNil (m := m) hc t0
  rcases h with rfl | ⟨m0', a0, a1, rfl, al⟩
  · rw [List.take_replicate, sum_zeros]
    exact (take_sum_le FB.pos k).1
  · have FA := fromNil (m := m0') hc t0
    have e1 := FA.sum
    have e2 := FB.sum
    refine fav_prefix (by rw [FA.len, FB.len]) (by omega) (fun i j hij hj => ?_) k
    rw [FA.len] at hj
    exact fav_pair hc hs t0 a0 a1 m1 hij hj
theorem idxM (k : Nat) (hk : k < 5) : ∀ (o : Oper) (ev : Operand → Value) (w : World) (x y : Operand), o.op = .index 61 x y → ev x = .agg #[.int .i64 11, .int .i64 12, .int .i64 13, .int .i64 14, .int .i64 15] → ev y = .int .i64 k →
    (execOp ev o).run Tryz.prog w = .ok (.value (.int .i64 (11 + (k : Int)))) w := by
  match k, hk with
  | 0, _ | 1, _ | 2, _ | 3, _ | 4, _ =>
    intro o ev w x y ho hx hy
    obtain ⟨d, op, ty, p, af, g⟩ := o
    simp only at ho
    subst ho
    unfold execOp
    simp only [hx, hy]
    go_simp
    unfold Instr.index
    go_simp

set_option maxRecDepth 100000 in
set_option maxHeartbeats 8000000 in
theorem dFavours_any (Ap : Option Addr) (np cp : Nat) (ps : List Int) (u : Int) (Al : Option Addr) (nl cl : Nat) (ls : List Int) (s : Int) (w : World)
    (hp : Sl w .u16 Ap np ps) (hnp : np ≤ 9223372036854775807) (hrp : ∀ x ∈ ps, 0 ≤ x ∧ x ≤ 65535) (u0 : 0 ≤ u) (u1 : u ≤ 255) (s0 : 0 ≤ s) (s1 : s ≤ 65535) :
    Calls Tryz.prog 8 #[.agg #[.slice Ap np cp, .int .u8 u, .slice Al nl cl, .int .u16 s]] w (Yes w) := by
  have HC := fun w (h : Sl w .u16 Ap np ps) => censusO_any Ap np cp ps u Al nl cl s w h hnp hrp u0 u1
  have HH := fun w => house_any Ap np cp u Al nl cl s w s0 s1
  have hok := draftC_ok u0 u1 hrp
  have hcs := draftC_census u0 u1 hrp
  have hhr := @houseN_range s
  obtain ⟨C, hC⟩ : ∃ C, draftC u ps = C := ⟨_, rfl⟩
  obtain ⟨h, hh⟩ : ∃ h, houseN s = h := ⟨_, rfl⟩
  rw [hC] at HC hok hcs
  rw [hh] at HH hhr
  have hc0 := hok.2.2.1
  have hc9 := hok.2.2.2
  have HCS := Lib.hid hcs
  have hh0 := hhr.1
  have hh1 := hhr.2
  have HC' := Lib.hid HC
  have HH' := Lib.hid HH
  clear hrp hC hh hok HC HH hcs hhr
  go_enter Tryz.func8, Tryz.ntmps8
  go_wp2_with fail
  refine name1 (Q := fun W => Calls _ _ _ W _) ?_
  intro W1 L1 hs1 k1
  refine (wakes_any W1).mono ?_
  rintro e W2 ⟨rfl, l1⟩
  have L2 := L1.trans l1
  have k2 := k1.later l1
  have hp2 := hp.later L2
  clear l1 k1
  have HX := fun w (h : Lat W2 w) => HC'.out w (hp2.later h)
  go_upto_region 3 with (fail)
  go_cut [3, 4] from 15 to 19 (fun c t wx => ∃ g cc, c = .slice (some ⟨g, 0, none⟩) C.length cc ∧ t = .int .i64 (min h 40) ∧ RowN wx g C.length C ∧ W2.heap.size ≤ g ∧ Lat W2 wx)
  case first =>
    have hnn : w.heap.size ∉ ([] : List Nat) := by simp
    have b0 := k2.evS hnn 0 rfl
    have b1 := k2.evS hnn 1 rfl
    have b2 := k2.evS hnn 2 rfl
    have b3 := k2.evS hnn 3 rfl
    have L0 := Lat.drew W2
    have M0 := L0.s ([] : List Nat)
    go_region_held3 (fun w' => LatS W2 ([] : List Nat) w') (first | (with_reducible assumption) | ((repeat refine LatS.set ?_ (by simp) _); (with_reducible assumption)))
      (first
        | (go_at_call 16; (with_reducible refine (HX _ L0).mono ?_); rintro e wc ⟨v, B, rfl, hB, own, q3⟩; have LC := L0.trans q3; have MC := LC.s ([] : List Nat))
        | (go_at_call 19; (with_reducible refine (HH'.out _).mono ?_); rintro e wm ⟨rfl, r3⟩; have LM := LC.trans r3; have MM := LM.s ([] : List Nat)))
    all_goals
      obtain ⟨g, cc, rfl, row, hBg, _, _⟩ := own.rowN hc0
      go_wp2_with fail
      go_meet
      exact ⟨g, cc, rfl, rfl, row.keepP (r3.p (fun _ => False)) (fun h => h), by have := L0.size; omega, LM⟩
  case rest =>
    obtain ⟨g, cc, rfl, rfl, row, hg, l3⟩ := hcut
    have L3 := L2.trans l3
    have hgw : w.heap.size < g := by have := k2.lt; omega
    obtain ⟨t, ht⟩ : ∃ t, min h 40 = t := ⟨_, rfl⟩
    have t0 : 1 ≤ t := by omega
    have t1 : t ≤ 60 := by omega
    rw [ht]
    clear HX k2 l3 hp2 L2 HC' HH' hh0 hh1 ht hg
    go_wp2_with fail
    refine (sort_row row (by omega)).mono ?_
    rintro e v1 ⟨rfl, row1, x1⟩
    have y1 : Lat w v1 := x1.lat L3 (fun k h => by have h' : k = g := h; omega)
    go_wp2_with fail
    refine (reverse_row row1 (by omega)).mono ?_
    rintro e v2 ⟨rfl, row2, x2⟩
    have y2 : Lat w v2 := x2.lat y1 (fun k h => by have h' : k = g := h; omega)
    have row2' : RowN v2 g C.length (downL C) := row2
    clear row row1 row2 x1 x2 y1 L3
    have hDc := downL_census HCS.out
    have hDs := downL_sorted C
    have hDl : (downL C).length = C.length := (downL_perm C).length_eq
    obtain ⟨D, hD⟩ : ∃ D, downL C = D := ⟨_, rfl⟩
    rw [hD] at hDc hDs hDl row2'
    rw [← hDl] at hc0 hc9 row2' ⊢
    have HDC := Lib.hid hDc
    have HDS := Lib.hid hDs
    clear hDc hDs hDl hD HCS
    have hmk := run_make_nums (P := Tryz.prog) (t := 44) (e := 3) (k := .i64) (by_ := 8) Tryz.underlying44 (by kernel_rfl) (D.length : Int) D.length rfl (by omega) (by omega)
    go_wp2_with fail
    refine name1 (Q := fun W => Calls _ _ _ W _) ?_
    intro v3 x3 hs3 kl
    have row3 := row2'.keepP (x3.p (fun _ => False)) (fun h => h)
    have y3 := y2.trans x3
    have hgl : g < v2.heap.size := by obtain ⟨_, hb, _⟩ := row2'; exact hb.lt
    have hwl := y2.size
    have rowL : RowN v3 v2.heap.size D.length (List.replicate D.length 0) := ⟨_, kl, by simp [nums], by simp, by simp [nums]⟩
    obtain ⟨gl, hgl'⟩ : ∃ gl, v2.heap.size = gl := ⟨_, rfl⟩
    rw [hgl'] at rowL hgl hwl ⊢
    clear hmk row2' x3 y2 kl hgl' hs3
    refine (methods_any v3).mono ?_
    rintro e v4 ⟨rfl, x4⟩
    have row4 := row3.keepP (x4.p (fun _ => False)) (fun h => h)
    have rowL := rowL.keepP (x4.p (fun _ => False)) (fun h => h)
    have y4 := y3.trans x4
    clear row3 x4 y3
    go_wp2
    go_loopw [28] (fun i wr => ∃ (k : Nat) (L : List Int), k ≤ 5 ∧ i = .int .i64 k ∧ Hid (KeptOf D t (11 + k) L) ∧ RowN wr gl D.length (preL L) ∧ LatP (· = gl) v4 wr) (fun i _ => 5 - (intOf i).toNat)
    case atStart => exact ⟨0, List.replicate D.length 0, by omega, rfl, .inl rfl, by rw [preL_zeros]; exact rowL, LatP.refl _ _⟩
    case round =>
      obtain ⟨k, L, hk, rfl, HK, hrowL, hlr⟩ := hrel
      clear rowL
      have yr : Lat w wr := hlr.lat y4 (fun k h => by have h' : k = gl := h; omega)
      by_cases hlt : k < 5
      · have hx := idxM k hlt
        obtain ⟨vo, rfl⟩ : ∃ v, v = wr := ⟨_, rfl⟩
        have hk5 : (k : Int) < 5 := by omega
        have rowr := row4.keepP hlr (by omega)
        have F1 := fun w (h : Sl w .i64 (some ⟨g, 0, none⟩) D.length D) => dGiveN_any (some ⟨g, 0, none⟩) D.length cc D none 0 0 [] t (11 + k) w h (Sl.nil _ _ _) (by omega) (by omega)
        rw [giveE_ok HDC.out t0 (by omega) (by omega) (by omega), giveF_eq HDC.out t0 (by omega) (by omega) (by omega)] at F1
        have hF := fromNil (m := 11 + k) HDC.out (show 0 ≤ t by omega)
        have hkl := fun h => keptOf_le HDC.out HDS.out (show 0 ≤ t by omega) (show 11 ≤ 11 + (k : Int) by omega) (show 11 + (k : Int) ≤ 15 by omega) HK.out h
        have HLL := Lib.hid (keptOf_len HDC.out (show 0 ≤ t by omega) HK.out)
        have hnx : ∀ h, KeptOf D t (11 + ((k + 1 : Nat) : Int)) (awardOf (cmpR (11 + k)) D (List.replicate D.length 0) t).seats := fun h => .inr ⟨11 + k, by omega, by omega, rfl, h⟩
        obtain ⟨F, hFF⟩ : ∃ F, awardOf (cmpR (11 + k)) D (List.replicate D.length 0) t = F := ⟨_, rfl⟩
        rw [hFF] at F1 hF hkl hnx
        have HF := Lib.hid hF
        have HKL := Lib.hid hkl
        have HNX := Lib.hid hnx
        have hFl := hF.left
        have hFl2 : F.left ≤ 60 := by
          have := hF.sum
          have := sum_nonneg hF.pos
          omega
        clear hFF hF hkl hnx
        go_wp2_with (refine wpList_val rfl (.int .i64 (11 + (k : Int))) (hx _ _ _ _ _ (by rfl) (by rfl) (by rfl)) ?_)
        clear hx
        refine (F1 vo rowr.sl).mono ?_
        rintro e v5 ⟨A1, n1, c1, A2, n2, c2, rfl, f1, f2, x5, hfr⟩
        obtain rfl : n1 = D.length := by have := f1.1; have := HF.out.len; omega
        have hglv : gl < vo.heap.size := by obtain ⟨_, hb, _⟩ := hrowL; exact hb.lt
        clear F1 f2
        go_upto_region 11 with (fail)
        refine name1 (Q := fun W => Code.wp _ _ _ _ W) ?_
        intro v6 x6 hs6 kb
        have x56 := x5.trans x6
        have f1 := f1.later x6
        have hrow6 := hrowL.keepP (x56.p (fun _ => False)) (fun h => h)
        have hlr6 := hlr.trans (x56.p _)
        clear x5 x6 hrowL hlr rowr x56
        have d1_0 := kb.cell 0
        have d1_1 := kb.cell 1
        have d1_2 := kb.cell 2
        by_cases hop : 0 < F.left
        · go_wp2
          go_roundw
          case rel =>
            refine ⟨k + 1, L, by omega, by go_num, ?_, hrow6, hlr6⟩
            rcases HK.out with h | ⟨m0, a, b, c, d⟩
            · exact .inl h
            · exact .inr ⟨m0, a, by omega, c, d⟩
          case measure => simp [intOf]; omega
        · have hl0 : F.left = 0 := by omega
          have HKL' := Lib.hid (HKL.out hl0)
          have HNX' := Lib.hid (HNX.out hl0)
          have htot := HF.out.sum
          rw [hl0] at htot
          have HTOT := Lib.hid htot
          have hlb := kb.lt
          clear htot hl0 HKL HNX
          go_wp2
          clear d1_0 d1_1 d1_2
          obtain ⟨v6', hv6⟩ : ∃ v, v = v6 := ⟨_, rfl⟩
          have hgl6 : gl < v6.heap.size := by obtain ⟨_, hb, _⟩ := hrow6; exact hb.lt
          have hf1 : ∀ a, A1 = some a → a.block ≠ gl := fun a e => by have := hfr a e; omega
          have HFL := Lib.hid HF.out.len
          have hpl : (preL L).length = (preL F.seats).length := by rw [preL_length, preL_length, HLL.out, HFL.out]
          have HPL := Lib.hid hpl
          have hfl : (preL F.seats).length = D.length := by rw [preL_length, HFL.out]
          have HFP := Lib.hid hfl
          clear hpl hfl hfr hop
          go_loopw [10, 54] (fun sm i wr => ∃ j : Nat, j ≤ D.length ∧ i = .int .i64 j ∧ sm = .int .i64 (F.seats.take j).sum ∧ RowN wr gl D.length (mixL (preL F.seats) (preL L) j) ∧ LatP (· = gl) v6 wr) (fun _ i _ => D.length - (intOf i).toNat)
          case atStart => exact ⟨0, by omega, rfl, by simp, by rw [mix_zero]; exact hrow6, LatP.refl _ _⟩
          case round =>
            obtain ⟨j, hj, rfl, rfl, hrowj, hlj⟩ := hrel
            have hts := take_sum_le HF.out.pos j
            by_cases hjl : j < D.length
            · obtain ⟨a, x, rfl, ha, hxk, hcx0⟩ := f1.at hjl
              have hcx : wr.cell? (a.add j) = some (.int .i64 x) := hlj.cell_at (by rw [block_add]; exact ha) (by rw [block_add]; exact hf1 a rfl) hcx0
              have HT := Lib.hid (take_sum_succ hxk)
              have hts2 := take_sum_le HF.out.pos (j + 1)
              have hx0 := HF.out.pos x (List.mem_of_getElem? hxk)
              have hx1 : x ≤ 60 := by have := HT.out; have := HTOT.out; omega
              have hjl' : (j : Int) < D.length := by omega
              have hle := HKL'.out (j + 1)
              obtain ⟨z, hz⟩ : ∃ z, (F.seats.take j).sum = z := ⟨_, rfl⟩
              rw [HT.out, hz] at hle
              rw [hz] at hts ⊢
              have HZ := Lib.hid hz
              have z0 := hts.1
              have z1 : z ≤ 60 := by have := HTOT.out; omega
              obtain ⟨y, hy⟩ : ∃ y, (L.take (j + 1)).sum = y := ⟨_, rfl⟩
              rw [hy] at hle
              have e1 : wr.cell? ⟨gl, j, none⟩ = some (.int .i64 y) := hrowj.cell (by rw [mix_get HPL.out (by rw [HFP.out]; exact hjl), preL_get _ (by rw [HLL.out]; exact hjl), hy])
              obtain ⟨cur, hcur, _⟩ := id hrowj
              have e2 := hcur.frozen j
              have hnl : ¬ z + x < y := by omega
              have hrow2 := hrowj.set (i := j) (by rw [mix_length HPL.out, HFP.out]; exact hjl) (z + x)
              have hset := mix_set HPL.out (j := j) (x := z + x) (by rw [preL_get _ (by rw [HFL.out]; exact hjl), HT.out, HZ.out])
              rw [hset] at hrow2
              clear hxk hcx0 hts hts2 hz hle hy hrowj hcur hset ha
              go_wp2
              go_roundw
              case rel => exact ⟨j + 1, by omega, by go_num, by rw [HT.out, HZ.out], hrow2, hlj.trans (setP _ _ _ _)⟩
              case measure => simp [intOf]; omega
            · obtain rfl : D.length = j := by omega
              have hall : mixL (preL F.seats) (preL L) D.length = preL F.seats := by rw [← HFP.out]; exact mix_all HPL.out
              rw [hall] at hrowj
              have hlr9 := hlr6.trans hlj
              clear hts hall hj hlj
              go_wp2
              go_roundw
              case rel => exact ⟨k + 1, F.seats, by omega, by go_num, HNX'.out, hrowj, hlr9⟩
              case measure => simp [intOf]; omega
      · go_wp2
        go_ret
        exact ⟨rfl, yr⟩
end Go.Proofs.YtebbhhdnjflmcaaGreat
