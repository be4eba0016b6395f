/- Several texts in one: PlainA, PlainB, Grows. -/
import Derived.Test.YtebbhhdnjflmcaaGreatJ27
import Derived.Test.YtebbhhdnjflmcaaGreatJ35
import Derived.Test.YtebbhhdnjflmcaaGreatK04

/- Plain laws of the award: what grows, what adds up; no program is in sight. -/
namespace Go.Proofs.YtebbhhdnjflmcaaGreat

section
variable {f : Int → Int → Int → Int → Int} {P : List Int} {C : List Nat}
theorem bump_append (S : List Int) (l r : List Nat) : bump S (l ++ r) = bump (bump S l) r := by simp [bump]
/-- From here on seats and the order only grow. -/
theorem award_ext : ∀ (k : Nat) (S : List Int) (left : Int) (o : List Nat), (∃ r, (award f P C k S left o).order = o ++ r) ∧ ∀ i, atI S i ≤ atI (award f P C k S left o).seats i := by
  intro k
  induction k with
  | zero => exact fun S left o => ⟨⟨[], by simp [award]⟩, fun i => by simp [award]⟩
  | succ k ih =>
    intro S left o
    unfold award
    split
    · exact ⟨⟨[], by simp⟩, fun i => Int.le_refl _⟩
    · split
      · exact ⟨⟨[], by simp⟩, fun i => Int.le_refl _⟩
      · obtain ⟨⟨r, hr⟩, h2⟩ := ih (bump S (bestL (vs f P S) C)) (left - (bestL (vs f P S) C).length) (o ++ bestL (vs f P S) C)
        exact ⟨⟨_, by rw [hr, List.append_assoc]⟩, fun i => Int.le_trans (bump_le i) (h2 i)⟩
/-- With one seat more no region has fewer seats, and the order goes on. -/
theorem award_grow (hC : C ≠ []) : ∀ (k : Nat) (S : List Int) (left : Int) (o : List Nat), 0 ≤ left → left ≤ k →
    (∃ r, (award f P C (k + 1) S (left + 1) o).order = (award f P C k S left o).order ++ r) ∧ ∀ i, atI (award f P C k S left o).seats i ≤ atI (award f P C (k + 1) S (left + 1) o).seats i := by
  intro k
  induction k with
  | zero =>
    intro S left o h0 h1
    have := award_ext (f := f) (P := P) (C := C) 1 S (left + 1) o
    simpa [award] using this
  | succ k ih =>
    intro S left o h0 h1
    rcases Int.lt_or_eq_of_le h0 with hp | hz
    · by_cases ht : left < (bestL (vs f P S) C).length
      · rw [award_tie hp (by omega) ht]
        exact award_ext (k + 1 + 1) S (left + 1) o
      · have hb := List.length_pos_iff.2 (bestL_ne (c := vs f P S) hC)
        rw [award_step hp ht, award_step (k := k + 1) (by omega) (by omega)]
        have e : left + 1 - ((bestL (vs f P S) C).length : Int) = (left - (bestL (vs f P S) C).length) + 1 := by omega
        rw [e]
        exact ih _ _ _ (by omega) (by omega)
    · subst hz
      rw [award_done (Int.le_refl _)]
      exact award_ext (k + 1 + 1) S (0 + 1) o
/-- What an award adds up to. -/
structure Adds (A : Aw) (Z : List Int) (s : Int) (C : List Nat) : Prop where
  seats : A.seats = bump Z A.order
  sum : A.seats.sum + A.left = s
  ord : (A.order.length : Int) + A.left + Z.sum = s
  left : 0 ≤ A.left
  mem : ∀ i ∈ A.order, i ∈ C
  tied : ∀ i ∈ A.tied, i ∈ C
theorem award_adds {Z : List Int} {s : Int} (hC : C ≠ []) (hl : ∀ i ∈ C, i < Z.length) : ∀ (k : Nat) (S : List Int) (left : Int) (o : List Nat), 0 ≤ left → left ≤ k → S = bump Z o → S.sum + left = s → (o.length : Int) + left + Z.sum = s → (∀ i ∈ o, i ∈ C) →
    Adds (award f P C k S left o) Z s C := by
  intro k
  induction k with
  | zero =>
    intro S left o h0 h1 h2 h3 h4 h5
    have : left = 0 := by omega
    subst this
    exact ⟨h2, h3, h4, Int.le_refl _, h5, fun i h => by simp [award] at h⟩
  | succ k ih =>
    intro S left o h0 h1 h2 h3 h4 h5
    rcases Int.lt_or_eq_of_le h0 with hp | hz
    · by_cases ht : left < (bestL (vs f P S) C).length
      · rw [award_tie hp (by omega) ht]
        exact ⟨h2, h3, h4, h0, h5, fun i h => (bestL_sub _ _).subset h⟩
      · have hb := List.length_pos_iff.2 (bestL_ne (c := vs f P S) hC)
        rw [award_step hp ht]
        have hsl : S.length = Z.length := by rw [h2, bump_length]
        have hbs : (bump S (bestL (vs f P S) C)).sum = S.sum + (bestL (vs f P S) C).length := bump_sum (fun j hj => by rw [hsl]; exact hl j ((bestL_sub _ _).subset hj))
        refine ih _ _ _ (by omega) (by omega) ?_ (by rw [hbs]; omega) (by rw [List.length_append]; omega) ?_
        · rw [bump_append, ← h2]
        · intro i hi
          rcases List.mem_append.1 hi with h | h
          · exact h5 i h
          · exact (bestL_sub _ _).subset h
    · subst hz
      rw [award_done (Int.le_refl _)]
      exact ⟨h2, h3, h4, Int.le_refl _, h5, fun i h => by simp at h⟩

theorem awardOf_adds {Z : List Int} {left : Int} (hC : full P ≠ []) (hz : Z.length = P.length) (h0 : 0 ≤ left) : Adds (awardOf f P Z left) Z (Z.sum + left) (full P) :=
  award_adds hC (fun i hi => by rw [hz]; exact (mem_full.1 hi).1) left.toNat Z left [] h0 (by omega) rfl rfl (by simp; omega) (fun i h => by cases h)
theorem awardOf_grow {Z : List Int} {left : Int} (hC : full P ≠ []) (h0 : 0 ≤ left) :
    (∃ r, (awardOf f P Z (left + 1)).order = (awardOf f P Z left).order ++ r) ∧ ∀ i, atI (awardOf f P Z left).seats i ≤ atI (awardOf f P Z (left + 1)).seats i := by
  have h := award_grow (f := f) (P := P) hC left.toNat Z left [] h0 (by omega)
  have e : (left + 1).toNat = left.toNat + 1 := by omega
  unfold awardOf
  rw [e]
  exact h
end
end Go.Proofs.YtebbhhdnjflmcaaGreat

/- Plain laws of ranks: a total order, and what the best ones are. -/
namespace Go.Proofs.YtebbhhdnjflmcaaGreat

/-- A comparison of ranks, by people and seats: like an order, and the rank for a further seat is no greater. -/
structure RankF (f : Int → Int → Int → Int → Int) : Prop where
  anti : ∀ p s q t, f q t p s = - f p s q t
  trans : ∀ p s q t r u, 1 ≤ p → 0 ≤ s → 1 ≤ q → 0 ≤ t → 1 ≤ r → 0 ≤ u → 0 ≤ f p s q t → 0 ≤ f q t r u → 0 ≤ f p s r u
  mono : ∀ p s, 1 ≤ p → 0 ≤ s → 0 ≤ f p s p (s + 1)

theorem sideOf_neg (x : Int) : sideOf (-x) = - sideOf x := by
  rcases Int.lt_trichotomy x 0 with h | h | h
  · have h1 : ¬ -x < 0 := by omega
    have h2 : ¬ -x = 0 := by omega
    simp [sideOf, h, h2]; omega
  · subst h; rfl
  · have h1 : -x < 0 := by omega
    have h2 : ¬ x < 0 := by omega
    have h3 : ¬ x = 0 := by omega
    simp [sideOf, h2, h3]; omega
theorem sideOf_nonneg {x : Int} : 0 ≤ sideOf x ↔ 0 ≤ x := by unfold sideOf; split <;> try split
                                                             all_goals omega
theorem postN_nonneg (m : Int) {s : Int} (h : 0 ≤ s) : 0 ≤ postN m s := by
  have h1 := Int.mul_nonneg h (show 0 ≤ s + 1 by omega)
  have e : 2 * s * (s + 1) = 2 * (s * (s + 1)) := by rw [Int.mul_assoc]
  unfold postN
  split
  · exact h
  · split
    · omega
    · split
      · exact h1
      · split <;> omega
theorem postD_pos (m : Int) {s : Int} (h : 0 ≤ s) : 1 ≤ postD m s := by
  unfold postD
  split
  · omega
  · split <;> omega
theorem topOf_pos (m : Int) {p : Int} (h : 1 ≤ p) : 1 ≤ topOf m p := by
  unfold topOf
  split
  · have := Int.mul_le_mul h h (by omega) (by omega); omega
  · exact h
theorem cross_trans {a b c n1 n2 n3 : Int} (h1 : 0 < n1) (h2 : 0 < n2) (h3 : 0 < n3) (x : 0 ≤ a * n2 - b * n1) (y : 0 ≤ b * n3 - c * n2) : 0 ≤ a * n3 - c * n1 := by
  have e : n2 * (a * n3 - c * n1) = n3 * (a * n2 - b * n1) + n1 * (b * n3 - c * n2) := by grind
  have k1 := Int.mul_nonneg (Int.le_of_lt h3) x
  have k2 := Int.mul_nonneg (Int.le_of_lt h1) y
  rcases Int.lt_or_le (a * n3 - c * n1) 0 with h | h
  · have := Int.mul_neg_of_pos_of_neg h2 h
    omega
  · exact h
theorem post_mono (m : Int) {s : Int} (h : 0 ≤ s) : 0 ≤ postD m s * postN m (s + 1) - postD m (s + 1) * postN m s := by
  have h2 := Int.mul_nonneg h h
  unfold postD postN
  by_cases h11 : m = 11
  · subst h11; simp; omega
  · by_cases h12 : m = 12
    · subst h12
      simp
      have e : (2 * s + 1) * (2 * (s + 1) * (s + 1 + 1)) - (2 * (s + 1) + 1) * (2 * s * (s + 1)) = 4 * (s * s) + 8 * s + 4 := by grind
      omega
    · by_cases h13 : m = 13
      · subst h13
        simp
        have e : (s + 1) * (s + 1 + 1) - s * (s + 1) = 2 * s + 2 := by grind
        omega
      · by_cases h14 : m = 14
        · subst h14; simp; omega
        · simp [h11, h12, h13, h14]; omega
theorem cmpR_rank (m : Int) : RankF (cmpR m) where
  anti := by
    intro p s q t
    unfold cmpR
    by_cases h1 : postN m s = 0 <;> by_cases h2 : postN m t = 0
    · simp only [h1, h2, if_true]
      rw [show q - p = -(p - q) by omega, sideOf_neg]
    · simp [h1, h2]
    · simp [h1, h2]
    · simp only [h1, h2, if_false]
      rw [← sideOf_neg]
      congr 1
      omega
  trans := by
    intro p s q t r u p1 s0 q1 t0 r1 u0
    have n1 := postN_nonneg m s0
    have n2 := postN_nonneg m t0
    have n3 := postN_nonneg m u0
    unfold cmpR
    by_cases h1 : postN m s = 0 <;> by_cases h2 : postN m t = 0 <;> by_cases h3 : postN m u = 0
    · simp only [h1, h2, h3, if_true, sideOf_nonneg]; omega
    · simp [h1, h3]
    · simp [h1, h2, h3]
    · simp [h1, h3]
    · simp [h1, h2]
    · simp [h1, h2]
    · simp [h2, h3]
    · simp only [h1, h2, h3, if_false, sideOf_nonneg]
      exact cross_trans (by omega) (by omega) (by omega)
  mono := by
    intro p s p1 s0
    have n1 := postN_nonneg m s0
    have n2 := postN_nonneg m (show 0 ≤ s + 1 by omega)
    have hm := post_mono m s0
    have d2 := postD_pos m (show 0 ≤ s + 1 by omega)
    have d1 := postD_pos m s0
    have tp := topOf_pos m p1
    unfold cmpR
    by_cases h1 : postN m s = 0 <;> by_cases h2 : postN m (s + 1) = 0
    · simp [h1, h2, sideOf]
    · simp [h1, h2]
    · exfalso
      rw [h2] at hm
      have : 0 < postD m (s + 1) * postN m s := Int.mul_pos (by omega) (by omega)
      omega
    · simp only [h1, h2, if_false, sideOf_nonneg]
      have e : topOf m p * postD m s * postN m (s + 1) - topOf m p * postD m (s + 1) * postN m s = topOf m p * (postD m s * postN m (s + 1) - postD m (s + 1) * postN m s) := by grind
      rw [e]
      exact Int.mul_nonneg (by omega) hm

/-- Like an order on a list. -/
structure Pre (c : Nat → Nat → Int) (l : List Nat) : Prop where
  anti : ∀ x y, c y x = - c x y
  trans : ∀ x y z, x ∈ l → y ∈ l → z ∈ l → 0 ≤ c x y → 0 ≤ c y z → 0 ≤ c x z
theorem snoc_ind {motive : List Nat → Prop} (h0 : motive []) (h1 : ∀ l x, motive l → motive (l ++ [x])) (l : List Nat) : motive l := by
  have : ∀ n (l : List Nat), l.length = n → motive l := by
    intro n
    induction n with
    | zero => intro l h; rw [List.eq_nil_of_length_eq_zero h]; exact h0
    | succ n ih =>
      intro l h
      have hne : l ≠ [] := by intro e; rw [e] at h; cases h
      rw [← List.dropLast_concat_getLast hne]
      exact h1 _ _ (ih _ (by rw [List.length_dropLast, h]; rfl))
  exact this _ l rfl
theorem best_mem {c : Nat → Nat → Int} (l : List Nat) (h : Pre c l) : ∀ y, y ∈ bestL c l ↔ y ∈ l ∧ ∀ z ∈ l, 0 ≤ c y z := by
  induction l using snoc_ind with
  | h0 => intro y; simp [bestL]
  | h1 l x ih =>
    have ih' := ih ⟨h.anti, fun a b d ha hb hd => h.trans a b d (by simp [ha]) (by simp [hb]) (by simp [hd])⟩
    have hxx : c x x = 0 := by have := h.anti x x; omega
    intro y
    rw [bestL_snoc]
    cases hb : bestL c l with
    | nil =>
      have hl : l = [] := by
        cases l with
        | nil => rfl
        | cons a r => exact absurd hb (bestL_ne (by simp))
      subst hl
      simp only [pick, List.mem_singleton, List.nil_append]
      constructor
      · rintro rfl
        exact ⟨rfl, fun z hz => by rw [hz, hxx]; exact Int.le_refl _⟩
      · exact fun h => h.1
    | cons y0 r =>
      have hy0 := (ih' y0).1 (by rw [hb]; simp)
      have h0l : y0 ∈ l ++ [x] := by simp [hy0.1]
      have hxl : x ∈ l ++ [x] := by simp
      have axy := h.anti x y0
      simp only [pick]
      split
      · rename_i hp
        rw [List.mem_singleton]
        constructor
        · rintro rfl
          refine ⟨by simp, fun z hz => ?_⟩
          rcases List.mem_append.1 hz with hz' | hz'
          · exact h.trans y y0 z hxl h0l hz (by omega) (hy0.2 z hz')
          · rw [List.mem_singleton] at hz'; rw [hz', hxx]; exact Int.le_refl _
        · rintro ⟨hy, ht⟩
          rcases List.mem_append.1 hy with hy' | hy'
          · have h1 := ht x hxl
            have h2 := hy0.2 y hy'
            have := h.trans y0 y x h0l hy hxl h2 h1
            omega
          · simpa using hy'
      · rename_i hp
        have old : ∀ b, b ∈ bestL c l → c x y0 ≤ 0 → b ∈ l ++ [x] ∧ ∀ z ∈ l ++ [x], 0 ≤ c b z := by
          intro b hbm hle
          obtain ⟨b1, b2⟩ := (ih' b).1 hbm
          refine ⟨by simp [b1], fun z hz => ?_⟩
          rcases List.mem_append.1 hz with hz' | hz'
          · exact b2 z hz'
          · rw [List.mem_singleton] at hz'
            subst hz'
            exact h.trans b y0 z (by simp [b1]) h0l hxl (b2 y0 hy0.1) (by omega)
        have back : ∀ y, y ∈ l → (∀ z ∈ l ++ [x], 0 ≤ c y z) → y ∈ y0 :: r := by
          intro y hy ht
          rw [← hb]
          exact (ih' y).2 ⟨hy, fun z hz => ht z (by simp [hz])⟩
        split
        · rename_i hn
          constructor
          · intro hy
            exact old y (by rw [hb]; exact hy) (by omega)
          · rintro ⟨hy, ht⟩
            rcases List.mem_append.1 hy with hy' | hy'
            · exact back y hy' ht
            · rw [List.mem_singleton] at hy'
              subst hy'
              have := ht y0 h0l
              omega
        · rename_i hn
          have hz0 : c x y0 = 0 := by omega
          rw [List.mem_append, List.mem_singleton]
          constructor
          · rintro (hy | rfl)
            · exact old y (by rw [hb]; exact hy) (by omega)
            · refine ⟨by simp, fun z hz => ?_⟩
              rcases List.mem_append.1 hz with hz' | hz'
              · exact h.trans y y0 z hxl h0l hz (by omega) (hy0.2 z hz')
              · rw [List.mem_singleton] at hz'; rw [hz', hxx]; exact Int.le_refl _
          · rintro ⟨hy, ht⟩
            rcases List.mem_append.1 hy with hy' | hy'
            · exact .inl (back y hy' ht)
            · right; simpa using hy'

/-- Who has a seat got it by a rank that is no smaller than any one's for the next seat. -/
def LastOk (f : Int → Int → Int → Int → Int) (P : List Int) (C : List Nat) (S : List Int) : Prop := ∀ i ∈ C, 1 ≤ atI S i → ∀ j ∈ C, 0 ≤ f (atI P i) (atI S i - 1) (atI P j) (atI S j)
theorem vs_pre {f : Int → Int → Int → Int → Int} (hf : RankF f) {P S : List Int} {C : List Nat} (hP : ∀ i ∈ C, 1 ≤ atI P i) (hS : ∀ i, 0 ≤ atI S i) : Pre (vs f P S) C where
  anti := fun _ _ => hf.anti _ _ _ _
  trans := fun x y z hx hy hz => hf.trans _ _ _ _ _ _ (hP x hx) (hS x) (hP y hy) (hS y) (hP z hz) (hS z)
theorem last_step {f : Int → Int → Int → Int → Int} (hf : RankF f) {P S : List Int} {C : List Nat} (hP : ∀ i ∈ C, 1 ≤ atI P i) (hS : ∀ i, 0 ≤ atI S i) (hl : ∀ i ∈ C, i < S.length) (hd : C.Nodup) (h : LastOk f P C S) : LastOk f P C (bump S (bestL (vs f P S) C)) := by
  have hpre := vs_pre hf hP hS
  have hsub := bestL_sub (vs f P S) C
  have hnod := hd.sublist hsub
  have down : ∀ j ∈ C, 0 ≤ f (atI P j) (atI S j) (atI P j) (atI (bump S (bestL (vs f P S) C)) j) := by
    intro j hj
    by_cases hm : j ∈ bestL (vs f P S) C
    · rw [bump_mem hnod hm (hl j hj)]
      exact hf.mono _ _ (hP j hj) (hS j)
    · rw [bump_other hm]
      have := hf.anti (atI P j) (atI S j) (atI P j) (atI S j)
      omega
  have hS' : ∀ i, 0 ≤ atI (bump S (bestL (vs f P S) C)) i := fun i => Int.le_trans (hS i) (bump_le i)
  intro i hi h1 j hj
  by_cases hm : i ∈ bestL (vs f P S) C
  · have e := bump_mem hnod hm (hl i hi)
    rw [e]
    have e2 : atI S i + 1 - 1 = atI S i := by omega
    rw [e2]
    have := ((best_mem C hpre i).1 hm).2 j hj
    exact hf.trans _ _ _ _ _ _ (hP i hi) (hS i) (hP j hj) (hS j) (hP j hj) (hS' j) this (down j hj)
  · have e := bump_other (S := S) hm
    rw [e] at h1 ⊢
    exact hf.trans _ _ _ _ _ _ (hP i hi) (by omega) (hP j hj) (hS j) (hP j hj) (hS' j) (h i hi h1 j hj) (down j hj)
theorem award_last {f : Int → Int → Int → Int → Int} (hf : RankF f) {P : List Int} {C : List Nat} (hP : ∀ i ∈ C, 1 ≤ atI P i) (hd : C.Nodup) : ∀ (k : Nat) (S : List Int) (left : Int) (o : List Nat), (∀ i, 0 ≤ atI S i) → (∀ i ∈ C, i < S.length) → LastOk f P C S →
    LastOk f P C (award f P C k S left o).seats ∧ (∀ t ∈ (award f P C k S left o).tied, ∀ u ∈ (award f P C k S left o).tied, f (atI P t) (atI (award f P C k S left o).seats t) (atI P u) (atI (award f P C k S left o).seats u) = 0) ∧ ∀ i, 0 ≤ atI (award f P C k S left o).seats i := by
  intro k
  induction k with
  | zero => exact fun S left o h0 _ h => ⟨h, fun t ht => by simp [award] at ht, h0⟩
  | succ k ih =>
    intro S left o h0 hl h
    unfold award
    split
    · exact ⟨h, fun t ht => by simp at ht, h0⟩
    · split
      · refine ⟨h, fun t ht u hu => ?_, h0⟩
        have hpre := vs_pre hf hP h0
        have a := (best_mem C hpre t).1 ht
        have b := (best_mem C hpre u).1 hu
        have x := a.2 u b.1
        have y := b.2 t a.1
        have z := hf.anti (atI P t) (atI S t) (atI P u) (atI S u)
        unfold vs at x y
        show f (atI P t) (atI S t) (atI P u) (atI S u) = 0
        omega
      · exact ih _ _ _ (fun i => Int.le_trans (h0 i) (bump_le i)) (fun i hi => by rw [bump_length]; exact hl i hi) (last_step hf hP h0 hl hd h)
end Go.Proofs.YtebbhhdnjflmcaaGreat

/- DivisorGrows: the walk. -/
namespace Go.Proofs.YtebbhhdnjflmcaaGreat
open Go.RowKit Go.Shelf
set_option linter.unusedSimpArgs false
set_option linter.unusedVariables false

theorem giveE_ok {C : List Int} {s m : Int} (hc : censusB C = true) (s0 : 1 ≤ s) (s1 : s ≤ 1000) (m0 : 11 ≤ m) (m1 : m ≤ 15) : giveE C s m [] = 0 := by
  have hmn := minB_nil (n := C.length) s0
  simp only [minB, Bool.and_eq_true, decide_eq_true_eq] at hmn
  rw [giveE, if_neg (by simp [hc]), if_neg (by simp [askB, s0, s1, m0, m1]), if_neg (by simp [hmn.1]), if_neg (by omega)]
theorem giveF_eq {C : List Int} {s m : Int} (hc : censusB C = true) (s0 : 1 ≤ s) (s1 : s ≤ 1000) (m0 : 11 ≤ m) (m1 : m ≤ 15) : giveF C s m [] = awardOf (cmpR m) C (List.replicate C.length 0) s := by
  rw [giveF, if_pos (giveE_ok hc s0 s1 m0 m1), giveA, lowOf_nil, sum_zeros, Int.sub_zero]

/-- What an award from nothing is. -/
structure FromNil (n : Nat) (s : Int) (F : Aw) : Prop where
  len : F.seats.length = n
  sum : F.seats.sum + F.left = s
  ord : (F.order.length : Int) + F.left = s
  left : 0 ≤ F.left
  cnt : bump (List.replicate n 0) F.order = F.seats
  mem : ∀ i ∈ F.order, i < n
  pos : ∀ x ∈ F.seats, 0 ≤ x
  tied : ∀ i ∈ F.tied, i < n
theorem fromNil {C : List Int} {s m : Int} (hc : censusB C = true) (s0 : 0 ≤ s) : FromNil C.length s (awardOf (cmpR m) C (List.replicate C.length 0) s) := by
  have hcen := census_iff.1 hc
  have h := awardOf_adds (f := cmpR m) (Z := List.replicate C.length 0) (full_ne hcen.2.2) (by simp) s0
  have hz := sum_zeros C.length
  have hs := h.sum
  have ho := h.ord
  rw [hz] at hs ho
  refine ⟨by rw [h.seats, bump_length]; simp, by omega, by omega, h.left, h.seats.symm, fun i hi => (mem_full.1 (h.mem i hi)).1, ?_, fun i hi => (mem_full.1 (h.tied i hi)).1⟩
  rw [h.seats]
  exact bump_nonneg _ (fun x hx => by rw [List.mem_replicate] at hx; omega)
/-- Two awards, the second of one seat more. -/
structure GrowsOk (F G : Aw) : Prop where
  pre : ∃ r, G.order = F.order ++ r
  le : ∀ i, atI F.seats i ≤ atI G.seats i
theorem growsOk {C : List Int} {s m : Int} (hc : censusB C = true) (s0 : 0 ≤ s) : GrowsOk (awardOf (cmpR m) C (List.replicate C.length 0) s) (awardOf (cmpR m) C (List.replicate C.length 0) (s + 1)) := by
  have hcen := census_iff.1 hc
  obtain ⟨a, b⟩ := awardOf_grow (f := cmpR m) (Z := List.replicate C.length 0) (full_ne hcen.2.2) s0
  exact ⟨a, b⟩

theorem methods_any (w : World) : Calls Tryz.prog 26 #[] w (fun e w' => e = .returned (.agg #[.int .i64 11, .int .i64 12, .int .i64 13, .int .i64 14, .int .i64 15]) ∧ Lat w w') := by
  go_enter Tryz.func26, Tryz.ntmps26
  go_upto_region 1 with (fail)
  refine name1 (Q := fun W => Code.wp _ _ _ _ W) ?_
  intro W hl hs k1
  have c1_0 := k1.cell 0
  have c1_1 := k1.cell 1
  have c1_2 := k1.cell 2
  have c1_3 := k1.cell 3
  have c1_4 := k1.cell 4
  have f1_0 := k1.frozen 0
  have f1_1 := k1.frozen 1
  have f1_2 := k1.frozen 2
  have f1_3 := k1.frozen 3
  have f1_4 := k1.frozen 4
  go_wp2
  refine bodyPost_ret (v := .agg #[.int .i64 11, .int .i64 12, .int .i64 13, .int .i64 14, .int .i64 15]) (by simp [results, Tryz.results26, go_sem, c1_0, c1_1, c1_2, c1_3, c1_4]) rfl ?_
  refine ⟨rfl, ?_⟩
  iterate 5 (refine Lat.setCell ?_ (Nat.le_refl _) _)
  exact hl

theorem idx61 {k : Int} (h0 : 0 ≤ k) (h1 : k ≤ 4) : ∃ m : Int, 11 ≤ m ∧ m ≤ 15 ∧ ∀ w, (Instr.index 61 (.agg #[.int .i64 11, .int .i64 12, .int .i64 13, .int .i64 14, .int .i64 15]) (.int .u8 k)).run Tryz.prog w = .ok (.int .i64 m) w := by
  have hk : k = 0 ∨ k = 1 ∨ k = 2 ∨ k = 3 ∨ k = 4 := by omega
  rcases hk with rfl | rfl | rfl | rfl | rfl
  · exact ⟨11, by omega, by omega, fun w => by unfold Instr.index; go_simp⟩
  · exact ⟨12, by omega, by omega, fun w => by unfold Instr.index; go_simp⟩
  · exact ⟨13, by omega, by omega, fun w => by unfold Instr.index; go_simp⟩
  · exact ⟨14, by omega, by omega, fun w => by unfold Instr.index; go_simp⟩
  · exact ⟨15, by omega, by omega, fun w => by unfold Instr.index; go_simp⟩

set_option maxRecDepth 100000 in
set_option maxHeartbeats 8000000 in
theorem dGrows_any (Ap : Option Addr) (np cp : Nat) (ps : List Int) (u : Int) (Al : Option Addr) (nl cl : Nat) (ls : List Int) (s me : Int) (w : World)
    (hp : Sl w .u16 Ap np ps) (hnp : np ≤ 9223372036854775807) (hrp : ∀ x ∈ ps, 0 ≤ x ∧ x ≤ 65535) (u0 : 0 ≤ u) (u1 : u ≤ 255) (s0 : 0 ≤ s) (s1 : s ≤ 65535) (a0 : 0 ≤ me) (a1 : me ≤ 255) :
    Calls Tryz.prog 5 #[.agg #[.slice Ap np cp, .int .u8 u, .slice Al nl cl, .int .u16 s], .int .u8 me] w (Yes w) := by
  have HC := fun w (h : Sl w .u16 Ap np ps) => census_any Ap np cp ps u Al nl cl s w h hnp hrp u0 u1
  have HH := fun w => house_any Ap np cp u Al nl cl s w s0 s1
  have hok := draftC_ok u0 u1 hrp
  have hcs := draftC_census u0 u1 hrp
  have hhr := @houseN_range s
  obtain ⟨C, hC⟩ : ∃ C, draftC u ps = C := ⟨_, rfl⟩
  obtain ⟨h, hh⟩ : ∃ h, houseN s = h := ⟨_, rfl⟩
  rw [hC] at HC hok hcs
  rw [hh] at HH hhr
  have hc0 := hok.2.2.1
  have hc9 := hok.2.2.2
  have HCS := Lib.hid hcs
  have hh0 := hhr.1
  have hh1 := hhr.2
  have HC' := Lib.hid HC
  have HH' := Lib.hid HH
  clear hrp hC hh hok HC HH hcs hhr
  go_enter Tryz.func5, Tryz.ntmps5
  go_wp2_with fail
  refine name1 (Q := fun W => Calls _ _ _ W _) ?_
  intro W1 L1 hs1 k1
  refine (wakes_any W1).mono ?_
  rintro e W2 ⟨rfl, l1⟩
  have L2 := L1.trans l1
  have k2 := k1.later l1
  have hp2 := hp.later L2
  clear l1 k1
  have HX := fun w (h : Lat W2 w) => HC'.out w (hp2.later h)
  go_upto_region 3 with (fail)
  go_cut [5, 6, 7] from 24 to 32 (fun c k t wx => ∃ Ac cc m, c = .slice Ac C.length cc ∧ k = .int .i64 m ∧ t = .int .i64 (min h 60) ∧ Sl wx .i64 Ac C.length C ∧ 11 ≤ m ∧ m ≤ 15 ∧ Lat W2 wx)
  case first =>
    have hnn : w.heap.size ∉ ([] : List Nat) := by simp
    have b0 := k2.evS hnn 0 rfl
    have b1 := k2.evS hnn 1 rfl
    have b2 := k2.evS hnn 2 rfl
    have b3 := k2.evS hnn 3 rfl
    have L0 := Lat.drew W2
    have M0 := L0.s ([] : List Nat)
    obtain ⟨kk, hkk⟩ : ∃ kk, me.tmod 5 = kk := ⟨_, rfl⟩
    obtain ⟨mm, hmm0, hmm1, hix⟩ := idx61 (k := kk) (by rw [← hkk, Int.tmod_eq_emod_of_nonneg a0]; omega) (by rw [← hkk, Int.tmod_eq_emod_of_nonneg a0]; omega)
    go_region_held3 (fun w' => LatS W2 ([] : List Nat) w') (first | (with_reducible assumption) | ((repeat refine LatS.set ?_ (by simp) _); (with_reducible assumption)))
      (first
        | (go_at_call 16; (with_reducible refine (HX _ ?_).mono ?_); (first | exact LM | exact L0); rintro e wc ⟨Ac, cc, rfl, q1, q2, q3, q4⟩; (first | have LC := LM.trans q3 | have LC := L0.trans q3); have MC := LC.s ([] : List Nat))
        | (go_at_call 26; (with_reducible refine (methods_any _).mono ?_); rintro e wn ⟨rfl, s3⟩; (first | have LN := LC.trans s3 | have LN := L0.trans s3); have MN := LN.s ([] : List Nat))
        | (go_at_call 19; (with_reducible refine (HH'.out _).mono ?_); rintro e wm ⟨rfl, r3⟩; (first | have LM := LN.trans r3 | have LM := L0.trans r3); have MM := LM.s ([] : List Nat)))
    all_goals
      go_wp2_with fail
      go_meet
      exact ⟨Ac, cc, _, rfl, rfl, rfl, (q1.later s3).later r3, hmm0, hmm1, LM⟩
  case rest =>
    obtain ⟨Ac, cc, m, rfl, rfl, rfl, q1, m0, m1, l3⟩ := hcut
    have L3 := L2.trans l3
    obtain ⟨t, ht⟩ : ∃ t, min h 60 = t := ⟨_, rfl⟩
    have t0 : 1 ≤ t := by omega
    have t1 : t ≤ 60 := by omega
    rw [ht]
    have hF := fromNil (m := m) HCS.out (show 0 ≤ t by omega)
    have hG := fromNil (m := m) HCS.out (show 0 ≤ t + 1 by omega)
    have hGr := growsOk (m := m) HCS.out (show 0 ≤ t by omega)
    have F1 := fun w (h : Sl w .i64 Ac C.length C) => dGive_any Ac C.length cc C none 0 0 [] t m w h (Sl.nil _ _ _) (by omega) (by omega)
    have F2 := fun w (h : Sl w .i64 Ac C.length C) => dGive_any Ac C.length cc C none 0 0 [] (t + 1) m w h (Sl.nil _ _ _) (by omega) (by omega)
    have F3 := fun w (h : Sl w .i64 Ac C.length C) => dOrderC_any Ac C.length cc C none 0 0 [] t m w h (Sl.nil _ _ _) (by omega) (by omega)
    have F4 := fun w (h : Sl w .i64 Ac C.length C) => dOrderC_any Ac C.length cc C none 0 0 [] (t + 1) m w h (Sl.nil _ _ _) (by omega) (by omega)
    rw [giveE_ok HCS.out t0 (by omega) m0 m1, giveF_eq HCS.out t0 (by omega) m0 m1] at F1 F3
    rw [giveE_ok HCS.out (show 1 ≤ t + 1 by omega) (by omega) m0 m1, giveF_eq HCS.out (show 1 ≤ t + 1 by omega) (by omega) m0 m1] at F2 F4
    obtain ⟨F, hFF⟩ : ∃ F, awardOf (cmpR m) C (List.replicate C.length 0) t = F := ⟨_, rfl⟩
    obtain ⟨G, hGG⟩ : ∃ G, awardOf (cmpR m) C (List.replicate C.length 0) (t + 1) = G := ⟨_, rfl⟩
    rw [hFF] at F1 F3 hF hGr
    rw [hGG] at F2 F4 hG hGr
    have HF := Lib.hid hF
    have HG := Lib.hid hG
    have HGR := Lib.hid hGr
    clear hFF hGG ht hF hG hGr HX k2 l3 hp2 L2 HC' HH' hh0 hh1
    go_wp2_with fail
    refine (F1 wc q1).mono ?_
    rintro e v1 ⟨A1, n1, c1, A2, n2, c2, rfl, f1, f2, x1⟩
    obtain rfl : n1 = C.length := by have := f1.1; have := HF.out.len; omega
    have y1 := L3.trans x1
    have q1 := q1.later x1
    clear F1 f2 x1 L3
    go_wp2_with fail
    refine name1 (Q := fun W => Calls _ _ _ W _) ?_
    intro v2 x2 hs2 kb1
    have q1 := q1.later x2
    refine (F2 v2 q1).mono ?_
    rintro e v3 ⟨A3, n3, c3, A4, n4, c4, rfl, f3, f4, x3⟩
    obtain rfl : n3 = C.length := by have := f3.1; have := HG.out.len; omega
    have y3 := (y1.trans x2).trans x3
    have kb1 := kb1.later x3
    have f1 := (f1.later x2).later x3
    have q1 := q1.later x3
    clear F2 f4 x2 x3 y1 hs2
    go_wp2_with fail
    refine name1 (Q := fun W => Calls _ _ _ W _) ?_
    intro v4 x4 hs4 kb2
    have q1 := q1.later x4
    refine (F3 v4 q1).mono ?_
    rintro e v5 ⟨A5, n5, c5, rfl, f5, hc5, x5⟩
    have y5 := (y3.trans x4).trans x5
    have kb1 := (kb1.later x4).later x5
    have kb2 := kb2.later x5
    have f1 := (f1.later x4).later x5
    have f3 := (f3.later x4).later x5
    have q1 := q1.later x5
    clear F3 x4 x5 y3 hs4
    go_wp2_with fail
    refine (F4 v5 q1).mono ?_
    rintro e v6 ⟨A6, n6, c6, rfl, f6, hc6, x6⟩
    have y6 := y5.trans x6
    have kb1 := kb1.later x6
    have kb2 := kb2.later x6
    have f1 := f1.later x6
    have f3 := f3.later x6
    have f5 := f5.later x6
    clear F4 x6 y5 q1
    have hn5 : n5 = F.order.length := by have := f5.1; simpa [ints] using this.symm
    have hn6 : n6 = G.order.length := by have := f6.1; simpa [ints] using this.symm
    have hpr := HGR.out.pre
    have hn56 : n5 ≤ n6 := by
      obtain ⟨r, hr⟩ := hpr
      rw [hn5, hn6, hr, List.length_append]; omega
    have hn56' : ¬ (n6 : Int) < (n5 : Int) := by omega
    have hn5c : n5 ≤ c6 := by omega
    have hob : n5 ≤ 60 := by
      have := HF.out.ord
      have := HF.out.left
      omega
    have HE := equal_any A5 n5 c5 (ints F.order) A6 n5 c6 ((ints G.order).take n5) v6 f5 (f6.take hn56) (by omega) (by omega)
    have heq : (ints F.order == (ints G.order).take n5) = true := by
      obtain ⟨r, hr⟩ := hpr
      rw [beq_iff_eq, hr, hn5]
      simp [ints]
    rw [heq] at HE
    have HN5 := Lib.hid hn5
    clear hn5 hn6 hpr heq f6
    have d1_0 := kb1.cell 0
    have d1_1 := kb1.cell 1
    have d1_2 := kb1.cell 2
    have d2_0 := kb2.cell 0
    have d2_1 := kb2.cell 1
    have d2_2 := kb2.cell 2
    go_wp2_with fail
    refine HE.mono ?_
    rintro e v7 ⟨rfl, x7⟩
    have y7 := y6.trans x7
    have kb1 := kb1.later x7
    have kb2 := kb2.later x7
    have f1 := f1.later x7
    have f3 := f3.later x7
    have f5 := f5.later x7
    clear HE x7 y6 d1_0 d1_1 d1_2 d2_0 d2_1 d2_2
    have d1_0 := kb1.cell 0
    have d1_1 := kb1.cell 1
    have d1_2 := kb1.cell 2
    have d2_0 := kb2.cell 0
    have d2_1 := kb2.cell 1
    have d2_2 := kb2.cell 2
    have HFl := Lib.hid HF.out.left
    have hFl := HF.out.left
    have hFl2 : F.left ≤ 60 := by
      have := HF.out.sum
      have := sum_nonneg HF.out.pos
      omega
    go_wp2
    go_loop [16, 114] (fun sm i => ∃ k : Nat, k ≤ C.length ∧ i = .int .i64 k ∧ sm = .int .i64 (F.left + (F.seats.take k).sum)) (fun _ i => C.length - (intOf i).toNat)
    case atStart => exact ⟨0, by omega, rfl, by simp⟩
    case round =>
      obtain ⟨k, hk, rfl, rfl⟩ := hrel
      have hts := take_sum_le HF.out.pos k
      have htot := HF.out.sum
      by_cases hlt : k < C.length
      · obtain ⟨a, x, rfl, ha, hxk, hcx⟩ := f1.at hlt
        obtain ⟨b, y, rfl, hb, hyk, hcy⟩ := f3.at hlt
        have hle := HGR.out.le k
        rw [atI_of hxk, atI_of hyk] at hle
        have hle' : ¬ y < x := by omega
        have HT := Lib.hid (take_sum_succ hxk)
        have hts2 := take_sum_le HF.out.pos (k + 1)
        have hx0 := HF.out.pos x (List.mem_of_getElem? hxk)
        have hx1 : x ≤ 60 := by have := HT.out; omega
        have hlt' : (k : Int) < C.length := by omega
        obtain ⟨z, hz⟩ : ∃ z, (F.seats.take k).sum = z := ⟨_, rfl⟩
        rw [hz] at hts ⊢
        have HZ := Lib.hid hz
        have z0 := hts.1
        have z1 : z ≤ 60 := by omega
        clear hxk hyk hts hts2 hz htot
        go_wp2
        go_round
        case rel => exact ⟨k + 1, by omega, by go_num, by rw [HT.out, HZ.out, Int.add_assoc]⟩
        case measure => simp [intOf]; omega
      · obtain rfl : C.length = k := by omega
        have hsum : Hid (F.left + (F.seats.take C.length).sum = t) := by
          show _ = _
          rw [List.take_of_length_le (by rw [HF.out.len]; exact Nat.le_refl _)]; omega
        rw [hsum.out]
        have hmk := run_make_nums (P := Tryz.prog) (t := 44) (e := 3) (k := .i64) (by_ := 8) Tryz.underlying44 (by kernel_rfl) (C.length : Int) C.length rfl (by omega) (by omega)
        clear hts htot hlt hk d2_0 d2_1 d2_2 kb2 f3
        have f1' := f1
        have f5' := f5
        have kb1' := kb1
        have hwl := y7.size
        go_upto_region 19 with (fail)
        refine name1 (Q := fun W => Code.wp _ _ _ _ W) ?_
        intro v8 x8 hs8 kc
        have kb1 := kb1.later x8
        have f1 := f1.later x8
        have f5 := f5.later x8
        have y8 := y7.trans x8
        have hf1 : ∀ a, A1 = some a → a.block ≠ v7.heap.size := fun a e => by
          obtain ⟨a', e', hlt', _⟩ := f1'.2 hc0
          rw [e] at e'; cases e'; omega
        have hf5 : 0 < n5 → ∀ a, A5 = some a → a.block ≠ v7.heap.size := fun hn a e => by
          obtain ⟨a', e', hlt', _⟩ := f5'.2 hn
          rw [e] at e'; cases e'; omega
        have hkb := kb1'.lt
        have hrow : RowN v8 v7.heap.size C.length (List.replicate C.length 0) := ⟨_, kc, by simp [nums], by simp, by simp [nums]⟩
        clear x8 y7 kc hmk f1' f5' d1_0 d1_1 d1_2
        obtain ⟨gc, hgc⟩ : ∃ gc, v7.heap.size = gc := ⟨_, rfl⟩
        rw [hgc] at hf1 hf5 hrow hs8 hkb hwl ⊢
        clear hgc
        go_wp2
        go_loopw [135] (fun i wr => ∃ k : Nat, k ≤ n5 ∧ i = .int .i64 k ∧ RowN wr gc C.length (bump (List.replicate C.length 0) (F.order.take k)) ∧ LatP (· = gc) v8 wr) (fun i _ => n5 - (intOf i).toNat)
        case atStart => exact ⟨0, by omega, rfl, by simpa [bump] using hrow, LatP.refl _ _⟩
        case round =>
          obtain ⟨k, hk, rfl, hrow2, hlr⟩ := hrel
          have hlen := HF.out.len
          by_cases hlt : k < n5
          · obtain ⟨a, x0, rfl, ha, hxk, hcx⟩ := f5.at hlt
            obtain ⟨x, hx⟩ : ∃ x, F.order[k]? = some x := ⟨_, List.getElem?_eq_getElem (by have := HN5.out; omega)⟩
            obtain rfl : (x : Int) = x0 := by simpa [ints, hx] using hxk
            have hxn := HF.out.mem x (List.mem_of_getElem? hx)
            have HB := Lib.hid (bump_take (S := List.replicate C.length 0) hx)
            have hpos := bump_nonneg (F.order.take k) (S := List.replicate C.length 0) (fun x hx => by rw [List.mem_replicate] at hx; omega)
            have hbl := bump_length (F.order.take k) (List.replicate C.length 0)
            rw [List.length_replicate] at hbl
            have hbs := bump_sum (S := List.replicate C.length 0) (l := F.order.take k) (fun j hj => by rw [List.length_replicate]; exact HF.out.mem j (List.mem_of_mem_take hj))
            have hz := sum_zeros C.length
            have htl : (F.order.take k).length ≤ k := List.length_take_le _ _
            have hat := atI_sum_le hpos x
            obtain ⟨q, hq⟩ : ∃ q, atI (bump (List.replicate C.length 0) (F.order.take k)) x = q := ⟨_, rfl⟩
            rw [hq] at hat HB
            have hq0 := hat.1
            have hq1 : q ≤ 60 := by omega
            have e0 : wr.cell? (a.add k) = some (.int .i64 (x : Int)) := hlr.cell_at (by rw [block_add]; exact ha) (by rw [block_add]; exact hf5 (by omega) a rfl) hcx
            have hxl : x < (bump (List.replicate C.length 0) (F.order.take k)).length := by omega
            have e1 : wr.cell? ⟨gc, x, none⟩ = some (.int .i64 q) := hrow2.cell (by
              rw [← hq, atI, List.getElem?_eq_getElem hxl]; rfl)
            obtain ⟨cur, hcur, _⟩ := id hrow2
            have e2 := hcur.frozen x
            have hxn' : (x : Int) < C.length := by omega
            have hxn2 : ¬ (C.length : Int) ≤ (x : Int) := by omega
            have hlt' : (k : Int) < n5 := by omega
            have hrow3 := hrow2.set hxl (q + 1)
            clear hx hxk hpos hbl hbs hz htl hat hq hcur hrow2 hlen
            go_wp2
            go_roundw
            case rel => exact ⟨k + 1, by omega, by go_num, by rw [HB.out]; exact hrow3, hlr.trans (setP _ _ _ _)⟩
            case measure => simp [intOf]; omega
          · obtain rfl : n5 = k := by omega
            have hcnt := HF.out.cnt
            rw [List.take_of_length_le (by have := HN5.out; omega), hcnt] at hrow2
            have kb := kb1.keepP hlr (by omega)
            have f1r := f1.kept (w := wr) hlr.size (fun a e => by
              obtain ⟨a', e', hlt', _⟩ := f1.2 hc0
              rw [e] at e'; cases e'
              exact hlr.block _ hlt' (hf1 a e))
            have LW : Lat w wr := hlr.lat y8 (fun k h => by have h' : k = gc := h; omega)
            have HE := equal_any (some ⟨gc, 0, none⟩) C.length C.length F.seats A1 C.length c1 F.seats wr hrow2.sl f1r (by omega) (by omega)
            rw [show (F.seats == F.seats) = true from beq_self_eq_true _] at HE
            have hord : (n5 : Int) = t - F.left := by have := HF.out.ord; have := HN5.out; omega
            have d1_0 := kb.cell 0
            have d1_1 := kb.cell 1
            have d1_2 := kb.cell 2
            clear hrow2 hcnt hlen hlt hk
            go_wp2_with fail
            refine HE.mono ?_
            rintro e v9 ⟨rfl, x9⟩
            have kb := kb.later x9
            clear d1_0 d1_1 d1_2 HE
            have d1_0 := kb.cell 0
            have d1_1 := kb.cell 1
            have d1_2 := kb.cell 2
            go_wp2
            go_ret
            exact ⟨rfl, LW.trans x9⟩
end Go.Proofs.YtebbhhdnjflmcaaGreat
