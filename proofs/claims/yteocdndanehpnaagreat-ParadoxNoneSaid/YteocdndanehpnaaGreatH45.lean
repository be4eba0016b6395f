/- Several texts in one: PlainA, PlainB, PxP. -/
import Derived.Test.YteocdndanehpnaaGreatH16
import Derived.Test.YteocdndanehpnaaGreatH23
namespace Go.Proofs.YteocdndanehpnaaGreat
section
variable {f : Int → Int → Int → Int → Int} {P : List Int} {C : List Nat}
theorem bump_append (S : List Int) (l r : List Nat) : bump S (l ++ r) = bump (bump S l) r := by simp [bump]
theorem award_ext : ∀ (k : Nat) (S : List Int) (left : Int) (o : List Nat), (∃ r, (award f P C k S left o).order = o ++ r) ∧ ∀ i, atI S i ≤ atI (award f P C k S left o).seats i := by
 intro k
 induction k with
 | zero => exact fun S left o => ⟨⟨[], by simp [award]⟩, fun i => by simp [award]⟩
 | succ k ih =>
   intro S left o
   unfold award
   split
   ·exact ⟨⟨[], by simp⟩, fun i => Int.le_refl _⟩
   ·split
    ·exact ⟨⟨[], by simp⟩, fun i => Int.le_refl _⟩
    ·obtain ⟨⟨r, hr⟩, h2⟩ := ih (bump S (bestL (vs f P S) C)) (left - (bestL (vs f P S) C).length) (o ++ bestL (vs f P S) C)
     exact ⟨⟨_, by rw [hr, List.append_assoc]⟩, fun i => Int.le_trans (bump_le i) (h2 i)⟩
theorem award_grow (hC : C ≠ []) : ∀ (k : Nat) (S : List Int) (left : Int) (o : List Nat), 0 ≤ left → left ≤ k →
  (∃ r, (award f P C (k + 1) S (left + 1) o).order = (award f P C k S left o).order ++ r) ∧ ∀ i, atI (award f P C k S left o).seats i ≤ atI (award f P C (k + 1) S (left + 1) o).seats i := by
 intro k
 induction k with
 | zero =>
   intro S left o h0 h1
   have := award_ext (f := f) (P := P) (C := C) 1 S (left + 1) o
   simpa [award] using this
 | succ k ih =>
   intro S left o h0 h1
   rcases Int.lt_or_eq_of_le h0 with hp | hz
   ·by_cases ht : left < (bestL (vs f P S) C).length
    ·rw [award_tie hp (by omega) ht]
     exact award_ext (k + 1 + 1) S (left + 1) o
    ·have hb := List.length_pos_iff.2 (bestL_ne (c := vs f P S) hC)
     rw [award_step hp ht, award_step (k := k + 1) (by omega) (by omega)]
     have e : left + 1 - ((bestL (vs f P S) C).length : Int) = (left - (bestL (vs f P S) C).length) + 1 := by omega
     rw [e]
     exact ih _ _ _ (by omega) (by omega)
   ·subst hz
    rw [award_done (Int.le_refl _)]
    exact award_ext (k + 1 + 1) S (0 + 1) o
structure Adds (A : Aw) (Z : List Int) (s : Int) (C : List Nat) : Prop where
 seats : A.seats = bump Z A.order
 sum : A.seats.sum + A.left = s
 ord : (A.order.length : Int) + A.left + Z.sum = s
 left : 0 ≤ A.left
 mem : ∀ i ∈ A.order, i ∈ C
 tied : ∀ i ∈ A.tied, i ∈ C
theorem award_adds {Z : List Int} {s : Int} (hC : C ≠ []) (hl : ∀ i ∈ C, i < Z.length) : ∀ (k : Nat) (S : List Int) (left : Int) (o : List Nat), 0 ≤ left → left ≤ k → S = bump Z o → S.sum + left = s → (o.length : Int) + left + Z.sum = s → (∀ i ∈ o, i ∈ C) →
  Adds (award f P C k S left o) Z s C := by
 intro k
 induction k with
 | zero =>
   intro S left o h0 h1 h2 h3 h4 h5
   have : left = 0 := by omega
   subst this
   exact ⟨h2, h3, h4, Int.le_refl _, h5, fun i h => by simp [award] at h⟩
 | succ k ih =>
   intro S left o h0 h1 h2 h3 h4 h5
   rcases Int.lt_or_eq_of_le h0 with hp | hz
   ·by_cases ht : left < (bestL (vs f P S) C).length
    ·rw [award_tie hp (by omega) ht]
     exact ⟨h2, h3, h4, h0, h5, fun i h => (bestL_sub _ _).subset h⟩
    ·have hb := List.length_pos_iff.2 (bestL_ne (c := vs f P S) hC)
     rw [award_step hp ht]
     have hsl : S.length = Z.length := by rw [h2, bump_length]
     have hbs : (bump S (bestL (vs f P S) C)).sum = S.sum + (bestL (vs f P S) C).length := bump_sum (fun j hj => by rw [hsl]; exact hl j ((bestL_sub _ _).subset hj))
     refine ih _ _ _ (by omega) (by omega) ?_ (by rw [hbs]; omega) (by rw [List.length_append]; omega) ?_
     ·rw [bump_append, ← h2]
     ·intro i hi
      rcases List.mem_append.1 hi with h | h
      ·exact h5 i h
      ·exact (bestL_sub _ _).subset h
   ·subst hz
    rw [award_done (Int.le_refl _)]
    exact ⟨h2, h3, h4, Int.le_refl _, h5, fun i h => by simp at h⟩
theorem awardOf_adds {Z : List Int} {left : Int} (hC : full P ≠ []) (hz : Z.length = P.length) (h0 : 0 ≤ left) : Adds (awardOf f P Z left) Z (Z.sum + left) (full P) :=
 award_adds hC (fun i hi => by rw [hz]; exact (mem_full.1 hi).1) left.toNat Z left [] h0 (by omega) rfl rfl (by simp; omega) (fun i h => by cases h)
theorem awardOf_grow {Z : List Int} {left : Int} (hC : full P ≠ []) (h0 : 0 ≤ left) :
  (∃ r, (awardOf f P Z (left + 1)).order = (awardOf f P Z left).order ++ r) ∧ ∀ i, atI (awardOf f P Z left).seats i ≤ atI (awardOf f P Z (left + 1)).seats i := by
 have h := award_grow (f := f) (P := P) hC left.toNat Z left [] h0 (by omega)
 have e : (left + 1).toNat = left.toNat + 1 := by omega
 unfold awardOf
 rw [e]
 exact h
end
end Go.Proofs.YteocdndanehpnaaGreat
namespace Go.Proofs.YteocdndanehpnaaGreat
structure RankF (f : Int → Int → Int → Int → Int) : Prop where
 anti : ∀ p s q t, f q t p s = - f p s q t
 trans : ∀ p s q t r u, 1 ≤ p → 0 ≤ s → 1 ≤ q → 0 ≤ t → 1 ≤ r → 0 ≤ u → 0 ≤ f p s q t → 0 ≤ f q t r u → 0 ≤ f p s r u
 mono : ∀ p s, 1 ≤ p → 0 ≤ s → 0 ≤ f p s p (s + 1)
theorem sideOf_neg (x : Int) : sideOf (-x) = - sideOf x := by
 rcases Int.lt_trichotomy x 0 with h | h | h
 ·have h1 : ¬ -x < 0 := by omega
  have h2 : ¬ -x = 0 := by omega
  simp [sideOf, h, h2]; omega
 ·subst h; rfl
 ·have h1 : -x < 0 := by omega
  have h2 : ¬ x < 0 := by omega
  have h3 : ¬ x = 0 := by omega
  simp [sideOf, h2, h3]; omega
theorem sideOf_nonneg {x : Int} : 0 ≤ sideOf x ↔ 0 ≤ x := by unfold sideOf; split <;> try split
                                                             all_goals omega
theorem postN_nonneg (m : Int) {s : Int} (h : 0 ≤ s) : 0 ≤ postN m s := by
 have h1 := Int.mul_nonneg h (show 0 ≤ s + 1 by omega)
 have e : 2 * s * (s + 1) = 2 * (s * (s + 1)) := by rw [Int.mul_assoc]
 unfold postN
 split
 ·exact h
 ·split
  ·omega
  ·split
   ·exact h1
   ·split <;> omega
theorem postD_pos (m : Int) {s : Int} (h : 0 ≤ s) : 1 ≤ postD m s := by
 unfold postD
 split
 ·omega
 ·split <;> omega
theorem topOf_pos (m : Int) {p : Int} (h : 1 ≤ p) : 1 ≤ topOf m p := by
 unfold topOf
 split
 ·have := Int.mul_le_mul h h (by omega) (by omega); omega
 ·exact h
theorem cross_trans {a b c n1 n2 n3 : Int} (h1 : 0 < n1) (h2 : 0 < n2) (h3 : 0 < n3) (x : 0 ≤ a * n2 - b * n1) (y : 0 ≤ b * n3 - c * n2) : 0 ≤ a * n3 - c * n1 := by
 have e : n2 * (a * n3 - c * n1) = n3 * (a * n2 - b * n1) + n1 * (b * n3 - c * n2) := by grind
 have k1 := Int.mul_nonneg (Int.le_of_lt h3) x
 have k2 := Int.mul_nonneg (Int.le_of_lt h1) y
 rcases Int.lt_or_le (a * n3 - c * n1) 0 with h | h
 ·have := Int.mul_neg_of_pos_of_neg h2 h
  omega
 ·exact h
theorem post_mono (m : Int) {s : Int} (h : 0 ≤ s) : 0 ≤ postD m s * postN m (s + 1) - postD m (s + 1) * postN m s := by
 have h2 := Int.mul_nonneg h h
 unfold postD postN
 by_cases h11 : m = 11
 ·subst h11; simp; omega
 ·by_cases h12 : m = 12
  ·subst h12
   simp
   have e : (2 * s + 1) * (2 * (s + 1) * (s + 1 + 1)) - (2 * (s + 1) + 1) * (2 * s * (s + 1)) = 4 * (s * s) + 8 * s + 4 := by grind
   omega
  ·by_cases h13 : m = 13
   ·subst h13
    simp
    have e : (s + 1) * (s + 1 + 1) - s * (s + 1) = 2 * s + 2 := by grind
    omega
   ·by_cases h14 : m = 14
    ·subst h14; simp; omega
    ·simp [h11, h12, h13, h14]; omega
theorem cmpR_rank (m : Int) : RankF (cmpR m) where
 anti := by
  intro p s q t
  unfold cmpR
  by_cases h1 : postN m s = 0 <;> by_cases h2 : postN m t = 0
  ·simp only [h1, h2, if_true]
   rw [show q - p = -(p - q) by omega, sideOf_neg]
  ·simp [h1, h2]
  ·simp [h1, h2]
  ·simp only [h1, h2, if_false]
   rw [← sideOf_neg]
   congr 1
   omega
 trans := by
  intro p s q t r u p1 s0 q1 t0 r1 u0
  have n1 := postN_nonneg m s0
  have n2 := postN_nonneg m t0
  have n3 := postN_nonneg m u0
  unfold cmpR
  by_cases h1 : postN m s = 0 <;> by_cases h2 : postN m t = 0 <;> by_cases h3 : postN m u = 0
  ·simp only [h1, h2, h3, if_true, sideOf_nonneg]; omega
  ·simp [h1, h3]
  ·simp [h1, h2, h3]
  ·simp [h1, h3]
  ·simp [h1, h2]
  ·simp [h1, h2]
  ·simp [h2, h3]
  ·simp only [h1, h2, h3, if_false, sideOf_nonneg]
   exact cross_trans (by omega) (by omega) (by omega)
 mono := by
  intro p s p1 s0
  have n1 := postN_nonneg m s0
  have n2 := postN_nonneg m (show 0 ≤ s + 1 by omega)
  have hm := post_mono m s0
  have d2 := postD_pos m (show 0 ≤ s + 1 by omega)
  have d1 := postD_pos m s0
  have tp := topOf_pos m p1
  unfold cmpR
  by_cases h1 : postN m s = 0 <;> by_cases h2 : postN m (s + 1) = 0
  ·simp [h1, h2, sideOf]
  ·simp [h1, h2]
  ·exfalso
   rw [h2] at hm
   have : 0 < postD m (s + 1) * postN m s := Int.mul_pos (by omega) (by omega)
   omega
  ·simp only [h1, h2, if_false, sideOf_nonneg]
   have e : topOf m p * postD m s * postN m (s + 1) - topOf m p * postD m (s + 1) * postN m s = topOf m p * (postD m s * postN m (s + 1) - postD m (s + 1) * postN m s) := by grind
   rw [e]
   exact Int.mul_nonneg (by omega) hm
structure Pre (c : Nat → Nat → Int) (l : List Nat) : Prop where
 anti : ∀ x y, c y x = - c x y
 trans : ∀ x y z, x ∈ l → y ∈ l → z ∈ l → 0 ≤ c x y → 0 ≤ c y z → 0 ≤ c x z
theorem snoc_ind {motive : List Nat → Prop} (h0 : motive []) (h1 : ∀ l x, motive l → motive (l ++ [x])) (l : List Nat) : motive l := by
 have : ∀ n (l : List Nat), l.length = n → motive l := by
  intro n
  induction n with
  | zero => intro l h; rw [List.eq_nil_of_length_eq_zero h]; exact h0
  | succ n ih =>
    intro l h
    have hne : l ≠ [] := by intro e; rw [e] at h; cases h
    rw [← List.dropLast_concat_getLast hne]
    exact h1 _ _ (ih _ (by rw [List.length_dropLast, h]; rfl))
 exact this _ l rfl
theorem best_mem {c : Nat → Nat → Int} (l : List Nat) (h : Pre c l) : ∀ y, y ∈ bestL c l ↔ y ∈ l ∧ ∀ z ∈ l, 0 ≤ c y z := by
 induction l using snoc_ind with
 | h0 => intro y; simp [bestL]
 | h1 l x ih =>
   have ih' := ih ⟨h.anti, fun a b d ha hb hd => h.trans a b d (by simp [ha]) (by simp [hb]) (by simp [hd])⟩
   have hxx : c x x = 0 := by have := h.anti x x; omega
   intro y
   rw [bestL_snoc]
   cases hb : bestL c l with
   | nil =>
     have hl : l = [] := by
      cases l with
      | nil => rfl
      | cons a r => exact absurd hb (bestL_ne (by simp))
     subst hl
     simp only [pick, List.mem_singleton, List.nil_append]
     constructor
     ·rintro rfl
      exact ⟨rfl, fun z hz => by rw [hz, hxx]; exact Int.le_refl _⟩
     ·exact fun h => h.1
   | cons y0 r =>
     have hy0 := (ih' y0).1 (by rw [hb]; simp)
     have h0l : y0 ∈ l ++ [x] := by simp [hy0.1]
     have hxl : x ∈ l ++ [x] := by simp
     have axy := h.anti x y0
     simp only [pick]
     split
     ·rename_i hp
      rw [List.mem_singleton]
      constructor
      ·rintro rfl
       refine ⟨by simp, fun z hz => ?_⟩
       rcases List.mem_append.1 hz with hz' | hz'
       ·exact h.trans y y0 z hxl h0l hz (by omega) (hy0.2 z hz')
       ·rw [List.mem_singleton] at hz'; rw [hz', hxx]; exact Int.le_refl _
      ·rintro ⟨hy, ht⟩
       rcases List.mem_append.1 hy with hy' | hy'
       ·have h1 := ht x hxl
        have h2 := hy0.2 y hy'
        have := h.trans y0 y x h0l hy hxl h2 h1
        omega
       ·simpa using hy'
     ·rename_i hp
      have old : ∀ b, b ∈ bestL c l → c x y0 ≤ 0 → b ∈ l ++ [x] ∧ ∀ z ∈ l ++ [x], 0 ≤ c b z := by
       intro b hbm hle
       obtain ⟨b1, b2⟩ := (ih' b).1 hbm
       refine ⟨by simp [b1], fun z hz => ?_⟩
       rcases List.mem_append.1 hz with hz' | hz'
       ·exact b2 z hz'
       ·rw [List.mem_singleton] at hz'
        subst hz'
        exact h.trans b y0 z (by simp [b1]) h0l hxl (b2 y0 hy0.1) (by omega)
      have back : ∀ y, y ∈ l → (∀ z ∈ l ++ [x], 0 ≤ c y z) → y ∈ y0 :: r := by
       intro y hy ht
       rw [← hb]
       exact (ih' y).2 ⟨hy, fun z hz => ht z (by simp [hz])⟩
      split
      ·rename_i hn
       constructor
       ·intro hy
        exact old y (by rw [hb]; exact hy) (by omega)
       ·rintro ⟨hy, ht⟩
        rcases List.mem_append.1 hy with hy' | hy'
        ·exact back y hy' ht
        ·rw [List.mem_singleton] at hy'
         subst hy'
         have := ht y0 h0l
         omega
      ·rename_i hn
       have hz0 : c x y0 = 0 := by omega
       rw [List.mem_append, List.mem_singleton]
       constructor
       ·rintro (hy | rfl)
        ·exact old y (by rw [hb]; exact hy) (by omega)
        ·refine ⟨by simp, fun z hz => ?_⟩
         rcases List.mem_append.1 hz with hz' | hz'
         ·exact h.trans y y0 z hxl h0l hz (by omega) (hy0.2 z hz')
         ·rw [List.mem_singleton] at hz'; rw [hz', hxx]; exact Int.le_refl _
       ·rintro ⟨hy, ht⟩
        rcases List.mem_append.1 hy with hy' | hy'
        ·exact .inl (back y hy' ht)
        ·right; simpa using hy'
def LastOk (f : Int → Int → Int → Int → Int) (P : List Int) (C : List Nat) (S : List Int) : Prop := ∀ i ∈ C, 1 ≤ atI S i → ∀ j ∈ C, 0 ≤ f (atI P i) (atI S i - 1) (atI P j) (atI S j)
theorem vs_pre {f : Int → Int → Int → Int → Int} (hf : RankF f) {P S : List Int} {C : List Nat} (hP : ∀ i ∈ C, 1 ≤ atI P i) (hS : ∀ i, 0 ≤ atI S i) : Pre (vs f P S) C where
 anti := fun _ _ => hf.anti _ _ _ _
 trans := fun x y z hx hy hz => hf.trans _ _ _ _ _ _ (hP x hx) (hS x) (hP y hy) (hS y) (hP z hz) (hS z)
theorem last_step {f : Int → Int → Int → Int → Int} (hf : RankF f) {P S : List Int} {C : List Nat} (hP : ∀ i ∈ C, 1 ≤ atI P i) (hS : ∀ i, 0 ≤ atI S i) (hl : ∀ i ∈ C, i < S.length) (hd : C.Nodup) (h : LastOk f P C S) : LastOk f P C (bump S (bestL (vs f P S) C)) := by
 have hpre := vs_pre hf hP hS
 have hsub := bestL_sub (vs f P S) C
 have hnod := hd.sublist hsub
 have down : ∀ j ∈ C, 0 ≤ f (atI P j) (atI S j) (atI P j) (atI (bump S (bestL (vs f P S) C)) j) := by
  intro j hj
  by_cases hm : j ∈ bestL (vs f P S) C
  ·rw [bump_mem hnod hm (hl j hj)]
   exact hf.mono _ _ (hP j hj) (hS j)
  ·rw [bump_other hm]
   have := hf.anti (atI P j) (atI S j) (atI P j) (atI S j)
   omega
 have hS' : ∀ i, 0 ≤ atI (bump S (bestL (vs f P S) C)) i := fun i => Int.le_trans (hS i) (bump_le i)
 intro i hi h1 j hj
 by_cases hm : i ∈ bestL (vs f P S) C
 ·have e := bump_mem hnod hm (hl i hi)
  rw [e]
  have e2 : atI S i + 1 - 1 = atI S i := by omega
  rw [e2]
  have := ((best_mem C hpre i).1 hm).2 j hj
  exact hf.trans _ _ _ _ _ _ (hP i hi) (hS i) (hP j hj) (hS j) (hP j hj) (hS' j) this (down j hj)
 ·have e := bump_other (S := S) hm
  rw [e] at h1 ⊢
  exact hf.trans _ _ _ _ _ _ (hP i hi) (by omega) (hP j hj) (hS j) (hP j hj) (hS' j) (h i hi h1 j hj) (down j hj)
theorem award_last {f : Int → Int → Int → Int → Int} (hf : RankF f) {P : List Int} {C : List Nat} (hP : ∀ i ∈ C, 1 ≤ atI P i) (hd : C.Nodup) : ∀ (k : Nat) (S : List Int) (left : Int) (o : List Nat), (∀ i, 0 ≤ atI S i) → (∀ i ∈ C, i < S.length) → LastOk f P C S →
  LastOk f P C (award f P C k S left o).seats ∧ (∀ t ∈ (award f P C k S left o).tied, ∀ u ∈ (award f P C k S left o).tied, f (atI P t) (atI (award f P C k S left o).seats t) (atI P u) (atI (award f P C k S left o).seats u) = 0) ∧ ∀ i, 0 ≤ atI (award f P C k S left o).seats i := by
 intro k
 induction k with
 | zero => exact fun S left o h0 _ h => ⟨h, fun t ht => by simp [award] at ht, h0⟩
 | succ k ih =>
   intro S left o h0 hl h
   unfold award
   split
   ·exact ⟨h, fun t ht => by simp at ht, h0⟩
   ·split
    ·refine ⟨h, fun t ht u hu => ?_, h0⟩
     have hpre := vs_pre hf hP h0
     have a := (best_mem C hpre t).1 ht
     have b := (best_mem C hpre u).1 hu
     have x := a.2 u b.1
     have y := b.2 t a.1
     have z := hf.anti (atI P t) (atI S t) (atI P u) (atI S u)
     unfold vs at x y
     show f (atI P t) (atI S t) (atI P u) (atI S u) = 0
     omega
    ·exact ih _ _ _ (fun i => Int.le_trans (h0 i) (bump_le i)) (fun i hi => by rw [bump_length]; exact hl i hi) (last_step hf hP h0 hl hd h)
end Go.Proofs.YteocdndanehpnaaGreat
namespace Go.Proofs.YteocdndanehpnaaGreat
theorem sideOf_pos {x : Int} : 0 < sideOf x ↔ 0 < x := by unfold sideOf; split <;> try split
                                                          all_goals omega
theorem post_strict (m : Int) {s : Int} (h : 0 ≤ s) : 0 < postD m s * postN m (s + 1) - postD m (s + 1) * postN m s := by
 have h2 := Int.mul_nonneg h h
 unfold postD postN
 by_cases h11 : m = 11
 ·subst h11; simp; omega
 ·by_cases h12 : m = 12
  ·subst h12
   simp
   have e : (2 * s + 1) * (2 * (s + 1) * (s + 1 + 1)) - (2 * (s + 1) + 1) * (2 * s * (s + 1)) = 4 * (s * s) + 8 * s + 4 := by grind
   omega
  ·by_cases h13 : m = 13
   ·subst h13
    simp
    have e : (s + 1) * (s + 1 + 1) - s * (s + 1) = 2 * s + 2 := by grind
    omega
   ·by_cases h14 : m = 14
    ·subst h14; simp; omega
    ·simp [h11, h12, h13, h14]; omega
theorem cmpR_strict (m : Int) {p s : Int} (p1 : 1 ≤ p) (s0 : 0 ≤ s) : 0 < cmpR m p s p (s + 1) := by
 have n1 := postN_nonneg m s0
 have n2 := postN_nonneg m (show 0 ≤ s + 1 by omega)
 have hm := post_strict m s0
 have d2 := postD_pos m (show 0 ≤ s + 1 by omega)
 have tp := topOf_pos m p1
 unfold cmpR
 by_cases h1 : postN m s = 0 <;> by_cases h2 : postN m (s + 1) = 0
 ·exfalso
  rw [h1, h2] at hm
  simp at hm
 ·simp [h1, h2]
 ·exfalso
  rw [h2] at hm
  have : 0 < postD m (s + 1) * postN m s := Int.mul_pos (by omega) (by omega)
  omega
 ·simp only [h1, h2, if_false, sideOf_pos]
  have e : topOf m p * postD m s * postN m (s + 1) - topOf m p * postD m (s + 1) * postN m s = topOf m p * (postD m s * postN m (s + 1) - postD m (s + 1) * postN m s) := by grind
  rw [e]
  exact Int.mul_pos (by omega) hm
theorem sq_le_cancel {a b : Int} (ha : 0 ≤ a) (hb : 0 ≤ b) (h : a * a ≤ b * b) : a ≤ b := by
 rcases Int.lt_or_le b a with h1 | h1
 ·have h2 : b * b < a * a := by
   have h3 : b * b ≤ b * a := Int.mul_le_mul_of_nonneg_left (by omega) hb
   have h4 : b * a < a * a := Int.mul_lt_mul_of_pos_right h1 (by omega)
   omega
  omega
 ·exact h1
theorem cmpR_cross (m : Int) {p q p' q' s t : Int} (p1 : 1 ≤ p) (q1 : 1 ≤ q) (p1' : 1 ≤ p') (q1' : 1 ≤ q') (s0 : 0 ≤ s) (t0 : 0 ≤ t) (h1 : 0 ≤ cmpR m p s q t) (h2 : 0 ≤ cmpR m q' t p' s) : p' * q ≤ q' * p := by
 have n1 := postN_nonneg m s0
 have n2 := postN_nonneg m t0
 have d1 := postD_pos m s0
 have d2 := postD_pos m t0
 unfold cmpR at h1 h2
 by_cases hs : postN m s = 0 <;> by_cases ht : postN m t = 0
 ·simp only [hs, ht, if_true, sideOf_nonneg] at h1 h2
  have a1 : p' * q ≤ q' * q := Int.mul_le_mul_of_nonneg_right (by omega) (by omega)
  have a2 : q' * q ≤ q' * p := Int.mul_le_mul_of_nonneg_left (by omega) (by omega)
  omega
 ·simp [hs, ht] at h2
 ·simp [hs, ht] at h1
 ·simp only [hs, ht, if_false, sideOf_nonneg] at h1 h2
  have hx : 0 < postD m s * postN m t := Int.mul_pos (by omega) (by omega)
  have hy : 0 < postD m t * postN m s := Int.mul_pos (by omega) (by omega)
  generalize hX : postD m s * postN m t = x at *
  generalize hY : postD m t * postN m s = y at *
  have e1 : topOf m q * y ≤ topOf m p * x := by
   have : topOf m p * postD m s * postN m t = topOf m p * x := by rw [← hX, Int.mul_assoc]
   have : topOf m q * postD m t * postN m s = topOf m q * y := by rw [← hY, Int.mul_assoc]
   omega
  have e2 : topOf m p' * x ≤ topOf m q' * y := by
   have : topOf m q' * postD m t * postN m s = topOf m q' * y := by rw [← hY, Int.mul_assoc]
   have : topOf m p' * postD m s * postN m t = topOf m p' * x := by rw [← hX, Int.mul_assoc]
   omega
  have tp := topOf_pos m p1
  have tq := topOf_pos m q1
  have tp' := topOf_pos m p1'
  have tq' := topOf_pos m q1'
  have a1 : topOf m p' * x * (topOf m q * y) ≤ topOf m q' * y * (topOf m p * x) :=
   Int.mul_le_mul e2 e1 (Int.mul_nonneg (by omega) (by omega)) (Int.mul_nonneg (by omega) (by omega))
  have hxy : 0 < x * y := Int.mul_pos hx hy
  have a2 : (topOf m p' * topOf m q) * (x * y) ≤ (topOf m q' * topOf m p) * (x * y) := by
   have b1 : topOf m p' * x * (topOf m q * y) = (topOf m p' * topOf m q) * (x * y) := by grind
   have b2 : topOf m q' * y * (topOf m p * x) = (topOf m q' * topOf m p) * (x * y) := by grind
   omega
  have a3 : topOf m p' * topOf m q ≤ topOf m q' * topOf m p := Int.le_of_mul_le_mul_right a2 hxy
  unfold topOf at a3
  by_cases h13 : m = 13
  ·simp only [h13, if_true] at a3
   refine sq_le_cancel (Int.mul_nonneg (by omega) (by omega)) (Int.mul_nonneg (by omega) (by omega)) ?_
   have b1 : p' * q * (p' * q) = p' * p' * (q * q) := by grind
   have b2 : q' * p * (q' * p) = q' * q' * (p * p) := by grind
   omega
  ·simpa only [h13, if_false] using a3
section
variable {f : Int → Int → Int → Int → Int}
theorem RankF.le_lt (hf : RankF f) {p s q t r u : Int} (p1 : 1 ≤ p) (s0 : 0 ≤ s) (q1 : 1 ≤ q) (t0 : 0 ≤ t) (r1 : 1 ≤ r) (u0 : 0 ≤ u) (h1 : 0 ≤ f p s q t) (h2 : 0 < f q t r u) : 0 < f p s r u := by
 have a1 := hf.anti p s r u
 have a2 := hf.anti q t r u
 rcases Int.lt_or_le 0 (f p s r u) with h | h
 ·exact h
 ·have := hf.trans r u p s q t r1 u0 p1 s0 q1 t0 (by omega) h1
  omega
theorem RankF.lt_le (hf : RankF f) {p s q t r u : Int} (p1 : 1 ≤ p) (s0 : 0 ≤ s) (q1 : 1 ≤ q) (t0 : 0 ≤ t) (r1 : 1 ≤ r) (u0 : 0 ≤ u) (h1 : 0 < f p s q t) (h2 : 0 ≤ f q t r u) : 0 < f p s r u := by
 have a1 := hf.anti p s r u
 have a2 := hf.anti p s q t
 rcases Int.lt_or_le 0 (f p s r u) with h | h
 ·exact h
 ·have := hf.trans q t r u p s q1 t0 r1 u0 p1 s0 h2 (by omega)
  omega
theorem RankF.refl (hf : RankF f) (p s : Int) : f p s p s = 0 := by
 have := hf.anti p s p s
 omega
theorem RankF.monos (hf : RankF f) {p s : Int} (p1 : 1 ≤ p) (s0 : 0 ≤ s) : ∀ n : Nat, 0 ≤ f p s p (s + n)
 | 0 => by rw [show s + ((0 : Nat) : Int) = s by omega, hf.refl]; exact Int.le_refl _
 | n + 1 => by
   rw [show s + ((n + 1 : Nat) : Int) = (s + n) + 1 by omega]
   exact hf.trans p s p (s + n) p (s + n + 1) p1 s0 p1 (by omega) p1 (by omega) (RankF.monos hf p1 s0 n) (hf.mono p (s + n) p1 (by omega))
theorem RankF.down (hf : RankF f) {p s t : Int} (p1 : 1 ≤ p) (s0 : 0 ≤ s) (h : s ≤ t) : 0 ≤ f p s p t := by
 have := hf.monos p1 s0 (t - s).toNat
 rwa [show s + ((t - s).toNat : Int) = t by omega] at this
def LastS (f : Int → Int → Int → Int → Int) (P : List Int) (C : List Nat) (S : List Int) : Prop := ∀ i ∈ C, 1 ≤ atI S i → ∀ j ∈ C, 0 < f (atI P i) (atI S i - 1) (atI P j) (atI S j)
theorem lastS_step (hf : RankF f) (hs : ∀ p s, 1 ≤ p → 0 ≤ s → 0 < f p s p (s + 1)) {P S : List Int} {C : List Nat} (hP : ∀ i ∈ C, 1 ≤ atI P i) (hS : ∀ i, 0 ≤ atI S i) (hl : ∀ i ∈ C, i < S.length) (hd : C.Nodup) (h : LastS f P C S) : LastS f P C (bump S (bestL (vs f P S) C)) := by
 have hpre := vs_pre hf hP hS
 have hsub := bestL_sub (vs f P S) C
 have hnod := hd.sublist hsub
 have hS' : ∀ i, 0 ≤ atI (bump S (bestL (vs f P S) C)) i := fun i => Int.le_trans (hS i) (bump_le i)
 intro i hi h1 j hj
 by_cases hm : i ∈ bestL (vs f P S) C
 ·have e := bump_mem hnod hm (hl i hi)
  rw [e]
  have e2 : atI S i + 1 - 1 = atI S i := by omega
  rw [e2]
  have hij := ((best_mem C hpre i).1 hm).2 j hj
  by_cases hmj : j ∈ bestL (vs f P S) C
  ·rw [bump_mem hnod hmj (hl j hj)]
   exact hf.le_lt (hP i hi) (hS i) (hP j hj) (hS j) (hP j hj) (by have := hS j; omega) hij (hs _ _ (hP j hj) (hS j))
  ·rw [bump_other hmj]
   have hz : ¬ ∀ z ∈ C, 0 ≤ vs f P S j z := fun h9 => hmj ((best_mem C hpre j).2 ⟨hj, h9⟩)
   obtain ⟨z, hz⟩ := Classical.not_forall.1 hz
   obtain ⟨hzC, hz⟩ := Classical.not_imp.1 hz
   have hzj : 0 < f (atI P z) (atI S z) (atI P j) (atI S j) := by
    have := hf.anti (atI P z) (atI S z) (atI P j) (atI S j)
    unfold vs at hz
    omega
   exact hf.le_lt (hP i hi) (hS i) (hP z hzC) (hS z) (hP j hj) (hS j) (((best_mem C hpre i).1 hm).2 z hzC) hzj
 ·have e := bump_other (S := S) hm
  rw [e] at h1 ⊢
  have down : 0 ≤ f (atI P j) (atI S j) (atI P j) (atI (bump S (bestL (vs f P S) C)) j) := hf.down (hP j hj) (hS j) (bump_le j)
  exact hf.lt_le (hP i hi) (by omega) (hP j hj) (hS j) (hP j hj) (hS' j) (h i hi h1 j hj) down
theorem award_strict (hf : RankF f) (hs : ∀ p s, 1 ≤ p → 0 ≤ s → 0 < f p s p (s + 1)) {P : List Int} {C : List Nat} (hP : ∀ i ∈ C, 1 ≤ atI P i) (hd : C.Nodup) : ∀ (k : Nat) (S : List Int) (left : Int) (o : List Nat), (∀ i, 0 ≤ atI S i) → (∀ i ∈ C, i < S.length) → LastS f P C S →
  (award f P C k S left o).left = 0 → LastS f P C (award f P C k S left o).seats := by
 intro k
 induction k with
 | zero => exact fun S left o _ _ h _ => h
 | succ k ih =>
   intro S left o h0 hl h
   unfold award
   split
   ·exact fun _ => h
   ·split
    ·intro h9
     simp only at h9
     omega
    ·exact ih _ _ _ (fun i => Int.le_trans (h0 i) (bump_le i)) (fun i hi => by rw [bump_length]; exact hl i hi) (lastS_step hf hs hP h0 hl hd h)
end
theorem sums_le : ∀ (A B : List Int), A.length = B.length → (∀ i, atI B i ≤ atI A i) → B.sum ≤ A.sum ∧ (B.sum = A.sum → A = B)
 | [], [], _, _ => ⟨Int.le_refl _, fun _ => rfl⟩
 | [], _ :: _, h, _ => by simp at h
 | _ :: _, [], h, _ => by simp at h
 | a :: A, b :: B, h, hi => by
   have h0 : b ≤ a := hi 0
   obtain ⟨h1, h2⟩ := sums_le A B (by simpa using h) (fun i => hi (i + 1))
   simp only [List.sum_cons]
   refine ⟨by omega, fun e => ?_⟩
   rw [h2 (by omega), show a = b by omega]
theorem sums_less {A B : List Int} (hl : A.length = B.length) (hs : A.sum = B.sum) (hne : A ≠ B) : ∃ i, atI A i < atI B i := by
 refine Classical.byContradiction fun h => hne ?_
 refine (sums_le A B hl (fun i => ?_)).2 hs.symm
 rcases Int.lt_or_le (atI A i) (atI B i) with h1 | h1
 ·exact absurd ⟨i, h1⟩ h
 ·exact h1
structure Dec (m : Int) (P : List Int) (s : Int) (S : List Int) : Prop where
 len : S.length = P.length
 sum : S.sum = s
 nn : ∀ i, 0 ≤ atI S i
 out : ∀ i, i ∉ full P → atI S i = 0
 last : LastOk (cmpR m) P (full P) S
 strict : LastS (cmpR m) P (full P) S
theorem full_one {P : List Int} : ∀ i ∈ full P, 1 ≤ atI P i := fun i hi => by have := (mem_full.1 hi).2; omega
theorem zeros_sum (n : Nat) : (List.replicate n (0 : Int)).sum = 0 := by
 induction n with
 | zero => rfl
 | succ n ih => rw [List.replicate_succ, List.sum_cons, ih]; rfl
theorem zeros_at (n i : Nat) : atI (List.replicate n (0 : Int)) i = 0 := by
 unfold atI
 rw [List.getElem?_replicate]
 split <;> rfl
def divA (m : Int) (P : List Int) (s : Int) : Aw := awardOf (cmpR m) P (List.replicate P.length 0) s
theorem dec_of {m s : Int} {P : List Int} (hp : 0 < P.sum) (hs : 0 ≤ s) (h : (divA m P s).left = 0) : Dec m P s (divA m P s).seats := by
 have hC := full_ne hp
 have ha : Adds (divA m P s) (List.replicate P.length 0) ((List.replicate P.length (0 : Int)).sum + s) (full P) := awardOf_adds hC (by simp) hs
 rw [zeros_sum] at ha
 have hz0 : ∀ i, 0 ≤ atI (List.replicate P.length (0 : Int)) i := fun i => by rw [zeros_at]; exact Int.le_refl _
 have hlt : ∀ i ∈ full P, i < (List.replicate P.length (0 : Int)).length := fun i hi => by rw [List.length_replicate]; exact (mem_full.1 hi).1
 have hl := award_last (cmpR_rank m) (P := P) (C := full P) full_one (full_nodup P) s.toNat (List.replicate P.length 0) s [] hz0 hlt (fun i _ h1 => by rw [zeros_at] at h1; omega)
 have hst := award_strict (cmpR_rank m) (fun p s => cmpR_strict m) (P := P) (C := full P) full_one (full_nodup P) s.toNat (List.replicate P.length 0) s [] hz0 hlt (fun i _ h1 => by rw [zeros_at] at h1; omega) h
 refine ⟨?_, ?_, hl.2.2, fun i hi => ?_, hl.1, hst⟩
 ·rw [ha.seats, bump_length, List.length_replicate]
 ·have := ha.sum; omega
 ·rw [ha.seats, bump_other (fun hm => hi (ha.mem i hm)), zeros_at]
theorem Dec.one {m s : Int} {P S T : List Int} (h : Dec m P s S) (hl : T.length = P.length) (hsum : T.sum = s) (hn : ∀ i, 0 ≤ atI T i) (ho : ∀ i, i ∉ full P → atI T i = 0) (hT : LastOk (cmpR m) P (full P) T) : S = T := by
 refine Classical.byContradiction fun hne => ?_
 have hlen : S.length = T.length := by rw [h.len, hl]
 have hss : S.sum = T.sum := by rw [h.sum, hsum]
 obtain ⟨i, hi⟩ := sums_less hlen hss hne
 obtain ⟨j, hj⟩ := sums_less hlen.symm hss.symm (fun e => hne e.symm)
 have hf := cmpR_rank m
 have hiC : i ∈ full P := Classical.byContradiction fun h9 => by have := ho i h9; have := h.nn i; omega
 have hjC : j ∈ full P := Classical.byContradiction fun h9 => by have := h.out j h9; have := hn j; omega
 have i1 := full_one i hiC
 have j1 := full_one j hjC
 have n1 := h.nn i
 have n2 := hn j
 have a1 := h.strict j hjC (by omega) i hiC
 have a2 := hT i hiC (by omega) j hjC
 have a3 := hf.down (t := atI T i - 1) i1 n1 (by omega)
 have a4 := hf.down (t := atI S j - 1) j1 n2 (by omega)
 have b1 := hf.trans _ _ _ _ _ _ i1 n1 i1 (by omega) j1 n2 a3 a2
 have b2 := hf.trans _ _ _ _ _ _ i1 n1 j1 n2 j1 (by omega) b1 a4
 have := hf.anti (atI P i) (atI S i) (atI P j) (atI S j - 1)
 omega
theorem Dec.people {m s : Int} {P Q S T : List Int} (h : Dec m P s S) (k : Dec m Q s T) (hQ : ∀ i, 0 ≤ atI Q i) {i j : Nat} (h1 : atI T i < atI S i) (h2 : atI S j < atI T j) (hi : 0 < atI P i) (hj : 0 < atI P j) : atI Q i * atI P j ≤ atI Q j * atI P i := by
 have hf := cmpR_rank m
 have hiP : i ∈ full P := Classical.byContradiction fun h9 => by have := h.out i h9; have := k.nn i; omega
 have hjQ : j ∈ full Q := Classical.byContradiction fun h9 => by have := k.out j h9; have := h.nn j; omega
 have hjP : j ∈ full P := by
  refine mem_full.2 ⟨?_, hj⟩
  refine Classical.byContradiction fun h9 => ?_
  rw [atI, List.getElem?_eq_none (by omega)] at hj
  exact absurd hj (by simp)
 have q1 := full_one j hjQ
 rcases Int.lt_or_le 0 (atI Q i) with hq | hq
 ·have hiQ : i ∈ full Q := by
   refine mem_full.2 ⟨?_, hq⟩
   refine Classical.byContradiction fun h9 => ?_
   rw [atI, List.getElem?_eq_none (by omega)] at hq
   exact absurd hq (by simp)
  have nS := h.nn j
  have nT := k.nn i
  have a1 := h.last i hiP (by omega) j hjP
  have a2 := k.last j hjQ (by omega) i hiQ
  have q2 := full_one i hiQ
  have a3 := hf.down (t := atI T j - 1) q1 nS (by omega)
  have a4 := hf.down (t := atI S i - 1) q2 nT (by omega)
  have b1 := hf.trans _ _ _ _ _ _ q1 nS q1 (by omega) q2 nT a3 a2
  have b2 := hf.trans _ _ _ _ _ _ q1 nS q2 nT q2 (by omega) b1 a4
  exact cmpR_cross m (by omega) (by omega) (by omega) q1 (by omega) nS a1 b2
 ·have e : atI Q i = 0 := by have := hQ i; omega
  rw [e, Int.zero_mul]
  exact Int.mul_nonneg (hQ j) (by omega)
theorem dec_grow {m s : Int} {P : List Int} (hp : 0 < P.sum) (hs : 0 ≤ s) (i : Nat) : atI (divA m P s).seats i ≤ atI (divA m P (s + 1)).seats i :=
 (awardOf_grow (full_ne hp) hs).2 i
theorem atI_appL {A : List Int} {x : Int} {i : Nat} (h : i < A.length) : atI (A ++ [x]) i = atI A i := by
 unfold atI
 rw [List.getElem?_append_left h]
theorem atI_out {A : List Int} {i : Nat} (h : A.length ≤ i) : atI A i = 0 := by
 unfold atI
 rw [List.getElem?_eq_none h]; rfl
theorem full_app {P : List Int} {x : Int} {i : Nat} (h : i ∈ full P) : i ∈ full (P ++ [x]) := by
 obtain ⟨h1, h2⟩ := mem_full.1 h
 exact mem_full.2 ⟨by rw [List.length_append]; omega, by rw [atI_appL h1]; exact h2⟩
theorem Dec.arrival {m s x t : Int} {P S T : List Int} (h : Dec m P s S) (k : Dec m (P ++ [x]) (s + t) T) (hx : atI T P.length = t) : S = T.take P.length := by
 have hTl : T.length = P.length + 1 := by rw [k.len]; simp
 have hsplit : T = T.take P.length ++ [t] := by
  have e : P.length < T.length := by omega
  have : T[P.length] = t := by rw [← hx, atI_of (List.getElem?_eq_getElem e)]
  rw [← this, ← List.take_succ_eq_append_getElem e, List.take_of_length_le (by omega)]
 obtain ⟨U, hU⟩ : ∃ U, T.take P.length = U := ⟨_, rfl⟩
 have hUl : U.length = P.length := by rw [← hU, List.length_take]; omega
 rw [hU] at hsplit ⊢
 subst hsplit
 have hat : ∀ i, i < P.length → atI (U ++ [t]) i = atI U i := fun i hi => atI_appL (by omega)
 refine h.one hUl ?_ (fun i => ?_) (fun i hi => ?_) ?_
 ·have := k.sum
  rw [List.sum_append] at this
  simp at this
  omega
 ·rcases Nat.lt_or_ge i P.length with h9 | h9
  ·rw [← hat i h9]; exact k.nn i
  ·rw [atI_out (by omega)]; exact Int.le_refl _
 ·rcases Nat.lt_or_ge i P.length with h9 | h9
  ·rw [← hat i h9]
   refine k.out i (fun h8 => hi ?_)
   have := (mem_full.1 h8).2
   rw [atI_appL h9] at this
   exact mem_full.2 ⟨h9, this⟩
  ·exact atI_out (by omega)
 ·intro i hi h1 j hj
  have li := (mem_full.1 hi).1
  have lj := (mem_full.1 hj).1
  have := k.last i (full_app hi) (by rw [hat i li]; exact h1) j (full_app hj)
  rwa [hat i li, hat j lj, atI_appL li, atI_appL lj] at this
end Go.Proofs.YteocdndanehpnaaGreat
