/- Several texts in one: FairA0, FrD. -/
import Derived.Test.YtkjnjooggicgiaaGreatE04
import Derived.Laws.EntriesVeiled

/- Plain laws of the chapter Fair: the inequality of two regions, and when a move helps. -/
namespace Go.Proofs.YtkjnjooggicgiaaGreat

/-- The lower part of the inequality, of the favoured side. -/
def ineqD (k p s q t : Int) : Int := if k = 11 then q else if k = 12 then t * s else if k = 13 then t * p else if k = 14 then p * q else p
/-- The inequality as an upper and a lower part; it is infinite if the lower one is 0. -/
def meas (k p s q t : Int) : Int × Int :=
  if s * q < t * p then (t * p - s * q, ineqD k q t p s) else if s * q = t * p then (0, 1) else (s * q - t * p, ineqD k p s q t)
/-- Whether the move of a seat helps. -/
def helpsF (k p s q t : Int) : Bool :=
  decide ((meas k p (s - 1) q (t + 1)).2 ≠ 0) && (decide ((meas k p s q t).2 = 0) || decide ((meas k p (s - 1) q (t + 1)).1 * (meas k p s q t).2 < (meas k p s q t).1 * (meas k p (s - 1) q (t + 1)).2))

theorem meas_symm (k p s q t : Int) : meas k p s q t = meas k q t p s := by
  unfold meas
  rcases Int.lt_trichotomy (s * q) (t * p) with h | h | h
  · rw [if_pos h, if_neg (show ¬ t * p < s * q by omega), if_neg (show ¬ t * p = s * q by omega)]
  · rw [if_neg (show ¬ s * q < t * p by omega), if_neg (show ¬ t * p < s * q by omega), if_pos h, if_pos h.symm]
  · rw [if_neg (show ¬ s * q < t * p by omega), if_neg (show ¬ s * q = t * p by omega), if_pos h]
theorem meas_pos {k p s q t : Int} (h : t * p < s * q) : meas k p s q t = (s * q - t * p, ineqD k p s q t) := by
  unfold meas
  rw [if_neg (show ¬ s * q < t * p by omega), if_neg (show ¬ s * q = t * p by omega)]
theorem meas_neg {k p s q t : Int} (h : s * q < t * p) : meas k p s q t = (t * p - s * q, ineqD k q t p s) := if_pos h
theorem meas_eq {k p s q t : Int} (h : s * q = t * p) : meas k p s q t = (0, 1) := by
  unfold meas
  rw [if_neg (show ¬ s * q < t * p by omega), if_pos h]
theorem meas_nonneg (k p s q t : Int) : 0 ≤ (meas k p s q t).1 ∧ ((meas k p s q t).1 = 0 ↔ s * q = t * p) := by
  rcases Int.lt_trichotomy (s * q) (t * p) with h | h | h
  · rw [meas_neg h]; show 0 ≤ t * p - s * q ∧ (t * p - s * q = 0 ↔ _); omega
  · rw [meas_eq h]; exact ⟨Int.le_refl _, fun _ => h, fun _ => rfl⟩
  · rw [meas_pos h]; show 0 ≤ s * q - t * p ∧ (s * q - t * p = 0 ↔ _); omega
theorem pos_of_fav {p s q t : Int} (hp : 1 ≤ p) (hq : 1 ≤ q) (ht : 0 ≤ t) (h : t * p < s * q) : 1 ≤ s := by
  rcases Int.lt_or_le s 1 with h1 | h1
  · have h2 := Int.mul_nonneg ht (show 0 ≤ p by omega)
    have h3 := Int.mul_nonneg (show 0 ≤ -s by omega) (show 0 ≤ q by omega)
    rw [Int.neg_mul] at h3
    omega
  · exact h1
theorem ineqD_fav {k p s q t : Int} (hp : 1 ≤ p) (hq : 1 ≤ q) (ht : 0 ≤ t) (h : t * p < s * q) :
    0 ≤ ineqD k p s q t ∧ (ineqD k p s q t = 0 ↔ (k = 12 ∨ k = 13) ∧ t = 0) := by
  have hs := pos_of_fav hp hq ht h
  have h1 := Int.mul_nonneg ht (show 0 ≤ s by omega)
  have h2 := Int.mul_nonneg ht (show 0 ≤ p by omega)
  have h3 := Int.mul_pos (show 0 < p by omega) (show 0 < q by omega)
  have h4 : t * s = 0 ↔ t = 0 := by rw [Int.mul_eq_zero]; omega
  have h5 : t * p = 0 ↔ t = 0 := by rw [Int.mul_eq_zero]; omega
  unfold ineqD
  by_cases k11 : k = 11
  · subst k11; simp; omega
  · by_cases k12 : k = 12
    · subst k12; simp [h4]; exact h1
    · by_cases k13 : k = 13
      · subst k13; simp [h5]; exact h2
      · by_cases k14 : k = 14
        · subst k14; simp; omega
        · simp [k11, k12, k13, k14]; omega
theorem meas_low {k p s q t : Int} (hp : 1 ≤ p) (hq : 1 ≤ q) (hs : 0 ≤ s) (ht : 0 ≤ t) :
    0 ≤ (meas k p s q t).2 ∧ ((meas k p s q t).2 = 0 → (k = 12 ∨ k = 13) ∧ s ≠ t ∧ min s t = 0) := by
  rcases Int.lt_trichotomy (s * q) (t * p) with h | h | h
  · have h1 := ineqD_fav (k := k) hq hp hs h
    have h2 := pos_of_fav hq hp hs h
    rw [meas_neg h]
    refine ⟨h1.1, fun h3 => ?_⟩
    have h4 := h1.2.1 h3
    refine ⟨h4.1, ?_, ?_⟩ <;> omega
  · rw [meas_eq h]; exact ⟨by decide, fun h3 => by cases h3⟩
  · have h1 := ineqD_fav (k := k) hp hq ht h
    have h2 := pos_of_fav hp hq ht h
    rw [meas_pos h]
    refine ⟨h1.1, fun h3 => ?_⟩
    have h4 := h1.2.1 h3
    refine ⟨h4.1, ?_, ?_⟩ <;> omega
theorem helps_iff (k p s q t : Int) : helpsF k p s q t = true ↔ (meas k p (s - 1) q (t + 1)).2 ≠ 0 ∧ ((meas k p s q t).2 = 0 ∨ (meas k p (s - 1) q (t + 1)).1 * (meas k p s q t).2 < (meas k p s q t).1 * (meas k p (s - 1) q (t + 1)).2) := by
  simp [helpsF]

theorem mul_pos_iff {a b : Int} (ha : 0 < a) : 0 < a * b ↔ 0 < b := by
  constructor
  · intro h
    rcases Int.lt_or_le 0 b with h1 | h1
    · exact h1
    · have := Int.mul_nonneg (show 0 ≤ a by omega) (show 0 ≤ -b by omega)
      rw [Int.mul_neg] at this
      omega
  · exact fun h => Int.mul_pos ha h

/-- A move to a region that is not less favoured does not help. -/
theorem helps_less {k p s q t : Int} (hp : 1 ≤ p) (hq : 1 ≤ q) (hs : 1 ≤ s) (ht : 0 ≤ t) (h : helpsF k p s q t = true) : t * p < s * q := by
  rw [helps_iff] at h
  rcases Int.lt_or_le (t * p) (s * q) with h0 | h0
  · exact h0
  exfalso
  have e1 : (s - 1) * q = s * q - q := by rw [Int.sub_mul, Int.one_mul]
  have e2 : (t + 1) * p = t * p + p := by rw [Int.add_mul, Int.one_mul]
  have ha : (s - 1) * q < (t + 1) * p := by omega
  rw [meas_neg ha] at h
  obtain ⟨h1, h2⟩ := h
  have hD := ineqD_fav (k := k) hq hp (show 0 ≤ s - 1 by omega) ha
  change ineqD k q (t + 1) p (s - 1) ≠ 0 at h1
  change _ ∨ ((t + 1) * p - (s - 1) * q) * _ < _ * ineqD k q (t + 1) p (s - 1) at h2
  rcases Int.lt_or_eq_of_le h0 with h3 | h3
  · rw [meas_neg h3] at h2
    have hB := ineqD_fav (k := k) hq hp (show 0 ≤ s by omega) h3
    change ineqD k q t p s = 0 ∨ ((t + 1) * p - (s - 1) * q) * ineqD k q t p s < (t * p - s * q) * ineqD k q (t + 1) p (s - 1) at h2
    rcases h2 with h2 | h2
    · have := (hB.2.1 h2).2
      omega
    · revert h1 h2
      have hpp := Int.mul_pos (show 0 < p by omega) (show 0 < q by omega)
      unfold ineqD
      by_cases k11 : k = 11
      · subst k11; simp only [if_true]; intro _ h2
        have : (t * p - s * q) * p ≤ ((t + 1) * p - (s - 1) * q) * p := Int.mul_le_mul_of_nonneg_right (by omega) (by omega)
        omega
      · by_cases k12 : k = 12
        · subst k12
          simp only [show ¬ (12 : Int) = 11 by decide, if_true, if_false]
          intro _ h2
          have e : ((t + 1) * p - (s - 1) * q) * (s * t) - (t * p - s * q) * ((s - 1) * (t + 1)) = p * (t * (t + 1)) + q * (s * (s - 1)) := by grind
          have n1 := Int.mul_nonneg (show 0 ≤ p by omega) (Int.mul_nonneg ht (show 0 ≤ t + 1 by omega))
          have n2 := Int.mul_nonneg (show 0 ≤ q by omega) (Int.mul_nonneg (show 0 ≤ s by omega) (show 0 ≤ s - 1 by omega))
          omega
        · by_cases k13 : k = 13
          · subst k13
            simp only [show ¬ (13 : Int) = 11 by decide, show ¬ (13 : Int) = 12 by decide, if_true, if_false]
            intro _ h2
            have a1 : (t * p - s * q) * ((s - 1) * q) ≤ (t * p - s * q) * (s * q) := Int.mul_le_mul_of_nonneg_left (by omega) (by omega)
            have a2 : (t * p - s * q) * (s * q) ≤ ((t + 1) * p - (s - 1) * q) * (s * q) := Int.mul_le_mul_of_nonneg_right (by omega) (Int.mul_nonneg (by omega) (by omega))
            omega
          · by_cases k14 : k = 14
            · subst k14
              simp only [show ¬ (14 : Int) = 11 by decide, show ¬ (14 : Int) = 12 by decide, show ¬ (14 : Int) = 13 by decide, if_true, if_false]
              intro _ h2
              have : (t * p - s * q) * (q * p) ≤ ((t + 1) * p - (s - 1) * q) * (q * p) := Int.mul_le_mul_of_nonneg_right (by omega) (by rw [Int.mul_comm]; omega)
              omega
            · simp only [k11, k12, k13, k14, if_false]
              intro _ h2
              have : (t * p - s * q) * q ≤ ((t + 1) * p - (s - 1) * q) * q := Int.mul_le_mul_of_nonneg_right (by omega) (by omega)
              omega
  · rw [meas_eq h3] at h2
    change (1 : Int) = 0 ∨ ((t + 1) * p - (s - 1) * q) * 1 < 0 * _ at h2
    rw [Int.zero_mul, Int.mul_one] at h2
    omega
end Go.Proofs.YtkjnjooggicgiaaGreat

/- Fair: the inequality of two sides. -/
namespace Go.Proofs.YtkjnjooggicgiaaGreat
open Go.RowKit
set_option linter.unusedSimpArgs false

theorem sideInfo : (Tryz.prog.info? 56).map (·.size) = some 4 := by kernel_rfl

set_option maxRecDepth 100000 in
set_option maxHeartbeats 4000000 in
theorem fIneq_zero (m p s q t : Int) (X : Array Value) (b : Bool) (hX : GoodX X) (HE : ∀ w, Calls Tryz.prog 39 #[.agg (sideC p s q t)] w (fun e w' => e = .returned (.int .i64 0) ∧ Lat w w'))
    (HG : ∀ w, Calls Tryz.prog 22 #[.int .i64 0, .int .i64 1, .int .i64 0, .int .i64 1] w (ShB w X b)) (w : World) :
    Calls Tryz.prog 25 #[.agg (sideC p s q t), .int .i64 m] w (ShB w X b) := by
  have i1 := Lib.hid hX.info
  have z1 := Lib.hid hX.1
  have c1 := Lib.hid hX.2.1
  have G1 := Lib.hid hX.cells
  unfold sideC at HE ⊢
  clear hX
  go_enter Tryz.func25, Tryz.ntmps25
  go_wp2_with fail
  refine name2 (Q := fun W => Calls _ _ _ W _) ?_
  intro W hl hs k1 k2
  refine (HE W).mono ?_
  rintro e w1 ⟨rfl, l1⟩
  have K2 := k2.later l1
  have L1 := hl.trans l1
  go_wp2_with fail
  refine (HG w1).mono ?_
  rintro e w2 ⟨rfl, l2⟩
  have K3 := K2.later l2
  go_wp2_with (refine wpList_put rfl 35 (.tmp 4) (.tmp 14) (by rfl) (by rfl) (w.heap.size + 1) (by rfl) X (by rfl) K3 (by rw [z1.out]; rfl) i1.out c1.out ?_; intro W2 hput; have B1 := hput.blk; have m1 := hput.lat w (L1.trans l2) (by omega))
  obtain ⟨u, v, rfl⟩ := G1.out
  have e0 := B1.cell 0
  have e1 := B1.cell 1
  have e2 := B1.cell 2
  have e3 := B1.cell 3
  have e4 := B1.cell 4
  have e5 := B1.cell 5
  have e6 := B1.cell 6
  have e7 := B1.cell 7
  have e8 := B1.cell 8
  have e9 := B1.cell 9
  have e10 := B1.cell 10
  have e11 := B1.cell 11
  have e12 := B1.cell 12
  have e13 := B1.cell 13
  have e14 := B1.cell 14
  have e15 := B1.cell 15
  clear hput K2 K3 k1 k2
  refine bodyPost_ret (v := .tuple #[.agg #[.int .u64 u.a0, .int .u64 u.a1, .int .u64 u.a2, .int .u64 u.a3, .int .u64 u.a4, .int .u64 u.a5, .int .u64 u.a6, .int .u64 u.a7, .int .u64 v.a0, .int .u64 v.a1, .int .u64 v.a2, .int .u64 v.a3, .int .u64 v.a4, .int .u64 v.a5, .int .u64 v.a6, .int .u64 v.a7], .bool b]) (by simp [results, Tryz.results25, go_sem, e0, e1, e2, e3, e4, e5, e6, e7, e8, e9, e10, e11, e12, e13, e14, e15]) rfl ?_
  exact ⟨rfl, m1⟩


set_option maxRecDepth 100000 in
set_option maxHeartbeats 4000000 in
theorem fIneq_pos (m p s q t n : Int) (X : Array Value) (b : Bool) (hX : GoodX X) (HE : ∀ w, Calls Tryz.prog 39 #[.agg (sideC p s q t)] w (fun e w' => e = .returned (.int .i64 n) ∧ Lat w w')) (hn : 0 < n) (hm : m = 11 ∨ m = 12 ∨ m = 13 ∨ m = 14 ∨ m = 15)
    (hM11 : m = 11 → ∀ w, Calls Tryz.prog 41 #[.agg (sideC p s q t)] w (ShB w X b)) (hM12 : m = 12 → ∀ w, Calls Tryz.prog 42 #[.agg (sideC p s q t)] w (ShB w X b)) (hM13 : m = 13 → ∀ w, Calls Tryz.prog 43 #[.agg (sideC p s q t)] w (ShB w X b)) (hM14 : m = 14 → ∀ w, Calls Tryz.prog 44 #[.agg (sideC p s q t)] w (ShB w X b)) (hM15 : m = 15 → ∀ w, Calls Tryz.prog 45 #[.agg (sideC p s q t)] w (ShB w X b)) (w : World) :
    Calls Tryz.prog 25 #[.agg (sideC p s q t), .int .i64 m] w (ShB w X b) := by
  have i1 := Lib.hid hX.info
  have z1 := Lib.hid hX.1
  have c1 := Lib.hid hX.2.1
  have G1 := Lib.hid hX.cells
  have HT := fun w => fTurned_any p s q t w
  unfold sideC at HE hM11 hM12 hM13 hM14 hM15 HT ⊢
  have h1 : ((n : Int) == 0) = false := by simp; omega
  have h2 : decide (n < 0) = false := by simp; omega
  have h2' : ¬ n < 0 := by omega
  clear hX hn
  go_enter Tryz.func25, Tryz.ntmps25
  go_wp2_with fail
  refine name2 (Q := fun W => Calls _ _ _ W _) ?_
  intro W hl hs k1 k2
  refine (HE W).mono ?_
  rintro e w1 ⟨rfl, l1⟩
  have K1 := k1.later l1
  have K2 := k2.later l1
  have L1 := hl.trans l1
  clear k1 k2 hl l1 hs HE
  have d0 := K1.cell 0
  have d1 := K1.cell 1
  have d2 := K1.cell 2
  have d3 := K1.cell 3
  go_upto_region 7 with (fail)
  refine name1 (Q := fun W => Code.wp _ _ _ _ W) ?_
  intro W4 l4 hs4 K7
  have hlt2 := K2.lt
  have K1 := K1.later l4
  have K2 := K2.later l4
  have L4 := L1.trans l4
  clear d0 d1 d2 d3
  have hne1 : w.heap.size ∉ [w.heap.size + 1] := by simp
  have hne7 : w1.heap.size ∉ [w.heap.size + 1] := by simp; omega
  have R1 : ∀ w', LatS W4 [w.heap.size + 1] w' → w'.rangeAt w.heap.size 0 [.int .i64 p, .int .i64 s, .int .i64 q, .int .i64 t] := fun w' hl => Blk.rangeAll (l := [.int .i64 p, .int .i64 s, .int .i64 q, .int .i64 t]) (K1.keepS hne1 hl)
  have f0 := K7.evS hne7 0 rfl
  have f1 := K7.evS hne7 1 rfl
  have f2 := K7.evS hne7 2 rfl
  have f3 := K7.evS hne7 3 rfl
  have f4 := K7.evS hne7 4 rfl
  have L0 := Lat.drew W4
  rcases hm with rfl | rfl | rfl | rfl | rfl
  · have HG := hM11 rfl
    as_aux_lemma =>
      clear hM11 hM12 hM13 hM14 hM15
      refine wp_region_held_drew (S := fun w' => LatS W4 [w.heap.size + 1] w') (by kernel_rfl) (L0.s _) (fun hHeld => ?_)
      generalize W4.drew = V0 at L0 hHeld ⊢
      refine wpAnyH_take (i := 0) (v := .int .i64 11) rfl (by kernel_rfl) (by kernel_rfl) (by kernel_rfl) (fun _ _ _ h => h) (Or.inl ⟨by rfl, by intro w' hS; go_simp⟩) hHeld ?_
      simp only [Act.put, List.setIfInBounds_toArray, List.set_cons_zero, List.set_cons_succ]
      refine wpAnyH_take (i := 1) (v := .int .i64 0) rfl (by kernel_rfl) (by kernel_rfl) (by kernel_rfl) (fun _ _ _ h => h) (Or.inl ⟨by rfl, by intro w' hS; go_simp; rfl⟩) hHeld ?_
      simp only [Act.put, List.setIfInBounds_toArray, List.set_cons_zero, List.set_cons_succ]
      refine wpAnyH_take (i := 2) (v := .pointer (some ⟨w1.heap.size, 0, none⟩)) rfl (by kernel_rfl) (by kernel_rfl) (by kernel_rfl) (fun _ _ _ h => h) (Or.inl ⟨by rfl, by intro w' hS; go_simp⟩) hHeld ?_
      simp only [Act.put, List.setIfInBounds_toArray, List.set_cons_zero, List.set_cons_succ]
      refine wpAnyH_take (i := 3) (v := .func (.func 41) #[] #[]) rfl (by kernel_rfl) (by kernel_rfl) (by kernel_rfl) (fun _ _ _ h => h) (Or.inl ⟨by rfl, by intro w' hS; have hc := f0 w' hS; go_simp⟩) hHeld ?_
      simp only [Act.put, List.setIfInBounds_toArray, List.set_cons_zero, List.set_cons_succ]
      refine' wpAnyH_take (i := 4) rfl (by kernel_rfl) (by kernel_rfl) (by kernel_rfl) (fun _ _ _ h => h) (yieldsIf_load_mid (by rfl) 56 (.tmp 2) rfl w.heap.size 0 rfl _ _ R1 Tryz.underlying56 rfl sideInfo) hHeld ?_
      simp only [Act.put, List.setIfInBounds_toArray, List.set_cons_zero, List.set_cons_succ]
      refine wpAnyH_ready (rs := [5]) (by kernel_rfl) (by simp) (AllReadyH.cons rfl (fun K hK => ?_) AllReadyH.nil)
      go_simp
      refine (HG _).mono ?_
      rintro e V1 ⟨rfl, lg⟩
      have L1' := L0.trans lg
      clear lg
      refine hK.out _ _ (L1'.s _) (fun hHeld1 => ?_)
      clear hK K
      try simp only [Act.put, List.setIfInBounds_toArray, List.set_cons_zero, List.set_cons_succ]
      refine wpAnyH_take (i := 6) (v := .agg X) rfl (by kernel_rfl) (by kernel_rfl) (by kernel_rfl) (fun _ _ _ h => h) (Or.inl ⟨by rfl, by intro w' hS; go_simp⟩) hHeld1 ?_
      simp only [Act.put, List.setIfInBounds_toArray, List.set_cons_zero, List.set_cons_succ]
      refine wpAnyH_take (i := 7) (v := .bool b) rfl (by kernel_rfl) (by kernel_rfl) (by kernel_rfl) (fun _ _ _ h => h) (Or.inl ⟨by rfl, by intro w' hS; go_simp⟩) hHeld1 ?_
      simp only [Act.put, List.setIfInBounds_toArray, List.set_cons_zero, List.set_cons_succ]
      refine wpAnyH_ready (rs := [8]) (by kernel_rfl) (by simp) (AllReadyH.cons rfl (fun K hK => ?_) AllReadyH.nil)
      rw [if_pos (by rfl)]
      have K5 := K2.later L1'
      refine wp_store_mid 35 (.tmp 4) (.tmp 28) rfl (w.heap.size + 1) 0 X rfl rfl (K5.thereAll _ (by rw [z1.out]; rfl)) i1.out c1.out ?_
      have KS := K5.setCells X (by rw [z1.out]; rfl)
      have M9 : LatS W4 [w.heap.size + 1] (V1.setCells (w.heap.size + 1) 0 X.toList) := LatS.setCells (by simp) _ _ _ (L1'.s _)
      have L9 : Lat w (V1.setCells (w.heap.size + 1) 0 X.toList) := Lat.setCells (by omega) _ _ _ (L4.trans L1')
      obtain ⟨V9, hV9⟩ : ∃ V, V1.setCells (w.heap.size + 1) 0 X.toList = V := ⟨_, rfl⟩
      rw [hV9] at KS M9 L9 ⊢
      clear hV9 K5
      refine hK.out _ _ M9 (fun hHeld2 => ?_)
      clear hK K
      try simp only [Act.put, List.setIfInBounds_toArray, List.set_cons_zero, List.set_cons_succ]
      refine wpAnyH_ready (rs := [9]) (by kernel_rfl) (by simp) (AllReadyH.cons rfl (fun K hK => ?_) AllReadyH.nil)
      go_simp
      refine hK.out _ _ M9 (fun hHeld3 => ?_)
      clear hK K
      try simp only [Act.put, List.setIfInBounds_toArray, List.set_cons_zero, List.set_cons_succ]
      refine wpAnyH_done (by kernel_rfl) ?_ _
      go_wp2
      obtain ⟨u, v, rfl⟩ := G1.out
      have e0 := KS.cell 0
      have e1 := KS.cell 1
      have e2 := KS.cell 2
      have e3 := KS.cell 3
      have e4 := KS.cell 4
      have e5 := KS.cell 5
      have e6 := KS.cell 6
      have e7 := KS.cell 7
      have e8 := KS.cell 8
      have e9 := KS.cell 9
      have e10 := KS.cell 10
      have e11 := KS.cell 11
      have e12 := KS.cell 12
      have e13 := KS.cell 13
      have e14 := KS.cell 14
      have e15 := KS.cell 15
      refine bodyPost_ret (v := .tuple #[.agg #[.int .u64 u.a0, .int .u64 u.a1, .int .u64 u.a2, .int .u64 u.a3, .int .u64 u.a4, .int .u64 u.a5, .int .u64 u.a6, .int .u64 u.a7, .int .u64 v.a0, .int .u64 v.a1, .int .u64 v.a2, .int .u64 v.a3, .int .u64 v.a4, .int .u64 v.a5, .int .u64 v.a6, .int .u64 v.a7], .bool b]) (by simp [results, Tryz.results25, go_sem, e0, e1, e2, e3, e4, e5, e6, e7, e8, e9, e10, e11, e12, e13, e14, e15]) rfl ?_
      exact ⟨rfl, L9⟩
  · have HG := hM12 rfl
    as_aux_lemma =>
      clear hM11 hM12 hM13 hM14 hM15
      refine wp_region_held_drew (S := fun w' => LatS W4 [w.heap.size + 1] w') (by kernel_rfl) (L0.s _) (fun hHeld => ?_)
      generalize W4.drew = V0 at L0 hHeld ⊢
      refine wpAnyH_take (i := 0) (v := .int .i64 12) rfl (by kernel_rfl) (by kernel_rfl) (by kernel_rfl) (fun _ _ _ h => h) (Or.inl ⟨by rfl, by intro w' hS; go_simp⟩) hHeld ?_
      simp only [Act.put, List.setIfInBounds_toArray, List.set_cons_zero, List.set_cons_succ]
      refine wpAnyH_take (i := 1) (v := .int .i64 1) rfl (by kernel_rfl) (by kernel_rfl) (by kernel_rfl) (fun _ _ _ h => h) (Or.inl ⟨by rfl, by intro w' hS; go_simp; rfl⟩) hHeld ?_
      simp only [Act.put, List.setIfInBounds_toArray, List.set_cons_zero, List.set_cons_succ]
      refine wpAnyH_take (i := 2) (v := .pointer (some ⟨w1.heap.size, 1, none⟩)) rfl (by kernel_rfl) (by kernel_rfl) (by kernel_rfl) (fun _ _ _ h => h) (Or.inl ⟨by rfl, by intro w' hS; go_simp⟩) hHeld ?_
      simp only [Act.put, List.setIfInBounds_toArray, List.set_cons_zero, List.set_cons_succ]
      refine wpAnyH_take (i := 3) (v := .func (.func 42) #[] #[]) rfl (by kernel_rfl) (by kernel_rfl) (by kernel_rfl) (fun _ _ _ h => h) (Or.inl ⟨by rfl, by intro w' hS; have hc := f1 w' hS; go_simp⟩) hHeld ?_
      simp only [Act.put, List.setIfInBounds_toArray, List.set_cons_zero, List.set_cons_succ]
      refine' wpAnyH_take (i := 4) rfl (by kernel_rfl) (by kernel_rfl) (by kernel_rfl) (fun _ _ _ h => h) (yieldsIf_load_mid (by rfl) 56 (.tmp 2) rfl w.heap.size 0 rfl _ _ R1 Tryz.underlying56 rfl sideInfo) hHeld ?_
      simp only [Act.put, List.setIfInBounds_toArray, List.set_cons_zero, List.set_cons_succ]
      refine wpAnyH_ready (rs := [5]) (by kernel_rfl) (by simp) (AllReadyH.cons rfl (fun K hK => ?_) AllReadyH.nil)
      go_simp
      refine (HG _).mono ?_
      rintro e V1 ⟨rfl, lg⟩
      have L1' := L0.trans lg
      clear lg
      refine hK.out _ _ (L1'.s _) (fun hHeld1 => ?_)
      clear hK K
      try simp only [Act.put, List.setIfInBounds_toArray, List.set_cons_zero, List.set_cons_succ]
      refine wpAnyH_take (i := 6) (v := .agg X) rfl (by kernel_rfl) (by kernel_rfl) (by kernel_rfl) (fun _ _ _ h => h) (Or.inl ⟨by rfl, by intro w' hS; go_simp⟩) hHeld1 ?_
      simp only [Act.put, List.setIfInBounds_toArray, List.set_cons_zero, List.set_cons_succ]
      refine wpAnyH_take (i := 7) (v := .bool b) rfl (by kernel_rfl) (by kernel_rfl) (by kernel_rfl) (fun _ _ _ h => h) (Or.inl ⟨by rfl, by intro w' hS; go_simp⟩) hHeld1 ?_
      simp only [Act.put, List.setIfInBounds_toArray, List.set_cons_zero, List.set_cons_succ]
      refine wpAnyH_ready (rs := [8]) (by kernel_rfl) (by simp) (AllReadyH.cons rfl (fun K hK => ?_) AllReadyH.nil)
      rw [if_pos (by rfl)]
      have K5 := K2.later L1'
      refine wp_store_mid 35 (.tmp 4) (.tmp 28) rfl (w.heap.size + 1) 0 X rfl rfl (K5.thereAll _ (by rw [z1.out]; rfl)) i1.out c1.out ?_
      have KS := K5.setCells X (by rw [z1.out]; rfl)
      have M9 : LatS W4 [w.heap.size + 1] (V1.setCells (w.heap.size + 1) 0 X.toList) := LatS.setCells (by simp) _ _ _ (L1'.s _)
      have L9 : Lat w (V1.setCells (w.heap.size + 1) 0 X.toList) := Lat.setCells (by omega) _ _ _ (L4.trans L1')
      obtain ⟨V9, hV9⟩ : ∃ V, V1.setCells (w.heap.size + 1) 0 X.toList = V := ⟨_, rfl⟩
      rw [hV9] at KS M9 L9 ⊢
      clear hV9 K5
      refine hK.out _ _ M9 (fun hHeld2 => ?_)
      clear hK K
      try simp only [Act.put, List.setIfInBounds_toArray, List.set_cons_zero, List.set_cons_succ]
      refine wpAnyH_ready (rs := [9]) (by kernel_rfl) (by simp) (AllReadyH.cons rfl (fun K hK => ?_) AllReadyH.nil)
      go_simp
      refine hK.out _ _ M9 (fun hHeld3 => ?_)
      clear hK K
      try simp only [Act.put, List.setIfInBounds_toArray, List.set_cons_zero, List.set_cons_succ]
      refine wpAnyH_done (by kernel_rfl) ?_ _
      go_wp2
      obtain ⟨u, v, rfl⟩ := G1.out
      have e0 := KS.cell 0
      have e1 := KS.cell 1
      have e2 := KS.cell 2
      have e3 := KS.cell 3
      have e4 := KS.cell 4
      have e5 := KS.cell 5
      have e6 := KS.cell 6
      have e7 := KS.cell 7
      have e8 := KS.cell 8
      have e9 := KS.cell 9
      have e10 := KS.cell 10
      have e11 := KS.cell 11
      have e12 := KS.cell 12
      have e13 := KS.cell 13
      have e14 := KS.cell 14
      have e15 := KS.cell 15
      refine bodyPost_ret (v := .tuple #[.agg #[.int .u64 u.a0, .int .u64 u.a1, .int .u64 u.a2, .int .u64 u.a3, .int .u64 u.a4, .int .u64 u.a5, .int .u64 u.a6, .int .u64 u.a7, .int .u64 v.a0, .int .u64 v.a1, .int .u64 v.a2, .int .u64 v.a3, .int .u64 v.a4, .int .u64 v.a5, .int .u64 v.a6, .int .u64 v.a7], .bool b]) (by simp [results, Tryz.results25, go_sem, e0, e1, e2, e3, e4, e5, e6, e7, e8, e9, e10, e11, e12, e13, e14, e15]) rfl ?_
      exact ⟨rfl, L9⟩
  · have HG := hM13 rfl
    as_aux_lemma =>
      clear hM11 hM12 hM13 hM14 hM15
      refine wp_region_held_drew (S := fun w' => LatS W4 [w.heap.size + 1] w') (by kernel_rfl) (L0.s _) (fun hHeld => ?_)
      generalize W4.drew = V0 at L0 hHeld ⊢
      refine wpAnyH_take (i := 0) (v := .int .i64 13) rfl (by kernel_rfl) (by kernel_rfl) (by kernel_rfl) (fun _ _ _ h => h) (Or.inl ⟨by rfl, by intro w' hS; go_simp⟩) hHeld ?_
      simp only [Act.put, List.setIfInBounds_toArray, List.set_cons_zero, List.set_cons_succ]
      refine wpAnyH_take (i := 1) (v := .int .i64 2) rfl (by kernel_rfl) (by kernel_rfl) (by kernel_rfl) (fun _ _ _ h => h) (Or.inl ⟨by rfl, by intro w' hS; go_simp; rfl⟩) hHeld ?_
      simp only [Act.put, List.setIfInBounds_toArray, List.set_cons_zero, List.set_cons_succ]
      refine wpAnyH_take (i := 2) (v := .pointer (some ⟨w1.heap.size, 2, none⟩)) rfl (by kernel_rfl) (by kernel_rfl) (by kernel_rfl) (fun _ _ _ h => h) (Or.inl ⟨by rfl, by intro w' hS; go_simp⟩) hHeld ?_
      simp only [Act.put, List.setIfInBounds_toArray, List.set_cons_zero, List.set_cons_succ]
      refine wpAnyH_take (i := 3) (v := .func (.func 43) #[] #[]) rfl (by kernel_rfl) (by kernel_rfl) (by kernel_rfl) (fun _ _ _ h => h) (Or.inl ⟨by rfl, by intro w' hS; have hc := f2 w' hS; go_simp⟩) hHeld ?_
      simp only [Act.put, List.setIfInBounds_toArray, List.set_cons_zero, List.set_cons_succ]
      refine' wpAnyH_take (i := 4) rfl (by kernel_rfl) (by kernel_rfl) (by kernel_rfl) (fun _ _ _ h => h) (yieldsIf_load_mid (by rfl) 56 (.tmp 2) rfl w.heap.size 0 rfl _ _ R1 Tryz.underlying56 rfl sideInfo) hHeld ?_
      simp only [Act.put, List.setIfInBounds_toArray, List.set_cons_zero, List.set_cons_succ]
      refine wpAnyH_ready (rs := [5]) (by kernel_rfl) (by simp) (AllReadyH.cons rfl (fun K hK => ?_) AllReadyH.nil)
      go_simp
      refine (HG _).mono ?_
      rintro e V1 ⟨rfl, lg⟩
      have L1' := L0.trans lg
      clear lg
      refine hK.out _ _ (L1'.s _) (fun hHeld1 => ?_)
      clear hK K
      try simp only [Act.put, List.setIfInBounds_toArray, List.set_cons_zero, List.set_cons_succ]
      refine wpAnyH_take (i := 6) (v := .agg X) rfl (by kernel_rfl) (by kernel_rfl) (by kernel_rfl) (fun _ _ _ h => h) (Or.inl ⟨by rfl, by intro w' hS; go_simp⟩) hHeld1 ?_
      simp only [Act.put, List.setIfInBounds_toArray, List.set_cons_zero, List.set_cons_succ]
      refine wpAnyH_take (i := 7) (v := .bool b) rfl (by kernel_rfl) (by kernel_rfl) (by kernel_rfl) (fun _ _ _ h => h) (Or.inl ⟨by rfl, by intro w' hS; go_simp⟩) hHeld1 ?_
      simp only [Act.put, List.setIfInBounds_toArray, List.set_cons_zero, List.set_cons_succ]
      refine wpAnyH_ready (rs := [8]) (by kernel_rfl) (by simp) (AllReadyH.cons rfl (fun K hK => ?_) AllReadyH.nil)
      rw [if_pos (by rfl)]
      have K5 := K2.later L1'
      refine wp_store_mid 35 (.tmp 4) (.tmp 28) rfl (w.heap.size + 1) 0 X rfl rfl (K5.thereAll _ (by rw [z1.out]; rfl)) i1.out c1.out ?_
      have KS := K5.setCells X (by rw [z1.out]; rfl)
      have M9 : LatS W4 [w.heap.size + 1] (V1.setCells (w.heap.size + 1) 0 X.toList) := LatS.setCells (by simp) _ _ _ (L1'.s _)
      have L9 : Lat w (V1.setCells (w.heap.size + 1) 0 X.toList) := Lat.setCells (by omega) _ _ _ (L4.trans L1')
      obtain ⟨V9, hV9⟩ : ∃ V, V1.setCells (w.heap.size + 1) 0 X.toList = V := ⟨_, rfl⟩
      rw [hV9] at KS M9 L9 ⊢
      clear hV9 K5
      refine hK.out _ _ M9 (fun hHeld2 => ?_)
      clear hK K
      try simp only [Act.put, List.setIfInBounds_toArray, List.set_cons_zero, List.set_cons_succ]
      refine wpAnyH_ready (rs := [9]) (by kernel_rfl) (by simp) (AllReadyH.cons rfl (fun K hK => ?_) AllReadyH.nil)
      go_simp
      refine hK.out _ _ M9 (fun hHeld3 => ?_)
      clear hK K
      try simp only [Act.put, List.setIfInBounds_toArray, List.set_cons_zero, List.set_cons_succ]
      refine wpAnyH_done (by kernel_rfl) ?_ _
      go_wp2
      obtain ⟨u, v, rfl⟩ := G1.out
      have e0 := KS.cell 0
      have e1 := KS.cell 1
      have e2 := KS.cell 2
      have e3 := KS.cell 3
      have e4 := KS.cell 4
      have e5 := KS.cell 5
      have e6 := KS.cell 6
      have e7 := KS.cell 7
      have e8 := KS.cell 8
      have e9 := KS.cell 9
      have e10 := KS.cell 10
      have e11 := KS.cell 11
      have e12 := KS.cell 12
      have e13 := KS.cell 13
      have e14 := KS.cell 14
      have e15 := KS.cell 15
      refine bodyPost_ret (v := .tuple #[.agg #[.int .u64 u.a0, .int .u64 u.a1, .int .u64 u.a2, .int .u64 u.a3, .int .u64 u.a4, .int .u64 u.a5, .int .u64 u.a6, .int .u64 u.a7, .int .u64 v.a0, .int .u64 v.a1, .int .u64 v.a2, .int .u64 v.a3, .int .u64 v.a4, .int .u64 v.a5, .int .u64 v.a6, .int .u64 v.a7], .bool b]) (by simp [results, Tryz.results25, go_sem, e0, e1, e2, e3, e4, e5, e6, e7, e8, e9, e10, e11, e12, e13, e14, e15]) rfl ?_
      exact ⟨rfl, L9⟩
  · have HG := hM14 rfl
    as_aux_lemma =>
      clear hM11 hM12 hM13 hM14 hM15
      refine wp_region_held_drew (S := fun w' => LatS W4 [w.heap.size + 1] w') (by kernel_rfl) (L0.s _) (fun hHeld => ?_)
      generalize W4.drew = V0 at L0 hHeld ⊢
      refine wpAnyH_take (i := 0) (v := .int .i64 14) rfl (by kernel_rfl) (by kernel_rfl) (by kernel_rfl) (fun _ _ _ h => h) (Or.inl ⟨by rfl, by intro w' hS; go_simp⟩) hHeld ?_
      simp only [Act.put, List.setIfInBounds_toArray, List.set_cons_zero, List.set_cons_succ]
      refine wpAnyH_take (i := 1) (v := .int .i64 3) rfl (by kernel_rfl) (by kernel_rfl) (by kernel_rfl) (fun _ _ _ h => h) (Or.inl ⟨by rfl, by intro w' hS; go_simp; rfl⟩) hHeld ?_
      simp only [Act.put, List.setIfInBounds_toArray, List.set_cons_zero, List.set_cons_succ]
      refine wpAnyH_take (i := 2) (v := .pointer (some ⟨w1.heap.size, 3, none⟩)) rfl (by kernel_rfl) (by kernel_rfl) (by kernel_rfl) (fun _ _ _ h => h) (Or.inl ⟨by rfl, by intro w' hS; go_simp⟩) hHeld ?_
      simp only [Act.put, List.setIfInBounds_toArray, List.set_cons_zero, List.set_cons_succ]
      refine wpAnyH_take (i := 3) (v := .func (.func 44) #[] #[]) rfl (by kernel_rfl) (by kernel_rfl) (by kernel_rfl) (fun _ _ _ h => h) (Or.inl ⟨by rfl, by intro w' hS; have hc := f3 w' hS; go_simp⟩) hHeld ?_
      simp only [Act.put, List.setIfInBounds_toArray, List.set_cons_zero, List.set_cons_succ]
      refine' wpAnyH_take (i := 4) rfl (by kernel_rfl) (by kernel_rfl) (by kernel_rfl) (fun _ _ _ h => h) (yieldsIf_load_mid (by rfl) 56 (.tmp 2) rfl w.heap.size 0 rfl _ _ R1 Tryz.underlying56 rfl sideInfo) hHeld ?_
      simp only [Act.put, List.setIfInBounds_toArray, List.set_cons_zero, List.set_cons_succ]
      refine wpAnyH_ready (rs := [5]) (by kernel_rfl) (by simp) (AllReadyH.cons rfl (fun K hK => ?_) AllReadyH.nil)
      go_simp
      refine (HG _).mono ?_
      rintro e V1 ⟨rfl, lg⟩
      have L1' := L0.trans lg
      clear lg
      refine hK.out _ _ (L1'.s _) (fun hHeld1 => ?_)
      clear hK K
      try simp only [Act.put, List.setIfInBounds_toArray, List.set_cons_zero, List.set_cons_succ]
      refine wpAnyH_take (i := 6) (v := .agg X) rfl (by kernel_rfl) (by kernel_rfl) (by kernel_rfl) (fun _ _ _ h => h) (Or.inl ⟨by rfl, by intro w' hS; go_simp⟩) hHeld1 ?_
      simp only [Act.put, List.setIfInBounds_toArray, List.set_cons_zero, List.set_cons_succ]
      refine wpAnyH_take (i := 7) (v := .bool b) rfl (by kernel_rfl) (by kernel_rfl) (by kernel_rfl) (fun _ _ _ h => h) (Or.inl ⟨by rfl, by intro w' hS; go_simp⟩) hHeld1 ?_
      simp only [Act.put, List.setIfInBounds_toArray, List.set_cons_zero, List.set_cons_succ]
      refine wpAnyH_ready (rs := [8]) (by kernel_rfl) (by simp) (AllReadyH.cons rfl (fun K hK => ?_) AllReadyH.nil)
      rw [if_pos (by rfl)]
      have K5 := K2.later L1'
      refine wp_store_mid 35 (.tmp 4) (.tmp 28) rfl (w.heap.size + 1) 0 X rfl rfl (K5.thereAll _ (by rw [z1.out]; rfl)) i1.out c1.out ?_
      have KS := K5.setCells X (by rw [z1.out]; rfl)
      have M9 : LatS W4 [w.heap.size + 1] (V1.setCells (w.heap.size + 1) 0 X.toList) := LatS.setCells (by simp) _ _ _ (L1'.s _)
      have L9 : Lat w (V1.setCells (w.heap.size + 1) 0 X.toList) := Lat.setCells (by omega) _ _ _ (L4.trans L1')
      obtain ⟨V9, hV9⟩ : ∃ V, V1.setCells (w.heap.size + 1) 0 X.toList = V := ⟨_, rfl⟩
      rw [hV9] at KS M9 L9 ⊢
      clear hV9 K5
      refine hK.out _ _ M9 (fun hHeld2 => ?_)
      clear hK K
      try simp only [Act.put, List.setIfInBounds_toArray, List.set_cons_zero, List.set_cons_succ]
      refine wpAnyH_ready (rs := [9]) (by kernel_rfl) (by simp) (AllReadyH.cons rfl (fun K hK => ?_) AllReadyH.nil)
      go_simp
      refine hK.out _ _ M9 (fun hHeld3 => ?_)
      clear hK K
      try simp only [Act.put, List.setIfInBounds_toArray, List.set_cons_zero, List.set_cons_succ]
      refine wpAnyH_done (by kernel_rfl) ?_ _
      go_wp2
      obtain ⟨u, v, rfl⟩ := G1.out
      have e0 := KS.cell 0
      have e1 := KS.cell 1
      have e2 := KS.cell 2
      have e3 := KS.cell 3
      have e4 := KS.cell 4
      have e5 := KS.cell 5
      have e6 := KS.cell 6
      have e7 := KS.cell 7
      have e8 := KS.cell 8
      have e9 := KS.cell 9
      have e10 := KS.cell 10
      have e11 := KS.cell 11
      have e12 := KS.cell 12
      have e13 := KS.cell 13
      have e14 := KS.cell 14
      have e15 := KS.cell 15
      refine bodyPost_ret (v := .tuple #[.agg #[.int .u64 u.a0, .int .u64 u.a1, .int .u64 u.a2, .int .u64 u.a3, .int .u64 u.a4, .int .u64 u.a5, .int .u64 u.a6, .int .u64 u.a7, .int .u64 v.a0, .int .u64 v.a1, .int .u64 v.a2, .int .u64 v.a3, .int .u64 v.a4, .int .u64 v.a5, .int .u64 v.a6, .int .u64 v.a7], .bool b]) (by simp [results, Tryz.results25, go_sem, e0, e1, e2, e3, e4, e5, e6, e7, e8, e9, e10, e11, e12, e13, e14, e15]) rfl ?_
      exact ⟨rfl, L9⟩
  · have HG := hM15 rfl
    as_aux_lemma =>
      clear hM11 hM12 hM13 hM14 hM15
      refine wp_region_held_drew (S := fun w' => LatS W4 [w.heap.size + 1] w') (by kernel_rfl) (L0.s _) (fun hHeld => ?_)
      generalize W4.drew = V0 at L0 hHeld ⊢
      refine wpAnyH_take (i := 0) (v := .int .i64 15) rfl (by kernel_rfl) (by kernel_rfl) (by kernel_rfl) (fun _ _ _ h => h) (Or.inl ⟨by rfl, by intro w' hS; go_simp⟩) hHeld ?_
      simp only [Act.put, List.setIfInBounds_toArray, List.set_cons_zero, List.set_cons_succ]
      refine wpAnyH_take (i := 1) (v := .int .i64 4) rfl (by kernel_rfl) (by kernel_rfl) (by kernel_rfl) (fun _ _ _ h => h) (Or.inl ⟨by rfl, by intro w' hS; go_simp; rfl⟩) hHeld ?_
      simp only [Act.put, List.setIfInBounds_toArray, List.set_cons_zero, List.set_cons_succ]
      refine wpAnyH_take (i := 2) (v := .pointer (some ⟨w1.heap.size, 4, none⟩)) rfl (by kernel_rfl) (by kernel_rfl) (by kernel_rfl) (fun _ _ _ h => h) (Or.inl ⟨by rfl, by intro w' hS; go_simp⟩) hHeld ?_
      simp only [Act.put, List.setIfInBounds_toArray, List.set_cons_zero, List.set_cons_succ]
      refine wpAnyH_take (i := 3) (v := .func (.func 45) #[] #[]) rfl (by kernel_rfl) (by kernel_rfl) (by kernel_rfl) (fun _ _ _ h => h) (Or.inl ⟨by rfl, by intro w' hS; have hc := f4 w' hS; go_simp⟩) hHeld ?_
      simp only [Act.put, List.setIfInBounds_toArray, List.set_cons_zero, List.set_cons_succ]
      refine' wpAnyH_take (i := 4) rfl (by kernel_rfl) (by kernel_rfl) (by kernel_rfl) (fun _ _ _ h => h) (yieldsIf_load_mid (by rfl) 56 (.tmp 2) rfl w.heap.size 0 rfl _ _ R1 Tryz.underlying56 rfl sideInfo) hHeld ?_
      simp only [Act.put, List.setIfInBounds_toArray, List.set_cons_zero, List.set_cons_succ]
      refine wpAnyH_ready (rs := [5]) (by kernel_rfl) (by simp) (AllReadyH.cons rfl (fun K hK => ?_) AllReadyH.nil)
      go_simp
      refine (HG _).mono ?_
      rintro e V1 ⟨rfl, lg⟩
      have L1' := L0.trans lg
      clear lg
      refine hK.out _ _ (L1'.s _) (fun hHeld1 => ?_)
      clear hK K
      try simp only [Act.put, List.setIfInBounds_toArray, List.set_cons_zero, List.set_cons_succ]
      refine wpAnyH_take (i := 6) (v := .agg X) rfl (by kernel_rfl) (by kernel_rfl) (by kernel_rfl) (fun _ _ _ h => h) (Or.inl ⟨by rfl, by intro w' hS; go_simp⟩) hHeld1 ?_
      simp only [Act.put, List.setIfInBounds_toArray, List.set_cons_zero, List.set_cons_succ]
      refine wpAnyH_take (i := 7) (v := .bool b) rfl (by kernel_rfl) (by kernel_rfl) (by kernel_rfl) (fun _ _ _ h => h) (Or.inl ⟨by rfl, by intro w' hS; go_simp⟩) hHeld1 ?_
      simp only [Act.put, List.setIfInBounds_toArray, List.set_cons_zero, List.set_cons_succ]
      refine wpAnyH_ready (rs := [8]) (by kernel_rfl) (by simp) (AllReadyH.cons rfl (fun K hK => ?_) AllReadyH.nil)
      rw [if_pos (by rfl)]
      have K5 := K2.later L1'
      refine wp_store_mid 35 (.tmp 4) (.tmp 28) rfl (w.heap.size + 1) 0 X rfl rfl (K5.thereAll _ (by rw [z1.out]; rfl)) i1.out c1.out ?_
      have KS := K5.setCells X (by rw [z1.out]; rfl)
      have M9 : LatS W4 [w.heap.size + 1] (V1.setCells (w.heap.size + 1) 0 X.toList) := LatS.setCells (by simp) _ _ _ (L1'.s _)
      have L9 : Lat w (V1.setCells (w.heap.size + 1) 0 X.toList) := Lat.setCells (by omega) _ _ _ (L4.trans L1')
      obtain ⟨V9, hV9⟩ : ∃ V, V1.setCells (w.heap.size + 1) 0 X.toList = V := ⟨_, rfl⟩
      rw [hV9] at KS M9 L9 ⊢
      clear hV9 K5
      refine hK.out _ _ M9 (fun hHeld2 => ?_)
      clear hK K
      try simp only [Act.put, List.setIfInBounds_toArray, List.set_cons_zero, List.set_cons_succ]
      refine wpAnyH_ready (rs := [9]) (by kernel_rfl) (by simp) (AllReadyH.cons rfl (fun K hK => ?_) AllReadyH.nil)
      go_simp
      refine hK.out _ _ M9 (fun hHeld3 => ?_)
      clear hK K
      try simp only [Act.put, List.setIfInBounds_toArray, List.set_cons_zero, List.set_cons_succ]
      refine wpAnyH_done (by kernel_rfl) ?_ _
      go_wp2
      obtain ⟨u, v, rfl⟩ := G1.out
      have e0 := KS.cell 0
      have e1 := KS.cell 1
      have e2 := KS.cell 2
      have e3 := KS.cell 3
      have e4 := KS.cell 4
      have e5 := KS.cell 5
      have e6 := KS.cell 6
      have e7 := KS.cell 7
      have e8 := KS.cell 8
      have e9 := KS.cell 9
      have e10 := KS.cell 10
      have e11 := KS.cell 11
      have e12 := KS.cell 12
      have e13 := KS.cell 13
      have e14 := KS.cell 14
      have e15 := KS.cell 15
      refine bodyPost_ret (v := .tuple #[.agg #[.int .u64 u.a0, .int .u64 u.a1, .int .u64 u.a2, .int .u64 u.a3, .int .u64 u.a4, .int .u64 u.a5, .int .u64 u.a6, .int .u64 u.a7, .int .u64 v.a0, .int .u64 v.a1, .int .u64 v.a2, .int .u64 v.a3, .int .u64 v.a4, .int .u64 v.a5, .int .u64 v.a6, .int .u64 v.a7], .bool b]) (by simp [results, Tryz.results25, go_sem, e0, e1, e2, e3, e4, e5, e6, e7, e8, e9, e10, e11, e12, e13, e14, e15]) rfl ?_
      exact ⟨rfl, L9⟩

set_option maxRecDepth 100000 in
set_option maxHeartbeats 4000000 in
theorem fIneq_neg (m p s q t n : Int) (X : Array Value) (b : Bool) (hX : GoodX X) (HE : ∀ w, Calls Tryz.prog 39 #[.agg (sideC p s q t)] w (fun e w' => e = .returned (.int .i64 n) ∧ Lat w w')) (hn : n < 0) (hm : m = 11 ∨ m = 12 ∨ m = 13 ∨ m = 14 ∨ m = 15)
    (hM11 : m = 11 → ∀ w, Calls Tryz.prog 41 #[.agg (sideC q t p s)] w (ShB w X b)) (hM12 : m = 12 → ∀ w, Calls Tryz.prog 42 #[.agg (sideC q t p s)] w (ShB w X b)) (hM13 : m = 13 → ∀ w, Calls Tryz.prog 43 #[.agg (sideC q t p s)] w (ShB w X b)) (hM14 : m = 14 → ∀ w, Calls Tryz.prog 44 #[.agg (sideC q t p s)] w (ShB w X b)) (hM15 : m = 15 → ∀ w, Calls Tryz.prog 45 #[.agg (sideC q t p s)] w (ShB w X b)) (w : World) :
    Calls Tryz.prog 25 #[.agg (sideC p s q t), .int .i64 m] w (ShB w X b) := by
  have i1 := Lib.hid hX.info
  have z1 := Lib.hid hX.1
  have c1 := Lib.hid hX.2.1
  have G1 := Lib.hid hX.cells
  have HT := fun w => fTurned_any p s q t w
  unfold sideC at HE hM11 hM12 hM13 hM14 hM15 HT ⊢
  have h1 : ((n : Int) == 0) = false := by simp; omega
  have h2 : decide (n < 0) = true := by simp; omega
  clear hX hn
  go_enter Tryz.func25, Tryz.ntmps25
  go_wp2_with fail
  refine name2 (Q := fun W => Calls _ _ _ W _) ?_
  intro W hl hs k1 k2
  refine (HE W).mono ?_
  rintro e w1 ⟨rfl, l1⟩
  have K1 := k1.later l1
  have K2 := k2.later l1
  have L1 := hl.trans l1
  clear k1 k2 hl l1 hs HE
  have d0 := K1.cell 0
  have d1 := K1.cell 1
  have d2 := K1.cell 2
  have d3 := K1.cell 3
  have hne : w.heap.size + 1 ≠ w.heap.size := by omega
  go_wp2_with fail
  refine (HT w1).mono ?_
  rintro e w2 ⟨rfl, l2⟩
  have K1 := K1.later l2
  have K2 := K2.later l2
  have L1 := L1.trans l2
  clear l2
  clear d0 d1 d2 d3
  have d0 := K1.cell 0
  have d1 := K1.cell 1
  have d2 := K1.cell 2
  have d3 := K1.cell 3
  have gg0 := K1.frozen 0
  have gg1 := K1.frozen 1
  have gg2 := K1.frozen 2
  have gg3 := K1.frozen 3
  go_upto_region 7 with (fail)
  refine gen (Q := fun W => Code.wp _ _ _ _ W) _ ?_
  intro W4 hW4
  have s2 : ((((w2.setCell ⟨w.heap.size, 0, none⟩ (.int .i64 q)).setCell ⟨w.heap.size, 1, none⟩ (.int .i64 t)).setCell ⟨w.heap.size, 2, none⟩ (.int .i64 p)).setCell ⟨w.heap.size, 3, none⟩ (.int .i64 s)).heap.size = w2.heap.size := by simp [World.setCell]
  have J1 : Blk W4 w.heap.size 56 #[.int .i64 q, .int .i64 t, .int .i64 p, .int .i64 s] := by
    rw [hW4]
    have := ((((K1.set 0 (.int .i64 q)).set 1 (.int .i64 t)).set 2 (.int .i64 p)).set 3 (.int .i64 s)).alloc (.cells #[.func (.func 41) #[] #[], .func (.func 42) #[] #[], .func (.func 43) #[] #[], .func (.func 44) #[] #[], .func (.func 45) #[] #[]] 83)
    simpa using this
  have J2 : Blk W4 (w.heap.size + 1) 35 #[.int .u64 W8.zero.a0, .int .u64 W8.zero.a1, .int .u64 W8.zero.a2, .int .u64 W8.zero.a3, .int .u64 W8.zero.a4, .int .u64 W8.zero.a5, .int .u64 W8.zero.a6, .int .u64 W8.zero.a7, .int .u64 W8.zero.a0, .int .u64 W8.zero.a1, .int .u64 W8.zero.a2, .int .u64 W8.zero.a3, .int .u64 W8.zero.a4, .int .u64 W8.zero.a5, .int .u64 W8.zero.a6, .int .u64 W8.zero.a7] := by
    rw [hW4]
    exact ((((K2.far (p := ⟨w.heap.size, 0, none⟩) hne (.int .i64 q)).far (p := ⟨w.heap.size, 1, none⟩) hne (.int .i64 t)).far (p := ⟨w.heap.size, 2, none⟩) hne (.int .i64 p)).far (p := ⟨w.heap.size, 3, none⟩) hne (.int .i64 s)).alloc _
  have K7 : Blk W4 w2.heap.size 83 #[.func (.func 41) #[] #[], .func (.func 42) #[] #[], .func (.func 43) #[] #[], .func (.func 44) #[] #[], .func (.func 45) #[] #[]] := by
    rw [hW4]
    have := Blk.new ((((w2.setCell ⟨w.heap.size, 0, none⟩ (.int .i64 q)).setCell ⟨w.heap.size, 1, none⟩ (.int .i64 t)).setCell ⟨w.heap.size, 2, none⟩ (.int .i64 p)).setCell ⟨w.heap.size, 3, none⟩ (.int .i64 s)) 83 #[.func (.func 41) #[] #[], .func (.func 42) #[] #[], .func (.func 43) #[] #[], .func (.func 44) #[] #[], .func (.func 45) #[] #[]]
    rw [s2] at this
    exact this
  have L4 : Lat w W4 := by
    rw [hW4]
    exact ((((L1.setCell (p := ⟨w.heap.size, 0, none⟩) (Nat.le_refl _) (.int .i64 q)).setCell (p := ⟨w.heap.size, 1, none⟩) (Nat.le_refl _) (.int .i64 t)).setCell (p := ⟨w.heap.size, 2, none⟩) (Nat.le_refl _) (.int .i64 p)).setCell (p := ⟨w.heap.size, 3, none⟩) (Nat.le_refl _) (.int .i64 s)).trans (Lat.alloc _ _)
  have hlt2 := K2.lt
  clear d0 d1 d2 d3
  clear hW4 s2 gg0 gg1 gg2 gg3 K1 K2
  have K1 := J1
  have K2 := J2
  clear J1 J2
  have hne1 : w.heap.size ∉ [w.heap.size + 1] := by simp
  have hne7 : w2.heap.size ∉ [w.heap.size + 1] := by simp; omega
  have R1 : ∀ w', LatS W4 [w.heap.size + 1] w' → w'.rangeAt w.heap.size 0 [.int .i64 q, .int .i64 t, .int .i64 p, .int .i64 s] := fun w' hl => Blk.rangeAll (l := [.int .i64 q, .int .i64 t, .int .i64 p, .int .i64 s]) (K1.keepS hne1 hl)
  have f0 := K7.evS hne7 0 rfl
  have f1 := K7.evS hne7 1 rfl
  have f2 := K7.evS hne7 2 rfl
  have f3 := K7.evS hne7 3 rfl
  have f4 := K7.evS hne7 4 rfl
  have L0 := Lat.drew W4
  rcases hm with rfl | rfl | rfl | rfl | rfl
  · have HG := hM11 rfl
    as_aux_lemma =>
      clear hM11 hM12 hM13 hM14 hM15
      refine wp_region_held_drew (S := fun w' => LatS W4 [w.heap.size + 1] w') (by kernel_rfl) (L0.s _) (fun hHeld => ?_)
      generalize W4.drew = V0 at L0 hHeld ⊢
      refine wpAnyH_take (i := 0) (v := .int .i64 11) rfl (by kernel_rfl) (by kernel_rfl) (by kernel_rfl) (fun _ _ _ h => h) (Or.inl ⟨by rfl, by intro w' hS; go_simp⟩) hHeld ?_
      simp only [Act.put, List.setIfInBounds_toArray, List.set_cons_zero, List.set_cons_succ]
      refine wpAnyH_take (i := 1) (v := .int .i64 0) rfl (by kernel_rfl) (by kernel_rfl) (by kernel_rfl) (fun _ _ _ h => h) (Or.inl ⟨by rfl, by intro w' hS; go_simp; rfl⟩) hHeld ?_
      simp only [Act.put, List.setIfInBounds_toArray, List.set_cons_zero, List.set_cons_succ]
      refine wpAnyH_take (i := 2) (v := .pointer (some ⟨w2.heap.size, 0, none⟩)) rfl (by kernel_rfl) (by kernel_rfl) (by kernel_rfl) (fun _ _ _ h => h) (Or.inl ⟨by rfl, by intro w' hS; go_simp⟩) hHeld ?_
      simp only [Act.put, List.setIfInBounds_toArray, List.set_cons_zero, List.set_cons_succ]
      refine wpAnyH_take (i := 3) (v := .func (.func 41) #[] #[]) rfl (by kernel_rfl) (by kernel_rfl) (by kernel_rfl) (fun _ _ _ h => h) (Or.inl ⟨by rfl, by intro w' hS; have hc := f0 w' hS; go_simp⟩) hHeld ?_
      simp only [Act.put, List.setIfInBounds_toArray, List.set_cons_zero, List.set_cons_succ]
      refine' wpAnyH_take (i := 4) rfl (by kernel_rfl) (by kernel_rfl) (by kernel_rfl) (fun _ _ _ h => h) (yieldsIf_load_mid (by rfl) 56 (.tmp 2) rfl w.heap.size 0 rfl _ _ R1 Tryz.underlying56 rfl sideInfo) hHeld ?_
      simp only [Act.put, List.setIfInBounds_toArray, List.set_cons_zero, List.set_cons_succ]
      refine wpAnyH_ready (rs := [5]) (by kernel_rfl) (by simp) (AllReadyH.cons rfl (fun K hK => ?_) AllReadyH.nil)
      go_simp
      refine (HG _).mono ?_
      rintro e V1 ⟨rfl, lg⟩
      have L1' := L0.trans lg
      clear lg
      refine hK.out _ _ (L1'.s _) (fun hHeld1 => ?_)
      clear hK K
      try simp only [Act.put, List.setIfInBounds_toArray, List.set_cons_zero, List.set_cons_succ]
      refine wpAnyH_take (i := 6) (v := .agg X) rfl (by kernel_rfl) (by kernel_rfl) (by kernel_rfl) (fun _ _ _ h => h) (Or.inl ⟨by rfl, by intro w' hS; go_simp⟩) hHeld1 ?_
      simp only [Act.put, List.setIfInBounds_toArray, List.set_cons_zero, List.set_cons_succ]
      refine wpAnyH_take (i := 7) (v := .bool b) rfl (by kernel_rfl) (by kernel_rfl) (by kernel_rfl) (fun _ _ _ h => h) (Or.inl ⟨by rfl, by intro w' hS; go_simp⟩) hHeld1 ?_
      simp only [Act.put, List.setIfInBounds_toArray, List.set_cons_zero, List.set_cons_succ]
      refine wpAnyH_ready (rs := [8]) (by kernel_rfl) (by simp) (AllReadyH.cons rfl (fun K hK => ?_) AllReadyH.nil)
      rw [if_pos (by rfl)]
      have K5 := K2.later L1'
      refine wp_store_mid 35 (.tmp 4) (.tmp 28) rfl (w.heap.size + 1) 0 X rfl rfl (K5.thereAll _ (by rw [z1.out]; rfl)) i1.out c1.out ?_
      have KS := K5.setCells X (by rw [z1.out]; rfl)
      have M9 : LatS W4 [w.heap.size + 1] (V1.setCells (w.heap.size + 1) 0 X.toList) := LatS.setCells (by simp) _ _ _ (L1'.s _)
      have L9 : Lat w (V1.setCells (w.heap.size + 1) 0 X.toList) := Lat.setCells (by omega) _ _ _ (L4.trans L1')
      obtain ⟨V9, hV9⟩ : ∃ V, V1.setCells (w.heap.size + 1) 0 X.toList = V := ⟨_, rfl⟩
      rw [hV9] at KS M9 L9 ⊢
      clear hV9 K5
      refine hK.out _ _ M9 (fun hHeld2 => ?_)
      clear hK K
      try simp only [Act.put, List.setIfInBounds_toArray, List.set_cons_zero, List.set_cons_succ]
      refine wpAnyH_ready (rs := [9]) (by kernel_rfl) (by simp) (AllReadyH.cons rfl (fun K hK => ?_) AllReadyH.nil)
      go_simp
      refine hK.out _ _ M9 (fun hHeld3 => ?_)
      clear hK K
      try simp only [Act.put, List.setIfInBounds_toArray, List.set_cons_zero, List.set_cons_succ]
      refine wpAnyH_done (by kernel_rfl) ?_ _
      go_wp2
      obtain ⟨u, v, rfl⟩ := G1.out
      have e0 := KS.cell 0
      have e1 := KS.cell 1
      have e2 := KS.cell 2
      have e3 := KS.cell 3
      have e4 := KS.cell 4
      have e5 := KS.cell 5
      have e6 := KS.cell 6
      have e7 := KS.cell 7
      have e8 := KS.cell 8
      have e9 := KS.cell 9
      have e10 := KS.cell 10
      have e11 := KS.cell 11
      have e12 := KS.cell 12
      have e13 := KS.cell 13
      have e14 := KS.cell 14
      have e15 := KS.cell 15
      refine bodyPost_ret (v := .tuple #[.agg #[.int .u64 u.a0, .int .u64 u.a1, .int .u64 u.a2, .int .u64 u.a3, .int .u64 u.a4, .int .u64 u.a5, .int .u64 u.a6, .int .u64 u.a7, .int .u64 v.a0, .int .u64 v.a1, .int .u64 v.a2, .int .u64 v.a3, .int .u64 v.a4, .int .u64 v.a5, .int .u64 v.a6, .int .u64 v.a7], .bool b]) (by simp [results, Tryz.results25, go_sem, e0, e1, e2, e3, e4, e5, e6, e7, e8, e9, e10, e11, e12, e13, e14, e15]) rfl ?_
      exact ⟨rfl, L9⟩
  · have HG := hM12 rfl
    as_aux_lemma =>
      clear hM11 hM12 hM13 hM14 hM15
      refine wp_region_held_drew (S := fun w' => LatS W4 [w.heap.size + 1] w') (by kernel_rfl) (L0.s _) (fun hHeld => ?_)
      generalize W4.drew = V0 at L0 hHeld ⊢
      refine wpAnyH_take (i := 0) (v := .int .i64 12) rfl (by kernel_rfl) (by kernel_rfl) (by kernel_rfl) (fun _ _ _ h => h) (Or.inl ⟨by rfl, by intro w' hS; go_simp⟩) hHeld ?_
      simp only [Act.put, List.setIfInBounds_toArray, List.set_cons_zero, List.set_cons_succ]
      refine wpAnyH_take (i := 1) (v := .int .i64 1) rfl (by kernel_rfl) (by kernel_rfl) (by kernel_rfl) (fun _ _ _ h => h) (Or.inl ⟨by rfl, by intro w' hS; go_simp; rfl⟩) hHeld ?_
      simp only [Act.put, List.setIfInBounds_toArray, List.set_cons_zero, List.set_cons_succ]
      refine wpAnyH_take (i := 2) (v := .pointer (some ⟨w2.heap.size, 1, none⟩)) rfl (by kernel_rfl) (by kernel_rfl) (by kernel_rfl) (fun _ _ _ h => h) (Or.inl ⟨by rfl, by intro w' hS; go_simp⟩) hHeld ?_
      simp only [Act.put, List.setIfInBounds_toArray, List.set_cons_zero, List.set_cons_succ]
      refine wpAnyH_take (i := 3) (v := .func (.func 42) #[] #[]) rfl (by kernel_rfl) (by kernel_rfl) (by kernel_rfl) (fun _ _ _ h => h) (Or.inl ⟨by rfl, by intro w' hS; have hc := f1 w' hS; go_simp⟩) hHeld ?_
      simp only [Act.put, List.setIfInBounds_toArray, List.set_cons_zero, List.set_cons_succ]
      refine' wpAnyH_take (i := 4) rfl (by kernel_rfl) (by kernel_rfl) (by kernel_rfl) (fun _ _ _ h => h) (yieldsIf_load_mid (by rfl) 56 (.tmp 2) rfl w.heap.size 0 rfl _ _ R1 Tryz.underlying56 rfl sideInfo) hHeld ?_
      simp only [Act.put, List.setIfInBounds_toArray, List.set_cons_zero, List.set_cons_succ]
      refine wpAnyH_ready (rs := [5]) (by kernel_rfl) (by simp) (AllReadyH.cons rfl (fun K hK => ?_) AllReadyH.nil)
      go_simp
      refine (HG _).mono ?_
      rintro e V1 ⟨rfl, lg⟩
      have L1' := L0.trans lg
      clear lg
      refine hK.out _ _ (L1'.s _) (fun hHeld1 => ?_)
      clear hK K
      try simp only [Act.put, List.setIfInBounds_toArray, List.set_cons_zero, List.set_cons_succ]
      refine wpAnyH_take (i := 6) (v := .agg X) rfl (by kernel_rfl) (by kernel_rfl) (by kernel_rfl) (fun _ _ _ h => h) (Or.inl ⟨by rfl, by intro w' hS; go_simp⟩) hHeld1 ?_
      simp only [Act.put, List.setIfInBounds_toArray, List.set_cons_zero, List.set_cons_succ]
      refine wpAnyH_take (i := 7) (v := .bool b) rfl (by kernel_rfl) (by kernel_rfl) (by kernel_rfl) (fun _ _ _ h => h) (Or.inl ⟨by rfl, by intro w' hS; go_simp⟩) hHeld1 ?_
      simp only [Act.put, List.setIfInBounds_toArray, List.set_cons_zero, List.set_cons_succ]
      refine wpAnyH_ready (rs := [8]) (by kernel_rfl) (by simp) (AllReadyH.cons rfl (fun K hK => ?_) AllReadyH.nil)
      rw [if_pos (by rfl)]
      have K5 := K2.later L1'
      refine wp_store_mid 35 (.tmp 4) (.tmp 28) rfl (w.heap.size + 1) 0 X rfl rfl (K5.thereAll _ (by rw [z1.out]; rfl)) i1.out c1.out ?_
      have KS := K5.setCells X (by rw [z1.out]; rfl)
      have M9 : LatS W4 [w.heap.size + 1] (V1.setCells (w.heap.size + 1) 0 X.toList) := LatS.setCells (by simp) _ _ _ (L1'.s _)
      have L9 : Lat w (V1.setCells (w.heap.size + 1) 0 X.toList) := Lat.setCells (by omega) _ _ _ (L4.trans L1')
      obtain ⟨V9, hV9⟩ : ∃ V, V1.setCells (w.heap.size + 1) 0 X.toList = V := ⟨_, rfl⟩
      rw [hV9] at KS M9 L9 ⊢
      clear hV9 K5
      refine hK.out _ _ M9 (fun hHeld2 => ?_)
      clear hK K
      try simp only [Act.put, List.setIfInBounds_toArray, List.set_cons_zero, List.set_cons_succ]
      refine wpAnyH_ready (rs := [9]) (by kernel_rfl) (by simp) (AllReadyH.cons rfl (fun K hK => ?_) AllReadyH.nil)
      go_simp
      refine hK.out _ _ M9 (fun hHeld3 => ?_)
      clear hK K
      try simp only [Act.put, List.setIfInBounds_toArray, List.set_cons_zero, List.set_cons_succ]
      refine wpAnyH_done (by kernel_rfl) ?_ _
      go_wp2
      obtain ⟨u, v, rfl⟩ := G1.out
      have e0 := KS.cell 0
      have e1 := KS.cell 1
      have e2 := KS.cell 2
      have e3 := KS.cell 3
      have e4 := KS.cell 4
      have e5 := KS.cell 5
      have e6 := KS.cell 6
      have e7 := KS.cell 7
      have e8 := KS.cell 8
      have e9 := KS.cell 9
      have e10 := KS.cell 10
      have e11 := KS.cell 11
      have e12 := KS.cell 12
      have e13 := KS.cell 13
      have e14 := KS.cell 14
      have e15 := KS.cell 15
      refine bodyPost_ret (v := .tuple #[.agg #[.int .u64 u.a0, .int .u64 u.a1, .int .u64 u.a2, .int .u64 u.a3, .int .u64 u.a4, .int .u64 u.a5, .int .u64 u.a6, .int .u64 u.a7, .int .u64 v.a0, .int .u64 v.a1, .int .u64 v.a2, .int .u64 v.a3, .int .u64 v.a4, .int .u64 v.a5, .int .u64 v.a6, .int .u64 v.a7], .bool b]) (by simp [results, Tryz.results25, go_sem, e0, e1, e2, e3, e4, e5, e6, e7, e8, e9, e10, e11, e12, e13, e14, e15]) rfl ?_
      exact ⟨rfl, L9⟩
  · have HG := hM13 rfl
    as_aux_lemma =>
      clear hM11 hM12 hM13 hM14 hM15
      refine wp_region_held_drew (S := fun w' => LatS W4 [w.heap.size + 1] w') (by kernel_rfl) (L0.s _) (fun hHeld => ?_)
      generalize W4.drew = V0 at L0 hHeld ⊢
      refine wpAnyH_take (i := 0) (v := .int .i64 13) rfl (by kernel_rfl) (by kernel_rfl) (by kernel_rfl) (fun _ _ _ h => h) (Or.inl ⟨by rfl, by intro w' hS; go_simp⟩) hHeld ?_
      simp only [Act.put, List.setIfInBounds_toArray, List.set_cons_zero, List.set_cons_succ]
      refine wpAnyH_take (i := 1) (v := .int .i64 2) rfl (by kernel_rfl) (by kernel_rfl) (by kernel_rfl) (fun _ _ _ h => h) (Or.inl ⟨by rfl, by intro w' hS; go_simp; rfl⟩) hHeld ?_
      simp only [Act.put, List.setIfInBounds_toArray, List.set_cons_zero, List.set_cons_succ]
      refine wpAnyH_take (i := 2) (v := .pointer (some ⟨w2.heap.size, 2, none⟩)) rfl (by kernel_rfl) (by kernel_rfl) (by kernel_rfl) (fun _ _ _ h => h) (Or.inl ⟨by rfl, by intro w' hS; go_simp⟩) hHeld ?_
      simp only [Act.put, List.setIfInBounds_toArray, List.set_cons_zero, List.set_cons_succ]
      refine wpAnyH_take (i := 3) (v := .func (.func 43) #[] #[]) rfl (by kernel_rfl) (by kernel_rfl) (by kernel_rfl) (fun _ _ _ h => h) (Or.inl ⟨by rfl, by intro w' hS; have hc := f2 w' hS; go_simp⟩) hHeld ?_
      simp only [Act.put, List.setIfInBounds_toArray, List.set_cons_zero, List.set_cons_succ]
      refine' wpAnyH_take (i := 4) rfl (by kernel_rfl) (by kernel_rfl) (by kernel_rfl) (fun _ _ _ h => h) (yieldsIf_load_mid (by rfl) 56 (.tmp 2) rfl w.heap.size 0 rfl _ _ R1 Tryz.underlying56 rfl sideInfo) hHeld ?_
      simp only [Act.put, List.setIfInBounds_toArray, List.set_cons_zero, List.set_cons_succ]
      refine wpAnyH_ready (rs := [5]) (by kernel_rfl) (by simp) (AllReadyH.cons rfl (fun K hK => ?_) AllReadyH.nil)
      go_simp
      refine (HG _).mono ?_
      rintro e V1 ⟨rfl, lg⟩
      have L1' := L0.trans lg
      clear lg
      refine hK.out _ _ (L1'.s _) (fun hHeld1 => ?_)
      clear hK K
      try simp only [Act.put, List.setIfInBounds_toArray, List.set_cons_zero, List.set_cons_succ]
      refine wpAnyH_take (i := 6) (v := .agg X) rfl (by kernel_rfl) (by kernel_rfl) (by kernel_rfl) (fun _ _ _ h => h) (Or.inl ⟨by rfl, by intro w' hS; go_simp⟩) hHeld1 ?_
      simp only [Act.put, List.setIfInBounds_toArray, List.set_cons_zero, List.set_cons_succ]
      refine wpAnyH_take (i := 7) (v := .bool b) rfl (by kernel_rfl) (by kernel_rfl) (by kernel_rfl) (fun _ _ _ h => h) (Or.inl ⟨by rfl, by intro w' hS; go_simp⟩) hHeld1 ?_
      simp only [Act.put, List.setIfInBounds_toArray, List.set_cons_zero, List.set_cons_succ]
      refine wpAnyH_ready (rs := [8]) (by kernel_rfl) (by simp) (AllReadyH.cons rfl (fun K hK => ?_) AllReadyH.nil)
      rw [if_pos (by rfl)]
      have K5 := K2.later L1'
      refine wp_store_mid 35 (.tmp 4) (.tmp 28) rfl (w.heap.size + 1) 0 X rfl rfl (K5.thereAll _ (by rw [z1.out]; rfl)) i1.out c1.out ?_
      have KS := K5.setCells X (by rw [z1.out]; rfl)
      have M9 : LatS W4 [w.heap.size + 1] (V1.setCells (w.heap.size + 1) 0 X.toList) := LatS.setCells (by simp) _ _ _ (L1'.s _)
      have L9 : Lat w (V1.setCells (w.heap.size + 1) 0 X.toList) := Lat.setCells (by omega) _ _ _ (L4.trans L1')
      obtain ⟨V9, hV9⟩ : ∃ V, V1.setCells (w.heap.size + 1) 0 X.toList = V := ⟨_, rfl⟩
      rw [hV9] at KS M9 L9 ⊢
      clear hV9 K5
      refine hK.out _ _ M9 (fun hHeld2 => ?_)
      clear hK K
      try simp only [Act.put, List.setIfInBounds_toArray, List.set_cons_zero, List.set_cons_succ]
      refine wpAnyH_ready (rs := [9]) (by kernel_rfl) (by simp) (AllReadyH.cons rfl (fun K hK => ?_) AllReadyH.nil)
      go_simp
      refine hK.out _ _ M9 (fun hHeld3 => ?_)
      clear hK K
      try simp only [Act.put, List.setIfInBounds_toArray, List.set_cons_zero, List.set_cons_succ]
      refine wpAnyH_done (by kernel_rfl) ?_ _
      go_wp2
      obtain ⟨u, v, rfl⟩ := G1.out
      have e0 := KS.cell 0
      have e1 := KS.cell 1
      have e2 := KS.cell 2
      have e3 := KS.cell 3
      have e4 := KS.cell 4
      have e5 := KS.cell 5
      have e6 := KS.cell 6
      have e7 := KS.cell 7
      have e8 := KS.cell 8
      have e9 := KS.cell 9
      have e10 := KS.cell 10
      have e11 := KS.cell 11
      have e12 := KS.cell 12
      have e13 := KS.cell 13
      have e14 := KS.cell 14
      have e15 := KS.cell 15
      refine bodyPost_ret (v := .tuple #[.agg #[.int .u64 u.a0, .int .u64 u.a1, .int .u64 u.a2, .int .u64 u.a3, .int .u64 u.a4, .int .u64 u.a5, .int .u64 u.a6, .int .u64 u.a7, .int .u64 v.a0, .int .u64 v.a1, .int .u64 v.a2, .int .u64 v.a3, .int .u64 v.a4, .int .u64 v.a5, .int .u64 v.a6, .int .u64 v.a7], .bool b]) (by simp [results, Tryz.results25, go_sem, e0, e1, e2, e3, e4, e5, e6, e7, e8, e9, e10, e11, e12, e13, e14, e15]) rfl ?_
      exact ⟨rfl, L9⟩
  · have HG := hM14 rfl
    as_aux_lemma =>
      clear hM11 hM12 hM13 hM14 hM15
      refine wp_region_held_drew (S := fun w' => LatS W4 [w.heap.size + 1] w') (by kernel_rfl) (L0.s _) (fun hHeld => ?_)
      generalize W4.drew = V0 at L0 hHeld ⊢
      refine wpAnyH_take (i := 0) (v := .int .i64 14) rfl (by kernel_rfl) (by kernel_rfl) (by kernel_rfl) (fun _ _ _ h => h) (Or.inl ⟨by rfl, by intro w' hS; go_simp⟩) hHeld ?_
      simp only [Act.put, List.setIfInBounds_toArray, List.set_cons_zero, List.set_cons_succ]
      refine wpAnyH_take (i := 1) (v := .int .i64 3) rfl (by kernel_rfl) (by kernel_rfl) (by kernel_rfl) (fun _ _ _ h => h) (Or.inl ⟨by rfl, by intro w' hS; go_simp; rfl⟩) hHeld ?_
      simp only [Act.put, List.setIfInBounds_toArray, List.set_cons_zero, List.set_cons_succ]
      refine wpAnyH_take (i := 2) (v := .pointer (some ⟨w2.heap.size, 3, none⟩)) rfl (by kernel_rfl) (by kernel_rfl) (by kernel_rfl) (fun _ _ _ h => h) (Or.inl ⟨by rfl, by intro w' hS; go_simp⟩) hHeld ?_
      simp only [Act.put, List.setIfInBounds_toArray, List.set_cons_zero, List.set_cons_succ]
      refine wpAnyH_take (i := 3) (v := .func (.func 44) #[] #[]) rfl (by kernel_rfl) (by kernel_rfl) (by kernel_rfl) (fun _ _ _ h => h) (Or.inl ⟨by rfl, by intro w' hS; have hc := f3 w' hS; go_simp⟩) hHeld ?_
      simp only [Act.put, List.setIfInBounds_toArray, List.set_cons_zero, List.set_cons_succ]
      refine' wpAnyH_take (i := 4) rfl (by kernel_rfl) (by kernel_rfl) (by kernel_rfl) (fun _ _ _ h => h) (yieldsIf_load_mid (by rfl) 56 (.tmp 2) rfl w.heap.size 0 rfl _ _ R1 Tryz.underlying56 rfl sideInfo) hHeld ?_
      simp only [Act.put, List.setIfInBounds_toArray, List.set_cons_zero, List.set_cons_succ]
      refine wpAnyH_ready (rs := [5]) (by kernel_rfl) (by simp) (AllReadyH.cons rfl (fun K hK => ?_) AllReadyH.nil)
      go_simp
      refine (HG _).mono ?_
      rintro e V1 ⟨rfl, lg⟩
      have L1' := L0.trans lg
      clear lg
      refine hK.out _ _ (L1'.s _) (fun hHeld1 => ?_)
      clear hK K
      try simp only [Act.put, List.setIfInBounds_toArray, List.set_cons_zero, List.set_cons_succ]
      refine wpAnyH_take (i := 6) (v := .agg X) rfl (by kernel_rfl) (by kernel_rfl) (by kernel_rfl) (fun _ _ _ h => h) (Or.inl ⟨by rfl, by intro w' hS; go_simp⟩) hHeld1 ?_
      simp only [Act.put, List.setIfInBounds_toArray, List.set_cons_zero, List.set_cons_succ]
      refine wpAnyH_take (i := 7) (v := .bool b) rfl (by kernel_rfl) (by kernel_rfl) (by kernel_rfl) (fun _ _ _ h => h) (Or.inl ⟨by rfl, by intro w' hS; go_simp⟩) hHeld1 ?_
      simp only [Act.put, List.setIfInBounds_toArray, List.set_cons_zero, List.set_cons_succ]
      refine wpAnyH_ready (rs := [8]) (by kernel_rfl) (by simp) (AllReadyH.cons rfl (fun K hK => ?_) AllReadyH.nil)
      rw [if_pos (by rfl)]
      have K5 := K2.later L1'
      refine wp_store_mid 35 (.tmp 4) (.tmp 28) rfl (w.heap.size + 1) 0 X rfl rfl (K5.thereAll _ (by rw [z1.out]; rfl)) i1.out c1.out ?_
      have KS := K5.setCells X (by rw [z1.out]; rfl)
      have M9 : LatS W4 [w.heap.size + 1] (V1.setCells (w.heap.size + 1) 0 X.toList) := LatS.setCells (by simp) _ _ _ (L1'.s _)
      have L9 : Lat w (V1.setCells (w.heap.size + 1) 0 X.toList) := Lat.setCells (by omega) _ _ _ (L4.trans L1')
      obtain ⟨V9, hV9⟩ : ∃ V, V1.setCells (w.heap.size + 1) 0 X.toList = V := ⟨_, rfl⟩
      rw [hV9] at KS M9 L9 ⊢
      clear hV9 K5
      refine hK.out _ _ M9 (fun hHeld2 => ?_)
      clear hK K
      try simp only [Act.put, List.setIfInBounds_toArray, List.set_cons_zero, List.set_cons_succ]
      refine wpAnyH_ready (rs := [9]) (by kernel_rfl) (by simp) (AllReadyH.cons rfl (fun K hK => ?_) AllReadyH.nil)
      go_simp
      refine hK.out _ _ M9 (fun hHeld3 => ?_)
      clear hK K
      try simp only [Act.put, List.setIfInBounds_toArray, List.set_cons_zero, List.set_cons_succ]
      refine wpAnyH_done (by kernel_rfl) ?_ _
      go_wp2
      obtain ⟨u, v, rfl⟩ := G1.out
      have e0 := KS.cell 0
      have e1 := KS.cell 1
      have e2 := KS.cell 2
      have e3 := KS.cell 3
      have e4 := KS.cell 4
      have e5 := KS.cell 5
      have e6 := KS.cell 6
      have e7 := KS.cell 7
      have e8 := KS.cell 8
      have e9 := KS.cell 9
      have e10 := KS.cell 10
      have e11 := KS.cell 11
      have e12 := KS.cell 12
      have e13 := KS.cell 13
      have e14 := KS.cell 14
      have e15 := KS.cell 15
      refine bodyPost_ret (v := .tuple #[.agg #[.int .u64 u.a0, .int .u64 u.a1, .int .u64 u.a2, .int .u64 u.a3, .int .u64 u.a4, .int .u64 u.a5, .int .u64 u.a6, .int .u64 u.a7, .int .u64 v.a0, .int .u64 v.a1, .int .u64 v.a2, .int .u64 v.a3, .int .u64 v.a4, .int .u64 v.a5, .int .u64 v.a6, .int .u64 v.a7], .bool b]) (by simp [results, Tryz.results25, go_sem, e0, e1, e2, e3, e4, e5, e6, e7, e8, e9, e10, e11, e12, e13, e14, e15]) rfl ?_
      exact ⟨rfl, L9⟩
  · have HG := hM15 rfl
    as_aux_lemma =>
      clear hM11 hM12 hM13 hM14 hM15
      refine wp_region_held_drew (S := fun w' => LatS W4 [w.heap.size + 1] w') (by kernel_rfl) (L0.s _) (fun hHeld => ?_)
      generalize W4.drew = V0 at L0 hHeld ⊢
      refine wpAnyH_take (i := 0) (v := .int .i64 15) rfl (by kernel_rfl) (by kernel_rfl) (by kernel_rfl) (fun _ _ _ h => h) (Or.inl ⟨by rfl, by intro w' hS; go_simp⟩) hHeld ?_
      simp only [Act.put, List.setIfInBounds_toArray, List.set_cons_zero, List.set_cons_succ]
      refine wpAnyH_take (i := 1) (v := .int .i64 4) rfl (by kernel_rfl) (by kernel_rfl) (by kernel_rfl) (fun _ _ _ h => h) (Or.inl ⟨by rfl, by intro w' hS; go_simp; rfl⟩) hHeld ?_
      simp only [Act.put, List.setIfInBounds_toArray, List.set_cons_zero, List.set_cons_succ]
      refine wpAnyH_take (i := 2) (v := .pointer (some ⟨w2.heap.size, 4, none⟩)) rfl (by kernel_rfl) (by kernel_rfl) (by kernel_rfl) (fun _ _ _ h => h) (Or.inl ⟨by rfl, by intro w' hS; go_simp⟩) hHeld ?_
      simp only [Act.put, List.setIfInBounds_toArray, List.set_cons_zero, List.set_cons_succ]
      refine wpAnyH_take (i := 3) (v := .func (.func 45) #[] #[]) rfl (by kernel_rfl) (by kernel_rfl) (by kernel_rfl) (fun _ _ _ h => h) (Or.inl ⟨by rfl, by intro w' hS; have hc := f4 w' hS; go_simp⟩) hHeld ?_
      simp only [Act.put, List.setIfInBounds_toArray, List.set_cons_zero, List.set_cons_succ]
      refine' wpAnyH_take (i := 4) rfl (by kernel_rfl) (by kernel_rfl) (by kernel_rfl) (fun _ _ _ h => h) (yieldsIf_load_mid (by rfl) 56 (.tmp 2) rfl w.heap.size 0 rfl _ _ R1 Tryz.underlying56 rfl sideInfo) hHeld ?_
      simp only [Act.put, List.setIfInBounds_toArray, List.set_cons_zero, List.set_cons_succ]
      refine wpAnyH_ready (rs := [5]) (by kernel_rfl) (by simp) (AllReadyH.cons rfl (fun K hK => ?_) AllReadyH.nil)
      go_simp
      refine (HG _).mono ?_
      rintro e V1 ⟨rfl, lg⟩
      have L1' := L0.trans lg
      clear lg
      refine hK.out _ _ (L1'.s _) (fun hHeld1 => ?_)
      clear hK K
      try simp only [Act.put, List.setIfInBounds_toArray, List.set_cons_zero, List.set_cons_succ]
      refine wpAnyH_take (i := 6) (v := .agg X) rfl (by kernel_rfl) (by kernel_rfl) (by kernel_rfl) (fun _ _ _ h => h) (Or.inl ⟨by rfl, by intro w' hS; go_simp⟩) hHeld1 ?_
      simp only [Act.put, List.setIfInBounds_toArray, List.set_cons_zero, List.set_cons_succ]
      refine wpAnyH_take (i := 7) (v := .bool b) rfl (by kernel_rfl) (by kernel_rfl) (by kernel_rfl) (fun _ _ _ h => h) (Or.inl ⟨by rfl, by intro w' hS; go_simp⟩) hHeld1 ?_
      simp only [Act.put, List.setIfInBounds_toArray, List.set_cons_zero, List.set_cons_succ]
      refine wpAnyH_ready (rs := [8]) (by kernel_rfl) (by simp) (AllReadyH.cons rfl (fun K hK => ?_) AllReadyH.nil)
      rw [if_pos (by rfl)]
      have K5 := K2.later L1'
      refine wp_store_mid 35 (.tmp 4) (.tmp 28) rfl (w.heap.size + 1) 0 X rfl rfl (K5.thereAll _ (by rw [z1.out]; rfl)) i1.out c1.out ?_
      have KS := K5.setCells X (by rw [z1.out]; rfl)
      have M9 : LatS W4 [w.heap.size + 1] (V1.setCells (w.heap.size + 1) 0 X.toList) := LatS.setCells (by simp) _ _ _ (L1'.s _)
      have L9 : Lat w (V1.setCells (w.heap.size + 1) 0 X.toList) := Lat.setCells (by omega) _ _ _ (L4.trans L1')
      obtain ⟨V9, hV9⟩ : ∃ V, V1.setCells (w.heap.size + 1) 0 X.toList = V := ⟨_, rfl⟩
      rw [hV9] at KS M9 L9 ⊢
      clear hV9 K5
      refine hK.out _ _ M9 (fun hHeld2 => ?_)
      clear hK K
      try simp only [Act.put, List.setIfInBounds_toArray, List.set_cons_zero, List.set_cons_succ]
      refine wpAnyH_ready (rs := [9]) (by kernel_rfl) (by simp) (AllReadyH.cons rfl (fun K hK => ?_) AllReadyH.nil)
      go_simp
      refine hK.out _ _ M9 (fun hHeld3 => ?_)
      clear hK K
      try simp only [Act.put, List.setIfInBounds_toArray, List.set_cons_zero, List.set_cons_succ]
      refine wpAnyH_done (by kernel_rfl) ?_ _
      go_wp2
      obtain ⟨u, v, rfl⟩ := G1.out
      have e0 := KS.cell 0
      have e1 := KS.cell 1
      have e2 := KS.cell 2
      have e3 := KS.cell 3
      have e4 := KS.cell 4
      have e5 := KS.cell 5
      have e6 := KS.cell 6
      have e7 := KS.cell 7
      have e8 := KS.cell 8
      have e9 := KS.cell 9
      have e10 := KS.cell 10
      have e11 := KS.cell 11
      have e12 := KS.cell 12
      have e13 := KS.cell 13
      have e14 := KS.cell 14
      have e15 := KS.cell 15
      refine bodyPost_ret (v := .tuple #[.agg #[.int .u64 u.a0, .int .u64 u.a1, .int .u64 u.a2, .int .u64 u.a3, .int .u64 u.a4, .int .u64 u.a5, .int .u64 u.a6, .int .u64 u.a7, .int .u64 v.a0, .int .u64 v.a1, .int .u64 v.a2, .int .u64 v.a3, .int .u64 v.a4, .int .u64 v.a5, .int .u64 v.a6, .int .u64 v.a7], .bool b]) (by simp [results, Tryz.results25, go_sem, e0, e1, e2, e3, e4, e5, e6, e7, e8, e9, e10, e11, e12, e13, e14, e15]) rfl ?_
      exact ⟨rfl, L9⟩
end Go.Proofs.YtkjnjooggicgiaaGreat
