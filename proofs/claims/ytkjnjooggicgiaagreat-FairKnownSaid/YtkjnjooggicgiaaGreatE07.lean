/- Several texts in one: FrE, FrF, FrG. -/
import Derived.Test.YtkjnjooggicgiaaGreatE06
import Derived.Test.YtkjnjooggicgiaaGreatE05

/- Fair: the inequality of two sides, whatever they are; what may be asked; Measure. -/
namespace Go.Proofs.YtkjnjooggicgiaaGreat
open Go.RowKit
set_option linter.unusedSimpArgs false

theorem fGap_any (a b c d : Int) (w : World) (hb0 : 0 ≤ b) (hd0 : 0 ≤ d) (hb1 : b ≤ 1000000000000000000) (hbd : b * d ≤ 9000000000000000000) (ha0 : -1000000000000000000 ≤ a) (ha1 : a ≤ 1000000000000000000) (hc0 : -1000000000000000000 ≤ c) (hc1 : c ≤ 1000000000000000000)
    (hN0 : -9000000000000000000 ≤ a * d - c * b) (hN1 : a * d - c * b ≤ 9000000000000000000) :
    Calls Tryz.prog 22 #[.int .i64 a, .int .i64 b, .int .i64 c, .int .i64 d] w (GapR w (a * d - c * b) (b * d)) := by
  by_cases h0 : b * d = 0
  · exact fGap_none a b c d w h0 (by omega) (by omega)
  · have hb : 0 < b := by
      rcases Int.lt_or_eq_of_le hb0 with h | h
      · exact h
      · exfalso; apply h0; rw [← h, Int.zero_mul]
    have hd : 0 < d := by
      rcases Int.lt_or_eq_of_le hd0 with h | h
      · exact h
      · exfalso; apply h0; rw [← h, Int.mul_zero]
    exact fGap_some a b c d w hb hd (by omega) (by omega) (by omega) (by omega) (by omega) (fits_small (Int.mul_pos hb hd) (by omega) (by omega) (by omega))

/-- What the numbers of a pair may be. -/
structure PairOk (p s q t : Int) : Prop where
  p0 : 1 ≤ p
  p1 : p ≤ 1000000000
  q0 : 1 ≤ q
  q1 : q ≤ 1000000000
  s0 : 0 ≤ s
  s1 : s ≤ 1001
  t0 : 0 ≤ t
  t1 : t ≤ 1001
theorem PairOk.swap {p s q t : Int} (h : PairOk p s q t) : PairOk q t p s := ⟨h.q0, h.q1, h.p0, h.p1, h.t0, h.t1, h.s0, h.s1⟩
theorem mul_bound {a b A B : Int} (ha : 0 ≤ a) (hA : a ≤ A) (hb : 0 ≤ b) (hB : b ≤ B) : 0 ≤ a * b ∧ a * b ≤ A * B :=
  ⟨Int.mul_nonneg ha hb, Int.mul_le_mul hA hB hb (by omega)⟩
theorem PairOk.sq {p s q t : Int} (h : PairOk p s q t) : 0 ≤ s * q ∧ s * q ≤ 1001000000000 := by
  have := mul_bound h.s0 h.s1 (show 0 ≤ q by have := h.q0; omega) h.q1
  omega
theorem PairOk.tp {p s q t : Int} (h : PairOk p s q t) : 0 ≤ t * p ∧ t * p ≤ 1001000000000 := h.swap.sq

/-- The words of the inequality, and whether it is finite. -/
def measX (k p s q t : Int) : Array Value := gapX (meas k p s q t).1 (meas k p s q t).2
def measB (k p s q t : Int) : Bool := gapB (meas k p s q t).2
theorem measX_good (k p s q t : Int) : GoodX (measX k p s q t) := gapX_good _ _

section
variable {p s q t : Int}
theorem mAdams (h : PairOk p s q t) (w : World) : Calls Tryz.prog 41 #[.agg (sideC p s q t)] w (ShB w (gapX (s * q - t * p) q) (gapB q)) := by
  have h1 := h.tp
  have h2 := h.sq
  obtain ⟨p0, p1, q0, q1, s0, s1, t0, t1⟩ := h
  refine fAdams p s q t _ _ (gapX_good _ _) (by omega) (fun w => ?_) w
  have := fGap_any s 1 (t * p) q w (by omega) (by omega) (by omega) (by omega) (by omega) (by omega) (by omega) (by omega) (by omega) (by omega)
  rw [Int.mul_one, Int.one_mul] at this
  exact this
theorem mDean (h : PairOk p s q t) (w : World) : Calls Tryz.prog 42 #[.agg (sideC p s q t)] w (ShB w (gapX (s * q - t * p) (t * s)) (gapB (t * s))) := by
  have h1 := h.tp
  have h2 := h.sq
  obtain ⟨p0, p1, q0, q1, s0, s1, t0, t1⟩ := h
  have h3 := mul_bound t0 t1 s0 s1
  refine fDean p s q t _ _ (gapX_good _ _) (fun w => ?_) w
  have e1 : q * s = s * q := Int.mul_comm _ _
  have e2 : p * t = t * p := Int.mul_comm _ _
  have := fGap_any q t p s w (by omega) (by omega) (by omega) (by omega) (by omega) (by omega) (by omega) (by omega) (by omega) (by omega)
  rw [e1, e2] at this
  exact this
theorem mHill (h : PairOk p s q t) (w : World) : Calls Tryz.prog 43 #[.agg (sideC p s q t)] w (ShB w (gapX (s * q - t * p) (t * p)) (gapB (t * p))) := by
  have h1 := h.tp
  have h2 := h.sq
  obtain ⟨p0, p1, q0, q1, s0, s1, t0, t1⟩ := h
  refine fHill p s q t _ _ (gapX_good _ _) (by omega) (by omega) (fun w => ?_) w
  have := fGap_any (s * q) (t * p) 1 1 w (by omega) (by omega) (by omega) (by omega) (by omega) (by omega) (by omega) (by omega) (by omega) (by omega)
  rw [Int.mul_one, Int.mul_one, Int.one_mul] at this
  exact this
theorem mWebster (h : PairOk p s q t) (w : World) : Calls Tryz.prog 44 #[.agg (sideC p s q t)] w (ShB w (gapX (s * q - t * p) (p * q)) (gapB (p * q))) := by
  have h1 := h.tp
  have h2 := h.sq
  obtain ⟨p0, p1, q0, q1, s0, s1, t0, t1⟩ := h
  have h3 := mul_bound (show 0 ≤ p by omega) p1 (show 0 ≤ q by omega) q1
  refine fWebster p s q t _ _ (gapX_good _ _) (fun w => ?_) w
  exact fGap_any s p t q w (by omega) (by omega) (by omega) (by omega) (by omega) (by omega) (by omega) (by omega) (by omega) (by omega)
theorem mJefferson (h : PairOk p s q t) (w : World) : Calls Tryz.prog 45 #[.agg (sideC p s q t)] w (ShB w (gapX (s * q - t * p) p) (gapB p)) := by
  have h1 := h.tp
  have h2 := h.sq
  obtain ⟨p0, p1, q0, q1, s0, s1, t0, t1⟩ := h
  refine fJefferson p s q t _ _ (gapX_good _ _) (by omega) (fun w => ?_) w
  have := fGap_any (s * q) p t 1 w (by omega) (by omega) (by omega) (by omega) (by omega) (by omega) (by omega) (by omega) (by omega) (by omega)
  rw [Int.mul_one, Int.mul_one] at this
  exact this
end
theorem ineqD_11 (p s q t : Int) : ineqD 11 p s q t = q := rfl
theorem ineqD_12 (p s q t : Int) : ineqD 12 p s q t = t * s := rfl
theorem ineqD_13 (p s q t : Int) : ineqD 13 p s q t = t * p := rfl
theorem ineqD_14 (p s q t : Int) : ineqD 14 p s q t = p * q := rfl
theorem ineqD_15 (p s q t : Int) : ineqD 15 p s q t = p := rfl

theorem fIneq_any {m p s q t : Int} (h : PairOk p s q t) (h0 : 11 ≤ m) (h1 : m ≤ 15) (w : World) :
    Calls Tryz.prog 25 #[.agg (sideC p s q t), .int .i64 m] w (ShB w (measX m p s q t) (measB m p s q t)) := by
  have hsq := h.sq
  have htp := h.tp
  have hm : m = 11 ∨ m = 12 ∨ m = 13 ∨ m = 14 ∨ m = 15 := by omega
  have HE : ∀ w, Calls Tryz.prog 39 #[.agg (sideC p s q t)] w (fun e w' => e = .returned (.int .i64 (s * q - t * p)) ∧ Lat w w') := fun w => fExcess_any p s q t w (by omega) (by omega) (by omega) (by omega)
  unfold measX measB
  rcases Int.lt_trichotomy (s * q) (t * p) with hlt | heq | hgt
  · rw [meas_neg hlt]
    refine fIneq_neg m p s q t _ _ _ (gapX_good _ _) HE (by omega) hm ?_ ?_ ?_ ?_ ?_ w
    · rintro rfl w; rw [ineqD_11]; exact mAdams h.swap w
    · rintro rfl w; rw [ineqD_12]; exact mDean h.swap w
    · rintro rfl w; rw [ineqD_13]; exact mHill h.swap w
    · rintro rfl w; rw [ineqD_14]; exact mWebster h.swap w
    · rintro rfl w; rw [ineqD_15]; exact mJefferson h.swap w
  · rw [meas_eq heq]
    have e0 : s * q - t * p = 0 := by omega
    rw [e0] at HE
    refine fIneq_zero m p s q t _ _ (gapX_good _ _) HE (fun w => ?_) w
    exact fGap_any 0 1 0 1 w (by omega) (by omega) (by omega) (by omega) (by omega) (by omega) (by omega) (by omega) (by omega) (by omega)
  · rw [meas_pos hgt]
    refine fIneq_pos m p s q t _ _ _ (gapX_good _ _) HE (by omega) hm ?_ ?_ ?_ ?_ ?_ w
    · rintro rfl w; rw [ineqD_11]; exact mAdams h w
    · rintro rfl w; rw [ineqD_12]; exact mDean h w
    · rintro rfl w; rw [ineqD_13]; exact mHill h w
    · rintro rfl w; rw [ineqD_14]; exact mWebster h w
    · rintro rfl w; rw [ineqD_15]; exact mJefferson h w
end Go.Proofs.YtkjnjooggicgiaaGreat

/- Fair: whether a move helps; what may be asked; Measure and Helps. -/
namespace Go.Proofs.YtkjnjooggicgiaaGreat
open Go.RowKit
set_option linter.unusedSimpArgs false

/-- What helps leaves. -/
def helpB (b1 b2 : Bool) (c : Int) : Bool := b2 && (!b1 || decide (c < 0))
set_option maxRecDepth 100000 in
set_option maxHeartbeats 4000000 in
theorem fHelps_gen (m p s q t c : Int) (X1 X2 : Array Value) (b1 b2 : Bool) (g1 : GoodX X1) (g2 : GoodX X2) (hs0 : -1000000 ≤ s) (hs1 : s ≤ 1000000) (ht0 : -1000000 ≤ t) (ht1 : t ≤ 1000000)
    (H1 : ∀ w, Calls Tryz.prog 25 #[.agg (sideC p s q t), .int .i64 m] w (ShB w X1 b1))
    (H2 : ∀ w, Calls Tryz.prog 25 #[.agg (sideC p (s - 1) q (t + 1)), .int .i64 m] w (ShB w X2 b2))
    (HC : b1 = true → b2 = true → ∀ w, Calls Tryz.prog 31 #[.agg X2, .agg X1] w (fun e w' => e = .returned (.tuple #[.int .i64 c, .int .i64 0]) ∧ Lat w w')) (w : World) :
    Calls Tryz.prog 16 #[.agg (sideC p s q t), .int .i64 m] w (fun e w' => e = .returned (.bool (helpB b1 b2 c)) ∧ Lat w w') := by
  have i1 := Lib.hid g1.info
  have i2 := Lib.hid g2.info
  have z1 := Lib.hid g1.1
  have z2 := Lib.hid g2.1
  have c1 := Lib.hid g1.2.1
  have c2 := Lib.hid g2.2.1
  unfold sideC at H1 H2 ⊢
  clear g1 g2
  go_enter Tryz.func16, Tryz.ntmps16
  go_wp2_with fail
  refine name1 (Q := fun W => Calls _ _ _ W _) ?_
  intro W hl hs k1
  refine (H1 W).mono ?_
  rintro e V1 ⟨rfl, l1⟩
  have K1 := k1.later l1
  have K0 := Blk.new V1 35 #[.int .u64 W8.zero.a0, .int .u64 W8.zero.a1, .int .u64 W8.zero.a2, .int .u64 W8.zero.a3, .int .u64 W8.zero.a4, .int .u64 W8.zero.a5, .int .u64 W8.zero.a6, .int .u64 W8.zero.a7, .int .u64 W8.zero.a0, .int .u64 W8.zero.a1, .int .u64 W8.zero.a2, .int .u64 W8.zero.a3, .int .u64 W8.zero.a4, .int .u64 W8.zero.a5, .int .u64 W8.zero.a6, .int .u64 W8.zero.a7]
  have L1 := hl.trans l1
  have hne : w.heap.size ≠ V1.heap.size := by have := K1.lt; omega
  clear k1 hl l1 H1
  go_wp2_with (refine wpList_put rfl 35 (.tmp 5) (.tmp 15) (by rfl) (by rfl) V1.heap.size (by rfl) X1 (by rfl) K0 (by rw [z1.out]; rfl) i1.out c1.out ?_; intro W2 hput; have B1 := hput.blk; have L2 := hput.lat w (L1.trans (Lat.alloc _ _)) L1.size; have J1 := hput.keep (K1.alloc _) hne; have d0 := J1.cell 0; have d1 := J1.cell 1; have d2 := J1.cell 2; have d3 := J1.cell 3; have f0 := J1.frozen 0; have f1 := J1.frozen 1; have f2 := J1.frozen 2; have f3 := J1.frozen 3; clear hput)
  refine gen (Q := fun W => Calls _ _ _ W _) _ ?_
  intro W3 hW3
  have N1 : Blk W3 w.heap.size 56 #[.int .i64 p, .int .i64 (s - 1), .int .i64 q, .int .i64 (t + 1)] := by
    rw [hW3]
    exact (J1.set 1 (.int .i64 (s - 1))).set 3 (.int .i64 (t + 1))
  have N2 : Blk W3 V1.heap.size 35 X1 := by
    rw [hW3]
    exact (B1.far (p := ⟨w.heap.size, 1, none⟩) (Ne.symm hne) (.int .i64 (s - 1))).far (p := ⟨w.heap.size, 3, none⟩) (Ne.symm hne) (.int .i64 (t + 1))
  have L3 : Lat w W3 := by
    rw [hW3]
    exact (L2.setCell (p := ⟨w.heap.size, 1, none⟩) (Nat.le_refl _) (.int .i64 (s - 1))).setCell (p := ⟨w.heap.size, 3, none⟩) (Nat.le_refl _) (.int .i64 (t + 1))
  clear hW3 J1 B1 L2 d0 d1 d2 d3 f0 f1 f2 f3 K0 K1 L1
  refine (H2 W3).mono ?_
  rintro e V3 ⟨rfl, l3⟩
  have P2 := N2.later l3
  have K0 := Blk.new V3 35 #[.int .u64 W8.zero.a0, .int .u64 W8.zero.a1, .int .u64 W8.zero.a2, .int .u64 W8.zero.a3, .int .u64 W8.zero.a4, .int .u64 W8.zero.a5, .int .u64 W8.zero.a6, .int .u64 W8.zero.a7, .int .u64 W8.zero.a0, .int .u64 W8.zero.a1, .int .u64 W8.zero.a2, .int .u64 W8.zero.a3, .int .u64 W8.zero.a4, .int .u64 W8.zero.a5, .int .u64 W8.zero.a6, .int .u64 W8.zero.a7]
  have L4 := L3.trans l3
  have hne3 : V1.heap.size ≠ V3.heap.size := by have := P2.lt; omega
  clear N1 N2 L3 l3 H2
  cases b1 with
  | false =>
    cases b2 with
    | false =>
      go_wp2_with (refine wpList_put rfl 35 (.tmp 7) (.tmp 33) (by rfl) (by rfl) V3.heap.size (by rfl) X2 (by rfl) K0 (by rw [z2.out]; rfl) i2.out c2.out ?_; intro W5 hput; have L5 := hput.lat w (L4.trans (Lat.alloc _ _)) L4.size; clear hput)
      go_ret
      exact ⟨rfl, L5⟩
    | true =>
      go_wp2_with (refine wpList_put rfl 35 (.tmp 7) (.tmp 33) (by rfl) (by rfl) V3.heap.size (by rfl) X2 (by rfl) K0 (by rw [z2.out]; rfl) i2.out c2.out ?_; intro W5 hput; have L5 := hput.lat w (L4.trans (Lat.alloc _ _)) L4.size; clear hput)
      go_ret
      exact ⟨rfl, L5⟩
  | true =>
    cases b2 with
    | false =>
      go_wp2_with (refine wpList_put rfl 35 (.tmp 7) (.tmp 33) (by rfl) (by rfl) V3.heap.size (by rfl) X2 (by rfl) K0 (by rw [z2.out]; rfl) i2.out c2.out ?_; intro W5 hput; have L5 := hput.lat w (L4.trans (Lat.alloc _ _)) L4.size; clear hput)
      go_ret
      exact ⟨rfl, L5⟩
    | true =>
      have HC' := HC rfl rfl
      go_wp2_with (first
        | (refine wpList_put rfl 35 (.tmp 7) (.tmp 33) (by rfl) (by rfl) V3.heap.size (by rfl) X2 (by rfl) K0 (by rw [z2.out]; rfl) i2.out c2.out ?_; intro W5 hput; have B5 := hput.blk; have L5 := hput.lat w (L4.trans (Lat.alloc _ _)) L4.size; have Q1 := hput.keep (P2.alloc _) hne3; clear hput)
        | (refine wpList_get rfl 35 (.tmp 7) (by rfl) V3.heap.size (by rfl) B5 _ Tryz.underlying35 rfl i2.out ?_)
        | (refine wpList_get rfl 35 (.tmp 5) (by rfl) V1.heap.size (by rfl) Q1 _ Tryz.underlying35 rfl i1.out ?_))
      refine (HC' W5).mono ?_
      rintro e V6 ⟨rfl, l6⟩
      by_cases hc : c < 0
      · have hd : decide (c < 0) = true := by simpa using hc
        have HB : Hid (helpB true true c = true) := by show _ = _; simp [helpB, hc]
        go_wp2
        go_ret
        exact ⟨by rw [HB.out]; rfl, L5.trans l6⟩
      · have hd : decide (c < 0) = false := by simpa using hc
        have HB : Hid (helpB true true c = false) := by show _ = _; simp [helpB]; omega
        go_wp2
        go_ret
        exact ⟨by rw [HB.out]; rfl, L5.trans l6⟩

theorem meas_fits {k p s q t : Int} (h : PairOk p s q t) (h0 : (meas k p s q t).2 ≠ 0) : Fits (meas k p s q t).1 (meas k p s q t).2 := by
  have h1 := h.sq
  have h2 := h.tp
  have h3 := mul_bound (show 0 ≤ p by have := h.p0; omega) h.p1 (show 0 ≤ q by have := h.q0; omega) h.q1
  have h4 := mul_bound h.t0 h.t1 h.s0 h.s1
  have hl := (meas_low (k := k) h.p0 h.q0 h.s0 h.t0).1
  have hD : (meas k p s q t).2 ≤ 1000000000000000000 := by
    obtain ⟨p0, p1, q0, q1, s0, s1, t0, t1⟩ := h
    have e1 : q * p = p * q := Int.mul_comm _ _
    have e2 : s * t = t * s := Int.mul_comm _ _
    rcases Int.lt_trichotomy (s * q) (t * p) with hlt | heq | hgt
    · rw [meas_neg hlt]
      show ineqD k q t p s ≤ _
      unfold ineqD
      split
      · omega
      · split
        · omega
        · split
          · omega
          · split <;> omega
    · rw [meas_eq heq]; show (1 : Int) ≤ _; omega
    · rw [meas_pos hgt]
      show ineqD k p s q t ≤ _
      unfold ineqD
      split
      · omega
      · split
        · omega
        · split
          · omega
          · split <;> omega
  have hN : -1001000000000 ≤ (meas k p s q t).1 ∧ (meas k p s q t).1 ≤ 1001000000000 := by
    rcases Int.lt_trichotomy (s * q) (t * p) with hlt | heq | hgt
    · rw [meas_neg hlt]; show _ ≤ t * p - s * q ∧ t * p - s * q ≤ _; omega
    · rw [meas_eq heq]; show _ ≤ (0 : Int) ∧ (0 : Int) ≤ _; omega
    · rw [meas_pos hgt]; show _ ≤ s * q - t * p ∧ s * q - t * p ≤ _; omega
  exact fits_small (by omega) (by omega) (by omega) (by omega)
theorem help_is (k p s q t : Int) :
    helpB (measB k p s q t) (measB k p (s - 1) q (t + 1)) (sideOf ((meas k p (s - 1) q (t + 1)).1 * (meas k p s q t).2 - (meas k p s q t).1 * (meas k p (s - 1) q (t + 1)).2)) = helpsF k p s q t := by
  have e : ∀ x : Int, sideOf x < 0 ↔ x < 0 := fun x => by
    unfold sideOf
    split
    · omega
    · split <;> omega
  rw [Bool.eq_iff_iff, helps_iff]
  unfold helpB measB gapB
  simp only [Bool.and_eq_true, Bool.or_eq_true, Bool.not_eq_true', Bool.not_not, beq_iff_eq, beq_eq_false_iff_ne, decide_eq_true_eq, e, Bool.not_eq_false', ne_eq]
  constructor
  · rintro ⟨h1, h2⟩
    exact ⟨h1, h2.imp id (fun h => by omega)⟩
  · rintro ⟨h1, h2⟩
    exact ⟨h1, h2.imp id (fun h => by omega)⟩

theorem fHelpsIn_any {m p s q t : Int} (h : PairOk p s q t) (hs : 1 ≤ s) (ht : t ≤ 1000) (h0 : 11 ≤ m) (h1 : m ≤ 15) (w : World) :
    Calls Tryz.prog 16 #[.agg (sideC p s q t), .int .i64 m] w (fun e w' => e = .returned (.bool (helpsF m p s q t)) ∧ Lat w w') := by
  have h' : PairOk p (s - 1) q (t + 1) := by
    obtain ⟨p0, p1, q0, q1, s0, s1, t0, t1⟩ := h
    exact ⟨p0, p1, q0, q1, by omega, by omega, by omega, by omega⟩
  have := fHelps_gen m p s q t (sideOf ((meas m p (s - 1) q (t + 1)).1 * (meas m p s q t).2 - (meas m p s q t).1 * (meas m p (s - 1) q (t + 1)).2)) _ _ _ _ (measX_good m p s q t) (measX_good m p (s - 1) q (t + 1)) (by omega) (by have := h.s1; omega) (by have := h.t0; omega) (by omega)
    (fun w => fIneq_any h h0 h1 w) (fun w => fIneq_any h' h0 h1 w) (fun hb1 hb2 w => by
      have n1 : (meas m p s q t).2 ≠ 0 := by simpa [measB, gapB] using hb1
      have n2 : (meas m p (s - 1) q (t + 1)).2 ≠ 0 := by simpa [measB, gapB] using hb2
      rw [measX, measX, gapX_yes n1, gapX_yes n2]
      exact shCmpX (meas_fits h' n2) (meas_fits h n1) w) w
  rw [help_is] at this
  exact this
end Go.Proofs.YtkjnjooggicgiaaGreat

/- Fair: what may be asked; Measure and Helps. -/
namespace Go.Proofs.YtkjnjooggicgiaaGreat
open Go.RowKit
set_option linter.unusedSimpArgs false

/-- A pair that may be asked for. -/
def fKnownB (m p s q t : Int) : Bool := inAll 11 15 [m] && (inAll 0 1000 [s, t] && inAll 1 1000000000 [p, q])
theorem fKnown_iff {m p s q t : Int} : fKnownB m p s q t = true ↔ (11 ≤ m ∧ m ≤ 15) ∧ (0 ≤ s ∧ s ≤ 1000 ∧ 0 ≤ t ∧ t ≤ 1000) ∧ 1 ≤ p ∧ p ≤ 1000000000 ∧ 1 ≤ q ∧ q ≤ 1000000000 := by
  unfold fKnownB
  rw [Bool.and_eq_true, Bool.and_eq_true, inAll_iff, inAll_iff, inAll_iff]
  simp
  omega
theorem fKnown_pair {m p s q t : Int} (h : fKnownB m p s q t = true) : (11 ≤ m ∧ m ≤ 15) ∧ PairOk p s q t ∧ s ≤ 1000 ∧ t ≤ 1000 := by
  obtain ⟨h1, h2, h3⟩ := fKnown_iff.1 h
  exact ⟨h1, ⟨h3.1, h3.2.1, h3.2.2.1, h3.2.2.2, h2.1, by omega, h2.2.2.1, by omega⟩, h2.2.1, h2.2.2.2⟩

set_option maxHeartbeats 1000000 in
theorem fKnown_any (m p s q t : Int) (w : World) :
    Calls Tryz.prog 24 #[.int .i64 m, .int .i64 p, .int .i64 s, .int .i64 q, .int .i64 t] w (fun e w' => e = .returned (.bool (fKnownB m p s q t)) ∧ Lat w w') := by
  go_enter Tryz.func24, Tryz.ntmps24
  go_wp2_with fail
  refine name1 (Q := fun W => Calls _ _ _ W _) ?_
  intro W hl hs2 k1
  refine (fWithin_any 11 15 _ 1 1 [m] W (Sl.of_blk' (t := 3) k1 rfl) (by omega)).mono ?_
  rintro e w1 ⟨rfl, l1⟩
  cases hb : inAll 11 15 [m] with
  | true =>
    have HB := Lib.hid hb
    clear hb
    go_wp2_with fail
    refine name1 (Q := fun W => Calls _ _ _ W _) ?_
    intro W2 hl2 hs3 k2
    refine (fWithin_any 0 1000 _ 2 2 [s, t] W2 (Sl.of_blk' (t := 3) k2 rfl) (by omega)).mono ?_
    rintro e w2 ⟨rfl, l2⟩
    cases hb2 : inAll 0 1000 [s, t] with
    | true =>
      have HB2 := Lib.hid hb2
      clear hb2
      go_wp2_with fail
      refine name1 (Q := fun W => Calls _ _ _ W _) ?_
      intro W3 hl3 hs4 k3
      refine (fWithin_any 1 1000000000 _ 2 2 [p, q] W3 (Sl.of_blk' (t := 3) k3 rfl) (by omega)).mono ?_
      rintro e w3 ⟨rfl, l3⟩
      cases hb3 : inAll 1 1000000000 [p, q] with
      | true =>
        have HB3 := Lib.hid hb3
        clear hb3
        go_wp2
        go_ret
        exact ⟨by rw [fKnownB, HB.out, HB2.out, HB3.out]; rfl, ((((hl.trans l1).trans hl2).trans l2).trans hl3).trans l3⟩
      | false =>
        have HB3 := Lib.hid hb3
        clear hb3
        go_wp2
        go_ret
        exact ⟨by rw [fKnownB, HB.out, HB2.out, HB3.out]; rfl, ((((hl.trans l1).trans hl2).trans l2).trans hl3).trans l3⟩
    | false =>
      have HB2 := Lib.hid hb2
      clear hb2
      go_wp2
      go_ret
      exact ⟨by rw [fKnownB, HB.out, HB2.out]; rfl, ((hl.trans l1).trans hl2).trans l2⟩
  | false =>
    have HB := Lib.hid hb
    clear hb
    go_wp2
    go_ret
    exact ⟨by rw [fKnownB, HB.out]; rfl, hl.trans l1⟩

def mE (m p s q t : Int) : Int := if fKnownB m p s q t = true then (if (meas m p s q t).2 = 0 then 7 else 0) else 2
def mX (m p s q t : Int) : Array Value := if fKnownB m p s q t = true then measX m p s q t else zA
theorem mX_good (m p s q t : Int) : GoodX (mX m p s q t) := by unfold mX; split; exact measX_good _ _ _ _ _; exact zA_good

set_option maxRecDepth 100000 in
set_option maxHeartbeats 2000000 in
theorem fMeasure_any (m p s q t : Int) (w : World) :
    Calls Tryz.prog 8 #[.int .i64 m, .int .i64 p, .int .i64 s, .int .i64 q, .int .i64 t] w (ShR w (mX m p s q t) (mE m p s q t)) := by
  have HK := fKnown_any m p s q t
  have i0 := Lib.hid zA_good.info
  cases hk : fKnownB m p s q t with
  | false =>
    have e1 : mX m p s q t = zA := by rw [mX, if_neg (by simp [hk])]
    have e2 : mE m p s q t = 2 := by rw [mE, if_neg (by simp [hk])]
    rw [e1, e2]
    simp only [hk] at HK
    clear e1 e2 hk
    go_enter Tryz.func8, Tryz.ntmps8
    go_wp2_with fail
    refine name1 (Q := fun W => Calls _ _ _ W _) ?_
    intro W hl hs k1
    refine (HK W).mono ?_
    rintro e w1 ⟨rfl, l1⟩
    have K1 := k1.later l1
    go_wp2_with (refine wpList_put rfl 35 (.tmp 10) (.tmp 21) (by rfl) (by rfl) w.heap.size (by rfl) zA (by rfl) K1 (by rfl) i0.out zA_good.2.1 ?_; intro W6 hput6; have KS := hput6.blk; have L6 := hput6.lat w (hl.trans l1) (Nat.le_refl _))
    have e0 := KS.cell 0
    have e1 := KS.cell 1
    have e2 := KS.cell 2
    have e3 := KS.cell 3
    have e4 := KS.cell 4
    have e5 := KS.cell 5
    have e6 := KS.cell 6
    have e7 := KS.cell 7
    have e8 := KS.cell 8
    have e9 := KS.cell 9
    have e10 := KS.cell 10
    have e11 := KS.cell 11
    have e12 := KS.cell 12
    have e13 := KS.cell 13
    have e14 := KS.cell 14
    have e15 := KS.cell 15
    clear hput6 K1 k1
    refine bodyPost_ret (v := .tuple #[.agg zA, .int .i64 2]) (by simp [results, Tryz.results8, go_sem, zA, W8.zero, e0, e1, e2, e3, e4, e5, e6, e7, e8, e9, e10, e11, e12, e13, e14, e15]) rfl ?_
    exact ⟨rfl, L6⟩
  | true =>
    obtain ⟨hm, hp, _, _⟩ := fKnown_pair hk
    have HI := fIneq_any (m := m) hp hm.1 hm.2
    have e1 : mX m p s q t = measX m p s q t := by rw [mX, if_pos hk]
    have e2 : mE m p s q t = if (meas m p s q t).2 = 0 then 7 else 0 := by rw [mE, if_pos hk]
    have gX := measX_good m p s q t
    rw [e1, e2]
    simp only [hk] at HK
    by_cases hD : (meas m p s q t).2 = 0
    · have e3 : measX m p s q t = zA := by rw [measX, hD, gapX_no]
      have e4 : measB m p s q t = false := by rw [measB, hD]; rfl
      rw [if_pos hD]
      rw [e3] at HI ⊢
      rw [e4] at HI
      unfold sideC at HI
      clear e1 e2 e3 e4 gX hD hp hm hk
      go_enter Tryz.func8, Tryz.ntmps8
      go_wp2_with fail
      refine name1 (Q := fun W => Calls _ _ _ W _) ?_
      intro W hl hs k1
      refine (HK W).mono ?_
      rintro e w1 ⟨rfl, l1⟩
      go_wp2_with fail
      refine (HI w1).mono ?_
      rintro e V3 ⟨rfl, l3⟩
      have K1 := k1.later (l1.trans l3)
      have L3 := (hl.trans l1).trans l3
      have hlt := K1.lt
      have K0 := Blk.new V3 35 #[.int .u64 W8.zero.a0, .int .u64 W8.zero.a1, .int .u64 W8.zero.a2, .int .u64 W8.zero.a3, .int .u64 W8.zero.a4, .int .u64 W8.zero.a5, .int .u64 W8.zero.a6, .int .u64 W8.zero.a7, .int .u64 W8.zero.a0, .int .u64 W8.zero.a1, .int .u64 W8.zero.a2, .int .u64 W8.zero.a3, .int .u64 W8.zero.a4, .int .u64 W8.zero.a5, .int .u64 W8.zero.a6, .int .u64 W8.zero.a7]
      go_wp2_with (first
        | (refine wpList_put rfl 35 (.tmp 12) (.tmp 32) (by rfl) (by rfl) V3.heap.size (by rfl) zA (by rfl) K0 (by rfl) i0.out zA_good.2.1 ?_; intro W5 hput; have L5 := hput.lat w (L3.trans (Lat.alloc _ _)) L3.size; have Q1 := hput.keep (K1.alloc _) (by omega))
        | (refine wpList_put rfl 35 (.tmp 10) (.tmp 36) (by rfl) (by rfl) w.heap.size (by rfl) zA (by rfl) Q1 (by rfl) i0.out zA_good.2.1 ?_; intro W6 hput6; have KS := hput6.blk; have L6 := hput6.lat w L5 (Nat.le_refl _)))
      have e0 := KS.cell 0
      have e1 := KS.cell 1
      have e2 := KS.cell 2
      have e3 := KS.cell 3
      have e4 := KS.cell 4
      have e5 := KS.cell 5
      have e6 := KS.cell 6
      have e7 := KS.cell 7
      have e8 := KS.cell 8
      have e9 := KS.cell 9
      have e10 := KS.cell 10
      have e11 := KS.cell 11
      have e12 := KS.cell 12
      have e13 := KS.cell 13
      have e14 := KS.cell 14
      have e15 := KS.cell 15
      clear hput6 hput K1 k1 Q1 K0
      refine bodyPost_ret (v := .tuple #[.agg zA, .int .i64 7]) (by simp [results, Tryz.results8, go_sem, zA, W8.zero, e0, e1, e2, e3, e4, e5, e6, e7, e8, e9, e10, e11, e12, e13, e14, e15]) rfl ?_
      exact ⟨rfl, L6⟩
    · have e4 : measB m p s q t = true := by rw [measB, gapB_yes hD]
      rw [if_neg hD]
      obtain ⟨X, hX⟩ : ∃ X, measX m p s q t = X := ⟨_, rfl⟩
      rw [hX] at HI gX ⊢
      rw [e4] at HI
      unfold sideC at HI
      have i3 := Lib.hid gX.info
      have z3 := Lib.hid gX.1
      have c3 := Lib.hid gX.2.1
      have G3 := Lib.hid gX.cells
      clear e1 e2 e4 gX hD hp hm hX hk
      go_enter Tryz.func8, Tryz.ntmps8
      go_wp2_with fail
      refine name1 (Q := fun W => Calls _ _ _ W _) ?_
      intro W hl hs k1
      refine (HK W).mono ?_
      rintro e w1 ⟨rfl, l1⟩
      go_wp2_with fail
      refine (HI w1).mono ?_
      rintro e V3 ⟨rfl, l3⟩
      have K1 := k1.later (l1.trans l3)
      have L3 := (hl.trans l1).trans l3
      have hlt := K1.lt
      have K0 := Blk.new V3 35 #[.int .u64 W8.zero.a0, .int .u64 W8.zero.a1, .int .u64 W8.zero.a2, .int .u64 W8.zero.a3, .int .u64 W8.zero.a4, .int .u64 W8.zero.a5, .int .u64 W8.zero.a6, .int .u64 W8.zero.a7, .int .u64 W8.zero.a0, .int .u64 W8.zero.a1, .int .u64 W8.zero.a2, .int .u64 W8.zero.a3, .int .u64 W8.zero.a4, .int .u64 W8.zero.a5, .int .u64 W8.zero.a6, .int .u64 W8.zero.a7]
      go_wp2_with (first
        | (refine wpList_put rfl 35 (.tmp 12) (.tmp 32) (by rfl) (by rfl) V3.heap.size (by rfl) X (by rfl) K0 (by rw [z3.out]; rfl) i3.out c3.out ?_; intro W5 hput; have KX := hput.blk; have L5 := hput.lat w (L3.trans (Lat.alloc _ _)) L3.size; have Q1 := hput.keep (K1.alloc _) (by omega))
        | (refine wpList_get (by rfl) 35 (.tmp 12) (by rfl) V3.heap.size (by rfl) KX _ Tryz.underlying35 rfl i3.out ?_)
        | (refine wpList_put rfl 35 (.tmp 10) (.tmp 37) (by rfl) (by rfl) w.heap.size (by rfl) X (by rfl) Q1 (by rw [z3.out]; rfl) i3.out c3.out ?_; intro W6 hput6; have KS := hput6.blk; have L6 := hput6.lat w L5 (Nat.le_refl _)))
      obtain ⟨u, v, rfl⟩ := G3.out
      have e0 := KS.cell 0
      have e1 := KS.cell 1
      have e2 := KS.cell 2
      have e3 := KS.cell 3
      have e4 := KS.cell 4
      have e5 := KS.cell 5
      have e6 := KS.cell 6
      have e7 := KS.cell 7
      have e8 := KS.cell 8
      have e9 := KS.cell 9
      have e10 := KS.cell 10
      have e11 := KS.cell 11
      have e12 := KS.cell 12
      have e13 := KS.cell 13
      have e14 := KS.cell 14
      have e15 := KS.cell 15
      clear hput6 hput K1 k1 Q1 K0 KX
      refine bodyPost_ret (v := .tuple #[.agg #[.int .u64 u.a0, .int .u64 u.a1, .int .u64 u.a2, .int .u64 u.a3, .int .u64 u.a4, .int .u64 u.a5, .int .u64 u.a6, .int .u64 u.a7, .int .u64 v.a0, .int .u64 v.a1, .int .u64 v.a2, .int .u64 v.a3, .int .u64 v.a4, .int .u64 v.a5, .int .u64 v.a6, .int .u64 v.a7], .int .i64 0]) (by simp [results, Tryz.results8, go_sem, e0, e1, e2, e3, e4, e5, e6, e7, e8, e9, e10, e11, e12, e13, e14, e15]) rfl ?_
      exact ⟨rfl, L6⟩

/-- A move that may be asked for. -/
def mvB (m p s q t : Int) : Bool := fKnownB m p s q t && (!(s == 0) && !(t == 1000))
def mvE (m p s q t : Int) : Int := if mvB m p s q t = true then 0 else 2
def mvH (m p s q t : Int) : Bool := mvB m p s q t && helpsF m p s q t
set_option maxHeartbeats 1000000 in
theorem fHelps_any (m p s q t : Int) (w : World) :
    Calls Tryz.prog 9 #[.int .i64 m, .int .i64 p, .int .i64 s, .int .i64 q, .int .i64 t] w (fun e w' => e = .returned (.tuple #[.bool (mvH m p s q t), .int .i64 (mvE m p s q t)]) ∧ Lat w w') := by
  have HK := fKnown_any m p s q t
  cases hk : fKnownB m p s q t with
  | false =>
    have e0 : mvB m p s q t = false := by rw [mvB, hk]; rfl
    have e1 : mvH m p s q t = false := by rw [mvH, e0]; rfl
    have e2 : mvE m p s q t = 2 := by rw [mvE, if_neg (by simp [e0])]
    rw [e1, e2]
    simp only [hk] at HK
    clear e0 e1 e2 hk
    go_enter Tryz.func9, Tryz.ntmps9
    go_wp2_with fail
    refine (HK w).mono ?_
    rintro e w1 ⟨rfl, l1⟩
    go_wp2
    go_ret2
    exact ⟨rfl, l1⟩
  | true =>
    obtain ⟨hm, hp, hs3, ht3⟩ := fKnown_pair hk
    simp only [hk] at HK
    cases hs : ((s : Int) == 0) with
    | true =>
      have e0 : mvB m p s q t = false := by rw [mvB, hs]; simp
      have e1 : mvH m p s q t = false := by rw [mvH, e0]; rfl
      have e2 : mvE m p s q t = 2 := by rw [mvE, if_neg (by simp [e0])]
      rw [e1, e2]
      clear e0 e1 e2 hk hm hp hs3 ht3
      go_enter Tryz.func9, Tryz.ntmps9
      go_wp2_with fail
      refine (HK w).mono ?_
      rintro e w1 ⟨rfl, l1⟩
      go_wp2
      go_ret2
      exact ⟨rfl, l1⟩
    | false =>
      cases ht : ((t : Int) == 1000) with
      | true =>
        have e0 : mvB m p s q t = false := by rw [mvB, ht]; simp
        have e1 : mvH m p s q t = false := by rw [mvH, e0]; rfl
        have e2 : mvE m p s q t = 2 := by rw [mvE, if_neg (by simp [e0])]
        rw [e1, e2]
        clear e0 e1 e2 hk hm hp hs3 ht3
        go_enter Tryz.func9, Tryz.ntmps9
        go_wp2_with fail
        refine (HK w).mono ?_
        rintro e w1 ⟨rfl, l1⟩
        go_wp2
        go_ret2
        exact ⟨rfl, l1⟩
      | false =>
        have e0 : mvB m p s q t = true := by rw [mvB, hk, hs, ht]; rfl
        have e1 : mvH m p s q t = helpsF m p s q t := by rw [mvH, e0]; rfl
        have e2 : mvE m p s q t = 0 := by rw [mvE, if_pos e0]
        have hs' : s ≠ 0 := by simpa using hs
        have ht' : t ≠ 1000 := by simpa using ht
        have HH := fHelpsIn_any (m := m) hp (by have := hp.s0; omega) (by omega) hm.1 hm.2
        rw [e1, e2]
        obtain ⟨hb, hhb⟩ : ∃ b, helpsF m p s q t = b := ⟨_, rfl⟩
        rw [hhb] at HH ⊢
        unfold sideC at HH
        clear e0 e1 e2 hk hm hp hs3 ht3 hs' ht' hhb
        go_enter Tryz.func9, Tryz.ntmps9
        go_wp2_with fail
        refine (HK w).mono ?_
        rintro e w1 ⟨rfl, l1⟩
        go_wp2_with fail
        refine (HH w1).mono ?_
        rintro e w2 ⟨rfl, l2⟩
        go_wp2
        go_ret2
        exact ⟨rfl, l1.trans l2⟩
end Go.Proofs.YtkjnjooggicgiaaGreat
