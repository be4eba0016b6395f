/- FairPairs: the walk, and the law. -/
import Derived.Test.YtkiaaefkobfkgaaGreatF07
namespace Go.Proofs.YtkiaaefkobfkgaaGreat
open Go.RowKit
set_option linter.unusedSimpArgs false

set_option maxRecDepth 100000 in
set_option maxHeartbeats 8000000 in
/-- The inequality is infinite. -/
theorem dPairs_far (mt p q s t k a b x y : Int) (X : Array Value) (w : World) (gX : GoodX X) (hm0 : 0 ≤ mt) (hm1 : mt < 256) (hp0 : 0 ≤ p) (hp1 : p < 65536) (hq0 : 0 ≤ q) (hq1 : q < 65536) (hs0 : 0 ≤ s) (hs1 : s < 256) (ht0 : 0 ≤ t) (ht1 : t < 256)
    (hk : 11 + mt % 5 = k) (ha : 1 + p = a) (hb : 1 + q = b) (hx : s % 12 = x) (hy : t % 12 = y)
    (HM1 : ∀ w, Calls Tryz.prog 16 #[.int .i64 k, .int .i64 a, .int .i64 x, .int .i64 b, .int .i64 y] w (ShR w X 7)) (HM2 : ∀ w, Calls Tryz.prog 16 #[.int .i64 k, .int .i64 b, .int .i64 y, .int .i64 a, .int .i64 x] w (ShR w X 7))
    (k2 : (k == 12) = true ∨ ((k == 12) = false ∧ (k == 13) = true)) (hxy : (x != y) = true) (hmn : min x y = 0) :
    Calls Tryz.prog 4 #[.int .u8 mt, .int .u16 p, .int .u16 q, .int .u8 s, .int .u8 t] w (Yes9 w) := by
  have NP := fun w => gX.neq w
  have z1 := Lib.hid gX.1
  have c1 := Lib.hid gX.2.1
  have i1 := Lib.hid gX.info
  have hgd := Lib.hid shGuard
  clear gX
  have HK := Lib.hid k2
  clear k2
  go_enter Tryz.func4, Tryz.ntmps4
  go_wp2_with fail
  refine (wakes9_any w).mono ?_
  rintro e W2 ⟨rfl, l2⟩
  go_wp2_with fail
  refine (HM1 W2).mono ?_
  rintro e V0 ⟨rfl, lv⟩
  have K0 := Blk.new V0 35 #[.int .u64 W8.zero.a0, .int .u64 W8.zero.a1, .int .u64 W8.zero.a2, .int .u64 W8.zero.a3, .int .u64 W8.zero.a4, .int .u64 W8.zero.a5, .int .u64 W8.zero.a6, .int .u64 W8.zero.a7, .int .u64 W8.zero.a0, .int .u64 W8.zero.a1, .int .u64 W8.zero.a2, .int .u64 W8.zero.a3, .int .u64 W8.zero.a4, .int .u64 W8.zero.a5, .int .u64 W8.zero.a6, .int .u64 W8.zero.a7]
  go_wp2_with (refine wpList_put rfl 35 (.tmp 16) (.tmp 49) (by rfl) (by rfl) V0.heap.size (by rfl) X (by rfl) K0 (by rw [z1.out]; rfl) i1.out c1.out ?_; intro U0 hput; have B1 := hput.blk; have m1 := hput.lat W2 (lv.trans (Lat.alloc _ _)) (by have := lv.size; omega))
  have LL := l2.trans m1
  clear K0 hput lv m1 HM1
  refine (HM2 U0).mono ?_
  rintro e V1 ⟨rfl, lv⟩
  have K0 := Blk.new V1 35 #[.int .u64 W8.zero.a0, .int .u64 W8.zero.a1, .int .u64 W8.zero.a2, .int .u64 W8.zero.a3, .int .u64 W8.zero.a4, .int .u64 W8.zero.a5, .int .u64 W8.zero.a6, .int .u64 W8.zero.a7, .int .u64 W8.zero.a0, .int .u64 W8.zero.a1, .int .u64 W8.zero.a2, .int .u64 W8.zero.a3, .int .u64 W8.zero.a4, .int .u64 W8.zero.a5, .int .u64 W8.zero.a6, .int .u64 W8.zero.a7]
  rcases HK.out with hk2 | ⟨hk2, hk3⟩
  · go_wp2_with (first
      | (refine wpList_put rfl 35 (.tmp 18) (.tmp 58) (by rfl) (by rfl) V1.heap.size (by rfl) X (by rfl) K0 (by rw [z1.out]; rfl) i1.out c1.out ?_; intro U1 hput; have B2 := hput.blk; have m1 := hput.lat U0 (lv.trans (Lat.alloc _ _)) (by have := lv.size; omega); have B1' := B1.later m1)
      | (refine wpList_get (by rfl) 35 (.tmp 16) (by rfl) _ (by rfl) B1' _ Tryz.underlying35 rfl i1.out ?_)
      | (refine wpList_get (by rfl) 35 (.tmp 18) (by rfl) _ (by rfl) B2 _ Tryz.underlying35 rfl i1.out ?_)
      | (refine wpList_bin rfl .neq 35 35 (.tmp 60) (.tmp 61) (by rfl) X X (.bool false) (by rfl) (by rfl) hgd.out (NP _) ?_))
    have LL := LL.trans m1
    go_ret
    exact ⟨rfl, LL⟩
  · go_wp2_with (first
      | (refine wpList_put rfl 35 (.tmp 18) (.tmp 58) (by rfl) (by rfl) V1.heap.size (by rfl) X (by rfl) K0 (by rw [z1.out]; rfl) i1.out c1.out ?_; intro U1 hput; have B2 := hput.blk; have m1 := hput.lat U0 (lv.trans (Lat.alloc _ _)) (by have := lv.size; omega); have B1' := B1.later m1)
      | (refine wpList_get (by rfl) 35 (.tmp 16) (by rfl) _ (by rfl) B1' _ Tryz.underlying35 rfl i1.out ?_)
      | (refine wpList_get (by rfl) 35 (.tmp 18) (by rfl) _ (by rfl) B2 _ Tryz.underlying35 rfl i1.out ?_)
      | (refine wpList_bin rfl .neq 35 35 (.tmp 60) (.tmp 61) (by rfl) X X (.bool false) (by rfl) (by rfl) hgd.out (NP _) ?_))
    have LL := LL.trans m1
    go_ret
    exact ⟨rfl, LL⟩

set_option maxRecDepth 100000 in
set_option maxHeartbeats 8000000 in
/-- The inequality is a number. -/
theorem dPairs_near (mt p q s t k a b x y : Int) (X : Array Value) (w : World) (gX : GoodX X) (hm0 : 0 ≤ mt) (hm1 : mt < 256) (hp0 : 0 ≤ p) (hp1 : p < 65536) (hq0 : 0 ≤ q) (hq1 : q < 65536) (hs0 : 0 ≤ s) (hs1 : s < 256) (ht0 : 0 ≤ t) (ht1 : t < 256)
    (hk : 11 + mt % 5 = k) (ha : 1 + p = a) (hb : 1 + q = b) (hx : s % 12 = x) (hy : t % 12 = y)
    (sg xb ya : Int) (hv : Bool)
    (HM1 : ∀ w, Calls Tryz.prog 16 #[.int .i64 k, .int .i64 a, .int .i64 x, .int .i64 b, .int .i64 y] w (ShR w X 0)) (HM2 : ∀ w, Calls Tryz.prog 16 #[.int .i64 k, .int .i64 b, .int .i64 y, .int .i64 a, .int .i64 x] w (ShR w X 0))
    (HS : ∀ w, Calls Tryz.prog 20 #[.agg X] w (fun e w' => e = .returned (.tuple #[.int .i64 sg, .int .i64 0]) ∧ Lat w w'))
    (HH : (x == 0) = false → ∀ w, Calls Tryz.prog 18 #[.int .i64 k, .int .i64 a, .int .i64 x, .int .i64 b, .int .i64 y] w (fun e w' => e = .returned (.tuple #[.bool hv, .int .i64 0]) ∧ Lat w w'))
    (hxb : x * b = xb) (hya : y * a = ya) (_wx : wrap64 xb = xb) (wx' : IntKind.i64.wrap xb = xb) (_wy : wrap64 ya = ya) (wy' : IntKind.i64.wrap ya = ya) (hsg : ¬ sg < 0) (hsx : (sg == 0) = (xb == ya)) (hlt : (x == 0) = false → hv = true → ya < xb) :
    Calls Tryz.prog 4 #[.int .u8 mt, .int .u16 p, .int .u16 q, .int .u8 s, .int .u8 t] w (Yes9 w) := by
  have NP := fun w => gX.neq w
  have z1 := Lib.hid gX.1
  have c1 := Lib.hid gX.2.1
  have i1 := Lib.hid gX.info
  have hgd := Lib.hid shGuard
  clear gX
  have HLT := Lib.hid hlt
  have HHH := Lib.hid HH
  clear hlt HH
  go_enter Tryz.func4, Tryz.ntmps4
  go_wp2_with fail
  refine (wakes9_any w).mono ?_
  rintro e W2 ⟨rfl, l2⟩
  go_wp2_with fail
  refine (HM1 W2).mono ?_
  rintro e V0 ⟨rfl, lv⟩
  have K0 := Blk.new V0 35 #[.int .u64 W8.zero.a0, .int .u64 W8.zero.a1, .int .u64 W8.zero.a2, .int .u64 W8.zero.a3, .int .u64 W8.zero.a4, .int .u64 W8.zero.a5, .int .u64 W8.zero.a6, .int .u64 W8.zero.a7, .int .u64 W8.zero.a0, .int .u64 W8.zero.a1, .int .u64 W8.zero.a2, .int .u64 W8.zero.a3, .int .u64 W8.zero.a4, .int .u64 W8.zero.a5, .int .u64 W8.zero.a6, .int .u64 W8.zero.a7]
  go_wp2_with (refine wpList_put rfl 35 (.tmp 16) (.tmp 49) (by rfl) (by rfl) V0.heap.size (by rfl) X (by rfl) K0 (by rw [z1.out]; rfl) i1.out c1.out ?_; intro U0 hput; have B1 := hput.blk; have m1 := hput.lat W2 (lv.trans (Lat.alloc _ _)) (by have := lv.size; omega))
  have LL := l2.trans m1
  clear K0 hput lv m1 HM1
  refine (HM2 U0).mono ?_
  rintro e V1 ⟨rfl, lv⟩
  have K0 := Blk.new V1 35 #[.int .u64 W8.zero.a0, .int .u64 W8.zero.a1, .int .u64 W8.zero.a2, .int .u64 W8.zero.a3, .int .u64 W8.zero.a4, .int .u64 W8.zero.a5, .int .u64 W8.zero.a6, .int .u64 W8.zero.a7, .int .u64 W8.zero.a0, .int .u64 W8.zero.a1, .int .u64 W8.zero.a2, .int .u64 W8.zero.a3, .int .u64 W8.zero.a4, .int .u64 W8.zero.a5, .int .u64 W8.zero.a6, .int .u64 W8.zero.a7]
  go_wp2_with (first
    | (refine wpList_put rfl 35 (.tmp 18) (.tmp 58) (by rfl) (by rfl) V1.heap.size (by rfl) X (by rfl) K0 (by rw [z1.out]; rfl) i1.out c1.out ?_; intro U1 hput; have B2 := hput.blk; have m1 := hput.lat U0 (lv.trans (Lat.alloc _ _)) (by have := lv.size; omega); have B1' := B1.later m1)
    | (refine wpList_get (by rfl) 35 (.tmp 16) (by rfl) _ (by rfl) B1' _ Tryz.underlying35 rfl i1.out ?_)
    | (refine wpList_get (by rfl) 35 (.tmp 18) (by rfl) _ (by rfl) B2 _ Tryz.underlying35 rfl i1.out ?_)
    | (refine wpList_bin rfl .neq 35 35 (.tmp 60) (.tmp 61) (by rfl) X X (.bool false) (by rfl) (by rfl) hgd.out (NP _) ?_))
  have LL := LL.trans m1
  clear K0 hput lv m1 HM2
  refine (HS U1).mono ?_
  rintro e U2 ⟨rfl, ls⟩
  have LL := LL.trans ls
  have hsg' : (decide (sg < 0)) = false := by simpa using hsg
  clear HS ls B1 B2 B1'
  cases hx0 : (x == 0) with
  | true =>
    clear HHH HLT
    go_wp2
    go_ret
    exact ⟨rfl, LL⟩
  | false =>
    have HH1 := HHH.out hx0
    go_wp2_with fail
    refine (HH1 U2).mono ?_
    rintro e U3 ⟨rfl, ls⟩
    have LL := LL.trans ls
    clear HH1 ls
    cases hv with
    | false =>
      go_wp2
      go_ret
      exact ⟨rfl, LL⟩
    | true =>
      have hgt := HLT.out hx0 rfl
      go_wp2
      go_ret
      exact ⟨rfl, LL⟩
theorem side_zero {N : Int} (h : 0 ≤ N) : ¬ sideOf N < 0 ∧ ((sideOf N == 0) = true ↔ N = 0) := by
  unfold sideOf
  rw [if_neg (by omega)]
  by_cases h0 : N = 0
  · rw [if_pos h0]; exact ⟨by decide, by simp [h0]⟩
  · rw [if_neg h0]; exact ⟨by decide, by simp [h0]⟩
theorem pairs_num {x b : Int} (hx0 : 0 ≤ x) (hx1 : x ≤ 11) (hb0 : 0 ≤ b) (hb1 : b ≤ 65536) : wrap64 (x * b) = x * b ∧ IntKind.i64.wrap (x * b) = x * b := by
  have h := mul_bound hx0 hx1 hb0 hb1
  exact ⟨IntWalk.wrap64_in _ (by omega), IntWalk.i64_in _ (by omega)⟩
theorem dPairs_any (mt p q s t : Int) (w : World) (hm0 : 0 ≤ mt) (hm1 : mt < 256) (hp0 : 0 ≤ p) (hp1 : p < 65536) (hq0 : 0 ≤ q) (hq1 : q < 65536) (hs0 : 0 ≤ s) (hs1 : s < 256) (ht0 : 0 ≤ t) (ht1 : t < 256) :
    Calls Tryz.prog 4 #[.int .u8 mt, .int .u16 p, .int .u16 q, .int .u8 s, .int .u8 t] w (Yes9 w) := by
  obtain ⟨k, hk⟩ : ∃ k, 11 + mt % 5 = k := ⟨_, rfl⟩
  obtain ⟨a, ha⟩ : ∃ a, 1 + p = a := ⟨_, rfl⟩
  obtain ⟨b, hb⟩ : ∃ b, 1 + q = b := ⟨_, rfl⟩
  obtain ⟨x, hx⟩ : ∃ x, s % 12 = x := ⟨_, rfl⟩
  obtain ⟨y, hy⟩ : ∃ y, t % 12 = y := ⟨_, rfl⟩
  have k0 : 11 ≤ k ∧ k ≤ 15 := by omega
  have a0 : 1 ≤ a ∧ a ≤ 65536 := by omega
  have b0 : 1 ≤ b ∧ b ≤ 65536 := by omega
  have x0 : 0 ≤ x ∧ x ≤ 11 := by omega
  have y0 : 0 ≤ y ∧ y ≤ 11 := by omega
  have hK : fKnownB k a x b y = true := fKnown_iff.2 ⟨k0, ⟨x0.1, by omega, y0.1, by omega⟩, a0.1, by omega, b0.1, by omega⟩
  have hK2 : fKnownB k b y a x = true := fKnown_iff.2 ⟨k0, ⟨y0.1, by omega, x0.1, by omega⟩, b0.1, by omega, a0.1, by omega⟩
  have hPO := (fKnown_pair hK).2.1
  have hsym := meas_symm k a x b y
  have hX : mX k a x b y = gapX (meas k a x b y).1 (meas k a x b y).2 := by rw [mX, if_pos hK]; rfl
  have hX2 : mX k b y a x = gapX (meas k a x b y).1 (meas k a x b y).2 := by rw [mX, if_pos hK2, hsym]; rfl
  have hE : mE k a x b y = if (meas k a x b y).2 = 0 then 7 else 0 := by rw [mE, if_pos hK]
  have hE2 : mE k b y a x = if (meas k a x b y).2 = 0 then 7 else 0 := by rw [mE, if_pos hK2, hsym]
  have HM1 := fun w => fMeasure_any k a x b y w
  have HM2 := fun w => fMeasure_any k b y a x w
  rw [hX, hE] at HM1
  rw [hX2, hE2] at HM2
  have hlow := meas_low (k := k) a0.1 b0.1 x0.1 y0.1
  have hnn := meas_nonneg k a x b y
  by_cases hD : (meas k a x b y).2 = 0
  · rw [if_pos hD] at HM1 HM2
    obtain ⟨h1, h2, h3⟩ := hlow.2 hD
    refine dPairs_far mt p q s t k a b x y _ w (gapX_good _ _) hm0 hm1 hp0 hp1 hq0 hq1 hs0 hs1 ht0 ht1 hk ha hb hx hy HM1 HM2 ?_ (by simpa using h2) h3
    rcases h1 with h | h
    · exact .inl (by simpa using h)
    · exact .inr ⟨by rw [beq_eq_false_iff_ne]; omega, by simpa using h⟩
  · rw [if_neg hD, gapX_yes hD] at HM1 HM2
    have hF := meas_fits hPO hD
    have HS := fun w => shSignX hF w
    have hsd := side_zero hnn.1
    have n1 := pairs_num x0.1 x0.2 (by omega : (0 : Int) ≤ b) b0.2
    have n2 := pairs_num y0.1 y0.2 (by omega : (0 : Int) ≤ a) a0.2
    refine dPairs_near mt p q s t k a b x y _ w (shA_good _ _) hm0 hm1 hp0 hp1 hq0 hq1 hs0 hs1 ht0 ht1 hk ha hb hx hy (sideOf (meas k a x b y).1) (x * b) (y * a) (helpsF k a x b y) HM1 HM2 HS (fun hx0 w => ?_) rfl rfl n1.1 n1.2 n2.1 n2.2 hsd.1 ?_ (fun hx0 hv => ?_)
    · have hxne : x ≠ 0 := by simpa using hx0
      have hB : mvB k a x b y = true := by
        rw [mvB, hK, hx0]
        have : (y == 1000) = false := by rw [beq_eq_false_iff_ne]; omega
        rw [this]; rfl
      have := fHelps_any k a x b y w
      rw [mvE, if_pos hB, mvH, hB, Bool.true_and] at this
      exact this
    · rw [Bool.eq_iff_iff, hsd.2, hnn.2]
      simp
    · have hxne : x ≠ 0 := by simpa using hx0
      exact helps_less a0.1 b0.1 (by omega) y0.1 hv
end Go.Proofs.YtkiaaefkobfkgaaGreat
