/- Several texts in one: FrA, FrB, FrC. -/
import Derived.Test.YtkjnjooggicgiaaGreatJ32
import Derived.Test.YtkjnjooggicgiaaGreatE03

/- Fair: within, product. -/
namespace Go.Proofs.YtkjnjooggicgiaaGreat
open Go.RowKit
set_option linter.unusedSimpArgs false

theorem fWithin1_any (lo hi n : Int) (p q : Addr) (w : World) (hl : w.cell? p = some (.int .i64 lo)) (hh : w.cell? q = some (.int .i64 hi)) :
    Calls Tryz.prog 29 #[.int .i64 n, .pointer (some p), .pointer (some q)] w (fun e w' => e = .returned (.bool (outB lo hi n)) ∧ w = w') := by
  by_cases h1 : n < lo
  · have HO := Lib.hid (outB_lo (hi := hi) h1)
    go_enter Tryz.func29, Tryz.ntmps29
    go_wp2
    go_ret
    exact ⟨by rw [HO.out]; rfl, rfl⟩
  · by_cases h2 : hi < n
    · have HO := Lib.hid (outB_hi (lo := lo) h2)
      have h1' : lo ≤ n := by omega
      clear h1
      go_enter Tryz.func29, Tryz.ntmps29
      go_wp2
      go_ret
      exact ⟨by rw [HO.out]; rfl, rfl⟩
    · have h1' : lo ≤ n := by omega
      have h2' : n ≤ hi := by omega
      clear h1 h2
      go_enter Tryz.func29, Tryz.ntmps29
      go_wp2
      go_ret
      exact ⟨rfl, rfl⟩
/-- slices.IndexFunc, where the function is Within. -/
def FIdxWithin (w : World) (xs : List Int) (lo hi : Int) (e : Ending) (w' : World) : Prop := ∃ r : Int, e = .returned (.int .i64 r) ∧ (xs.any (outB lo hi) = true → 0 ≤ r) ∧ (xs.any (outB lo hi) = false → r < 0) ∧ w = w'
set_option maxHeartbeats 1000000 in
theorem fIdxWithin (lo hi : Int) (p q : Addr) (A : Option Addr) (n c : Nat) (xs : List Int) (w : World) (hs : Sl w .i64 A n xs) (hn : n ≤ 17000000000000) (hl : w.cell? p = some (.int .i64 lo)) (hh : w.cell? q = some (.int .i64 hi)) :
    Calls Tryz.prog 50 #[.slice A n c, .func (.func 29) #[] #[.pointer (some p), .pointer (some q)]] w (FIdxWithin w xs lo hi) := by
  go_enter Tryz.func50, Tryz.ntmps50
  go_wp2
  go_loop [8] (fun i => ∃ k : Nat, k ≤ n ∧ i = .int .i64 k ∧ Hid ((xs.take k).any (outB lo hi) = false)) (fun i => n - (intOf i).toNat)
  case atStart => exact ⟨0, Nat.zero_le _, rfl, rfl⟩
  case round =>
    obtain ⟨k, hk, rfl, hno⟩ := hrel
    by_cases hlt : k < n
    · obtain ⟨a, x, rfl, ha, hxk, hcell⟩ := hs.at hlt
      have HX := Lib.hid hxk
      have HT : Hid ((xs.take (k + 1)).any (outB lo hi) = (outB lo hi) x) := by
        obtain ⟨hl, rfl⟩ := List.getElem?_eq_some_iff.1 hxk
        show _ = _
        rw [List.take_succ_eq_append_getElem hl, List.any_append, hno.out]; simp
      have HM := Lib.hid (List.mem_of_getElem? hxk)
      clear hxk
      by_cases hp : (outB lo hi) x = true
      · have HA : Hid (xs.any (outB lo hi) = true) := by show _ = _; rw [List.any_eq_true]; exact ⟨x, HM.out, hp⟩
        have HP := Lib.hid hp
        clear hp
        go_wp2_with fail
        refine (fWithin1_any lo hi x p q _ hl hh).mono ?_
        rintro e w1 ⟨rfl, rfl⟩
        rw [HP.out]
        go_wp2
        go_ret
        exact ⟨k, rfl, (fun _ => by omega), (fun h => by rw [HA.out] at h; cases h), rfl⟩
      · have hp' : (outB lo hi) x = false := by simpa using hp
        have HP := Lib.hid hp'
        clear hp hp'
        go_wp2_with fail
        refine (fWithin1_any lo hi x p q _ hl hh).mono ?_
        rintro e w1 ⟨rfl, rfl⟩
        rw [HP.out]
        go_wp2
        go_round
        case rel => exact ⟨k + 1, by omega, by go_num, by rw [HT.out, HP.out]; rfl⟩
        case measure => simp [intOf]; omega
    · obtain rfl : k = n := by omega
      have HA : Hid (xs.any (outB lo hi) = false) := by
        have := hno.out
        rw [List.take_of_length_le (by have := hs.1; omega)] at this
        exact this
      go_wp2
      go_ret
      exact ⟨-1, rfl, (fun h => by rw [HA.out] at h; cases h), (fun _ => by omega), rfl⟩
theorem fHasWithin (lo hi : Int) (p q : Addr) (A : Option Addr) (n c : Nat) (xs : List Int) (w : World) (hs : Sl w .i64 A n xs) (hn : n ≤ 17000000000000) (hl : w.cell? p = some (.int .i64 lo)) (hh : w.cell? q = some (.int .i64 hi)) :
    Calls Tryz.prog 28 #[.slice A n c, .func (.func 29) #[] #[.pointer (some p), .pointer (some q)]] w (fun e w' => e = .returned (.bool (xs.any (outB lo hi))) ∧ w = w') := by
  have HI := fIdxWithin lo hi p q A n c xs w hs hn hl hh
  go_enter Tryz.func28, Tryz.ntmps28
  go_wp2_with fail
  refine HI.mono ?_
  rintro e w1 ⟨r, rfl, h1, h2, rfl⟩
  cases hb : xs.any (outB lo hi) with
  | true =>
    have h0 := h1 hb
    have HB := Lib.hid hb
    clear h1 h2 hb
    go_wp2
    go_ret
    exact ⟨by rw [HB.out]; rfl, rfl⟩
  | false =>
    have h0 := h2 hb
    have h0' : decide (0 ≤ r) = false := by simp; omega
    have HB := Lib.hid hb
    clear h1 h2 hb
    go_wp2
    go_ret
    exact ⟨by rw [HB.out]; rfl, rfl⟩

theorem fWithin_any (lo hi : Int) (A : Option Addr) (n c : Nat) (xs : List Int) (w : World) (hs : Sl w .i64 A n xs) (hn : n ≤ 17000000000000) :
    Calls Tryz.prog 14 #[.int .i64 lo, .int .i64 hi, .slice A n c] w (fun e w' => e = .returned (.bool (inAll lo hi xs)) ∧ Lat w w') := by
  have hu : Hid (∀ b : Bool, (xs.any (outB lo hi)) = b → inAll lo hi xs = !b) := fun b h => by rw [inAll, h]
  go_enter Tryz.func14, Tryz.ntmps14
  go_wp2_with fail
  refine name2 (Q := fun W => Calls _ _ _ W _) ?_
  intro W hl hs2 k1 k2
  refine (fHasWithin lo hi ⟨w.heap.size, 0, none⟩ ⟨w.heap.size + 1, 0, none⟩ A n c xs W (hs.later hl) hn (k1.cell 0) (k2.cell 0)).mono ?_
  rintro e w1 ⟨rfl, rfl⟩
  cases hb : xs.any (outB lo hi) with
  | true =>
    have HU := Lib.hid (hu.out _ hb)
    clear hb
    go_wp2
    go_ret
    exact ⟨by rw [HU.out]; rfl, hl⟩
  | false =>
    have HU := Lib.hid (hu.out _ hb)
    clear hb
    go_wp2
    go_ret
    exact ⟨by rw [HU.out]; rfl, hl⟩

/-- A product of none, one, two numbers. -/
def prodT (a b : Int) (k : Nat) : Int := if k = 0 then 1 else if k = 1 then a else a * b
set_option maxHeartbeats 1000000 in
theorem fProduct_any (a b : Int) (g c : Nat) (t : TypeId) (w : World) (hb : Blk w g t #[.int .i64 a, .int .i64 b]) (h0 : -9223372036854775808 ≤ a) (h1 : a ≤ 9223372036854775807) (h2 : -9223372036854775808 ≤ a * b) (h3 : a * b ≤ 9223372036854775807) :
    Calls Tryz.prog 23 #[.slice (some ⟨g, 0, none⟩) 2 c] w (fun e w' => e = .returned (.int .i64 (a * b)) ∧ w = w') := by
  have c0 := hb.cell 0
  have c1 := hb.cell 1
  have w1 : wrap64 (1 * a) = a := by rw [Int.one_mul]; exact IntWalk.wrap64_in _ (by omega)
  have w2 : wrap64 (a * b) = a * b := IntWalk.wrap64_in _ (by omega)
  have w0 : wrap64 a = a := IntWalk.wrap64_in _ (by omega)
  have w1' : IntKind.i64.wrap (1 * a) = a := by rw [Int.one_mul]; exact IntWalk.i64_in _ (by omega)
  have w2' : IntKind.i64.wrap (a * b) = a * b := IntWalk.i64_in _ (by omega)
  clear h0 h1 h2 h3 hb
  go_enter Tryz.func23, Tryz.ntmps23
  go_wp2
  go_loop [3, 8] (fun n i => ∃ k : Nat, k ≤ 2 ∧ i = .int .i64 k ∧ n = .int .i64 (prodT a b k)) (fun _ i => 2 - (intOf i).toNat)
  case atStart => exact ⟨0, by omega, rfl, rfl⟩
  case round =>
    obtain ⟨k, hk, rfl, rfl⟩ := hrel
    have hk3 : k = 0 ∨ k = 1 ∨ k = 2 := by omega
    clear hk
    rcases hk3 with rfl | rfl | rfl
    · simp only [prodT, if_true]
      go_wp2
      go_round
      case rel => exact ⟨1, by omega, rfl, by simp [prodT, w0]⟩
      case measure => simp [intOf]
    · simp only [prodT, show ¬ (1 : Nat) = 0 by decide, if_false, if_true]
      go_wp2
      go_round
      case rel => exact ⟨2, by omega, rfl, by simp [prodT, w2]⟩
      case measure => simp [intOf]
    · simp only [prodT, show ¬ (2 : Nat) = 0 by decide, show ¬ (2 : Nat) = 1 by decide, if_false]
      go_wp2
      go_ret
      exact ⟨rfl, rfl⟩
end Go.Proofs.YtkjnjooggicgiaaGreat

/- Fair: the gap of two fractions. -/
namespace Go.Proofs.YtkjnjooggicgiaaGreat
open Go.RowKit
set_option linter.unusedSimpArgs false

/-- The words of a fraction that may have nothing below. -/
def gapX (N D : Int) : Array Value := if D = 0 then zA else shA N D
def gapB (D : Int) : Bool := !(D == 0)
theorem gapX_yes {N D : Int} (h : D ≠ 0) : gapX N D = shA N D := by rw [gapX, if_neg h]
theorem gapX_no (N : Int) : gapX N 0 = zA := by rw [gapX, if_pos rfl]
theorem gapB_yes {D : Int} (h : D ≠ 0) : gapB D = true := by simp [gapB, h]
theorem gapB_no : gapB 0 = false := rfl
theorem gapX_good (N D : Int) : GoodX (gapX N D) := by unfold gapX; split; exact zA_good; exact shA_good _ _
/-- What a call leaves that returns words of a fraction, if there is one. -/
def GapR (w : World) (N D : Int) (e : Ending) (w' : World) : Prop := e = .returned (.tuple #[.agg (gapX N D), .bool (gapB D)]) ∧ Lat w w'

theorem GoodX.cells {X : Array Value} (h : GoodX X) : ∃ u v : W8, X = #[.int .u64 u.a0, .int .u64 u.a1, .int .u64 u.a2, .int .u64 u.a3, .int .u64 u.a4, .int .u64 u.a5, .int .u64 u.a6, .int .u64 u.a7, .int .u64 v.a0, .int .u64 v.a1, .int .u64 v.a2, .int .u64 v.a3, .int .u64 v.a4, .int .u64 v.a5, .int .u64 v.a6, .int .u64 v.a7] := by obtain ⟨_, _, u, v, _, _, h⟩ := h; exact ⟨u, v, h⟩

set_option maxRecDepth 100000 in
set_option maxHeartbeats 4000000 in
theorem fGap_none (a b c d : Int) (w : World) (h0 : b * d = 0) (hb0 : -9223372036854775808 ≤ b) (hb1 : b ≤ 9223372036854775807) :
    Calls Tryz.prog 22 #[.int .i64 a, .int .i64 b, .int .i64 c, .int .i64 d] w (GapR w (a * d - c * b) (b * d)) := by
  rw [h0]
  have e0 : gapX (a * d - c * b) 0 = zA := gapX_no _
  unfold GapR
  rw [e0, gapB_no]
  have HP : ∀ (w : World) (g : Nat), Blk w g 3 #[.int .i64 b, .int .i64 d] → Calls Tryz.prog 23 #[.slice (some ⟨g, 0, none⟩) 2 2] w (fun e w' => e = .returned (.int .i64 0) ∧ w = w') := fun w g hk => by
    have := fProduct_any b d g 2 _ w hk hb0 hb1 (by omega) (by omega)
    rw [h0] at this
    exact this
  clear h0 hb0 hb1 e0
  go_enter Tryz.func22, Tryz.ntmps22
  go_wp2_with fail
  refine name2 (Q := fun W => Calls _ _ _ W _) ?_
  intro W hl hs k1 k2
  refine (HP W _ k2).mono ?_
  rintro e w1 ⟨rfl, rfl⟩
  have e0 := k1.cell 0
  have e1 := k1.cell 1
  have e2 := k1.cell 2
  have e3 := k1.cell 3
  have e4 := k1.cell 4
  have e5 := k1.cell 5
  have e6 := k1.cell 6
  have e7 := k1.cell 7
  have e8 := k1.cell 8
  have e9 := k1.cell 9
  have e10 := k1.cell 10
  have e11 := k1.cell 11
  have e12 := k1.cell 12
  have e13 := k1.cell 13
  have e14 := k1.cell 14
  have e15 := k1.cell 15
  have f0 := k1.frozen 0
  have f1 := k1.frozen 1
  have f2 := k1.frozen 2
  have f3 := k1.frozen 3
  have f4 := k1.frozen 4
  have f5 := k1.frozen 5
  have f6 := k1.frozen 6
  have f7 := k1.frozen 7
  have f8 := k1.frozen 8
  have f9 := k1.frozen 9
  have f10 := k1.frozen 10
  have f11 := k1.frozen 11
  have f12 := k1.frozen 12
  have f13 := k1.frozen 13
  have f14 := k1.frozen 14
  have f15 := k1.frozen 15
  go_wp2
  refine bodyPost_ret (v := .tuple #[.agg zA, .bool false]) (by simp [results, Tryz.results22, go_sem, zA, W8.zero, e0, e1, e2, e3, e4, e5, e6, e7, e8, e9, e10, e11, e12, e13, e14, e15]) rfl ?_
  refine ⟨rfl, ?_⟩
  iterate 16 (refine Lat.setCell ?_ (by simp; try omega) _)
  exact hl

set_option maxRecDepth 100000 in
set_option maxHeartbeats 4000000 in
theorem fGap_some (a b c d : Int) (w : World) (hb : 0 < b) (hd : 0 < d) (hbd : b * d ≤ 9223372036854775807) (ha0 : -9223372036854775808 ≤ a) (ha1 : a ≤ 9223372036854775807) (hc0 : -9223372036854775808 ≤ c) (hc1 : c ≤ 9223372036854775807) (hF : Fits (a * d - c * b) (b * d)) :
    Calls Tryz.prog 22 #[.int .i64 a, .int .i64 b, .int .i64 c, .int .i64 d] w (GapR w (a * d - c * b) (b * d)) := by
  have p1 : b ≤ b * d := by have := Int.mul_le_mul_of_nonneg_left (show 1 ≤ d by omega) (show 0 ≤ b by omega); omega
  have p2 : d ≤ b * d := by have := Int.mul_le_mul_of_nonneg_right (show 1 ≤ b by omega) (show 0 ≤ d by omega); omega
  have hD : b * d ≠ 0 := by have := Int.mul_pos hb hd; omega
  have F1 : Fits a b := fits_small hb (by omega) ha0 ha1
  have F2 : Fits c d := fits_small hd (by omega) hc0 hc1
  have HO1 := fun w => shOfX a b w hb (by omega) ha0 ha1
  have HO2 := fun w => shOfX c d w hd (by omega) hc0 hc1
  have HS := fun w => shSubX F1 F2 hF w
  have G1 := shA_good a b
  have G2 := shA_good c d
  have G3 := shA_good (a * d - c * b) (b * d)
  unfold GapR
  rw [gapX_yes hD, gapB_yes hD]
  obtain ⟨X1, hX1⟩ : ∃ X, shA a b = X := ⟨_, rfl⟩
  obtain ⟨X2, hX2⟩ : ∃ X, shA c d = X := ⟨_, rfl⟩
  obtain ⟨X3, hX3⟩ : ∃ X, shA (a * d - c * b) (b * d) = X := ⟨_, rfl⟩
  rw [hX1] at HO1 HS G1
  rw [hX2] at HO2 HS G2
  rw [hX3] at HS G3 ⊢
  have HP : ∀ (w : World) (g : Nat), Blk w g 3 #[.int .i64 b, .int .i64 d] → Calls Tryz.prog 23 #[.slice (some ⟨g, 0, none⟩) 2 2] w (fun e w' => e = .returned (.int .i64 (b * d)) ∧ w = w') := fun w g hk =>
    fProduct_any b d g 2 _ w hk (by omega) (by omega) (by omega) (by omega)
  obtain ⟨D, hDD⟩ : ∃ D, b * d = D := ⟨_, rfl⟩
  rw [hDD] at HP hD
  have hz : ((D : Int) == 0) = false := by simpa using hD
  have i1 := Lib.hid G1.info
  have i2 := Lib.hid G2.info
  have i3 := Lib.hid G3.info
  have z1 := Lib.hid G1.1
  have z2 := Lib.hid G2.1
  have z3 := Lib.hid G3.1
  have c1 := Lib.hid G1.2.1
  have c2 := Lib.hid G2.2.1
  have c3 := Lib.hid G3.2.1
  have G3' := Lib.hid G3.cells
  clear G1 G2 G3 hX1 hX2 hX3 hDD hb hd hbd ha0 ha1 hc0 hc1 hF p1 p2 hD F1 F2
  go_enter Tryz.func22, Tryz.ntmps22
  go_wp2_with fail
  refine name2 (Q := fun W => Calls _ _ _ W _) ?_
  intro W hl hs k1 k2
  refine (HP W _ k2).mono ?_
  rintro e w1 ⟨rfl, rfl⟩
  clear HP k2
  go_wp2_with fail
  refine (HO1 W).mono ?_
  rintro e V1 ⟨rfl, l1⟩
  have K0 := Blk.new V1 35 #[.int .u64 W8.zero.a0, .int .u64 W8.zero.a1, .int .u64 W8.zero.a2, .int .u64 W8.zero.a3, .int .u64 W8.zero.a4, .int .u64 W8.zero.a5, .int .u64 W8.zero.a6, .int .u64 W8.zero.a7, .int .u64 W8.zero.a0, .int .u64 W8.zero.a1, .int .u64 W8.zero.a2, .int .u64 W8.zero.a3, .int .u64 W8.zero.a4, .int .u64 W8.zero.a5, .int .u64 W8.zero.a6, .int .u64 W8.zero.a7]
  go_wp2_with (refine wpList_put rfl 35 (.tmp 10) (.tmp 26) (by rfl) (by rfl) V1.heap.size (by rfl) X1 (by rfl) K0 (by rw [z1.out]; rfl) i1.out c1.out ?_; intro W2 hput; have B1 := hput.blk; have m1 := hput.lat W (l1.trans (Lat.alloc _ _)) (by have := l1.size; omega))
  have L2 := hl.trans m1
  have k3 := k1.later m1
  clear K0 hput l1 m1 HO1 k1 hl
  refine (HO2 W2).mono ?_
  rintro e V2 ⟨rfl, l2⟩
  have K0 := Blk.new V2 35 #[.int .u64 W8.zero.a0, .int .u64 W8.zero.a1, .int .u64 W8.zero.a2, .int .u64 W8.zero.a3, .int .u64 W8.zero.a4, .int .u64 W8.zero.a5, .int .u64 W8.zero.a6, .int .u64 W8.zero.a7, .int .u64 W8.zero.a0, .int .u64 W8.zero.a1, .int .u64 W8.zero.a2, .int .u64 W8.zero.a3, .int .u64 W8.zero.a4, .int .u64 W8.zero.a5, .int .u64 W8.zero.a6, .int .u64 W8.zero.a7]
  go_wp2_with (first
    | (refine wpList_put rfl 35 (.tmp 12) (.tmp 32) (by rfl) (by rfl) V2.heap.size (by rfl) X2 (by rfl) K0 (by rw [z2.out]; rfl) i2.out c2.out ?_; intro W3 hput; have B2 := hput.blk; have m2 := hput.lat W2 (l2.trans (Lat.alloc _ _)) (by have := l2.size; omega); have B1 := B1.later m2)
    | (refine wpList_get rfl 35 (.tmp 10) (by rfl) V1.heap.size (by rfl) B1 _ Tryz.underlying35 rfl i1.out ?_)
    | (refine wpList_get rfl 35 (.tmp 12) (by rfl) V2.heap.size (by rfl) B2 _ Tryz.underlying35 rfl i2.out ?_))
  have L3 := L2.trans m2
  have k4 := k3.later m2
  clear K0 hput l2 m2 HO2 k3 L2 B1 B2
  refine (HS W3).mono ?_
  rintro e V3 ⟨rfl, l3⟩
  have K0 := Blk.new V3 35 #[.int .u64 W8.zero.a0, .int .u64 W8.zero.a1, .int .u64 W8.zero.a2, .int .u64 W8.zero.a3, .int .u64 W8.zero.a4, .int .u64 W8.zero.a5, .int .u64 W8.zero.a6, .int .u64 W8.zero.a7, .int .u64 W8.zero.a0, .int .u64 W8.zero.a1, .int .u64 W8.zero.a2, .int .u64 W8.zero.a3, .int .u64 W8.zero.a4, .int .u64 W8.zero.a5, .int .u64 W8.zero.a6, .int .u64 W8.zero.a7]
  have k5 := (k4.later l3).alloc (.cells #[.int .u64 W8.zero.a0, .int .u64 W8.zero.a1, .int .u64 W8.zero.a2, .int .u64 W8.zero.a3, .int .u64 W8.zero.a4, .int .u64 W8.zero.a5, .int .u64 W8.zero.a6, .int .u64 W8.zero.a7, .int .u64 W8.zero.a0, .int .u64 W8.zero.a1, .int .u64 W8.zero.a2, .int .u64 W8.zero.a3, .int .u64 W8.zero.a4, .int .u64 W8.zero.a5, .int .u64 W8.zero.a6, .int .u64 W8.zero.a7] 35)
  have hne : w.heap.size ≠ V3.heap.size := by have := (k4.later l3).lt; omega
  go_wp2_with (first
    | (refine wpList_put rfl 35 (.tmp 14) (.tmp 38) (by rfl) (by rfl) V3.heap.size (by rfl) X3 (by rfl) K0 (by rw [z3.out]; rfl) i3.out c3.out ?_; intro W4 hput; have B3 := hput.blk; have m3 := hput.lat W3 (l3.trans (Lat.alloc _ _)) (by have := l3.size; omega); have k6 := hput.keep k5 hne)
    | (refine wpList_get rfl 35 (.tmp 14) (by rfl) V3.heap.size (by rfl) B3 _ Tryz.underlying35 rfl i3.out ?_)
    | (refine wpList_put rfl 35 (.tmp 8) (.tmp 40) (by rfl) (by rfl) w.heap.size (by rfl) X3 (by rfl) k6 (by rw [z3.out]; rfl) i3.out c3.out ?_; intro W5 hput5; have KS := hput5.blk; have L5 := hput5.lat w (L3.trans m3) (Nat.le_refl _)))
  obtain ⟨u, v, rfl⟩ := G3'.out
  have e0 := KS.cell 0
  have e1 := KS.cell 1
  have e2 := KS.cell 2
  have e3 := KS.cell 3
  have e4 := KS.cell 4
  have e5 := KS.cell 5
  have e6 := KS.cell 6
  have e7 := KS.cell 7
  have e8 := KS.cell 8
  have e9 := KS.cell 9
  have e10 := KS.cell 10
  have e11 := KS.cell 11
  have e12 := KS.cell 12
  have e13 := KS.cell 13
  have e14 := KS.cell 14
  have e15 := KS.cell 15
  clear hput hput5 K0 k5 k6 B3
  refine bodyPost_ret (v := .tuple #[.agg #[.int .u64 u.a0, .int .u64 u.a1, .int .u64 u.a2, .int .u64 u.a3, .int .u64 u.a4, .int .u64 u.a5, .int .u64 u.a6, .int .u64 u.a7, .int .u64 v.a0, .int .u64 v.a1, .int .u64 v.a2, .int .u64 v.a3, .int .u64 v.a4, .int .u64 v.a5, .int .u64 v.a6, .int .u64 v.a7], .bool true]) (by simp [results, Tryz.results22, go_sem, e0, e1, e2, e3, e4, e5, e6, e7, e8, e9, e10, e11, e12, e13, e14, e15]) rfl ?_
  exact ⟨rfl, L5⟩
end Go.Proofs.YtkjnjooggicgiaaGreat

/- Fair: the five inequalities of the favoured side, excess, turned. -/
namespace Go.Proofs.YtkjnjooggicgiaaGreat
open Go.RowKit
set_option linter.unusedSimpArgs false

theorem LatS.alloc {W w : World} {gs : List Nat} (h : LatS W gs w) (o : Obj) : LatS W gs (w.alloc o) :=
  ⟨Nat.le_trans h.1 (Lat.alloc w o).size, fun k hk hn => (Below.heap_alloc w o k (Nat.lt_of_lt_of_le hk h.1)).trans (h.2 k hk hn)⟩
theorem Blk.newD (w : World) (t : TypeId) (cs : Array Value) : Blk (w.alloc (.cells cs t)).drew w.heap.size t cs := Blk.new w t cs
theorem Blk.newE (w : World) (o : Obj) (t : TypeId) (cs : Array Value) : Blk ((w.alloc o).alloc (.cells cs t)).drew (w.heap.size + 1) t cs := by
  have := Blk.new (w.alloc o) t cs
  rw [show (w.alloc o).heap.size = w.heap.size + 1 by simp] at this
  exact this
theorem Blk.newF (w : World) (o : Obj) (t : TypeId) (cs : Array Value) : Blk ((w.alloc (.cells cs t)).alloc o).drew w.heap.size t cs := (Blk.new w t cs).alloc o
theorem LatS.drew {W w : World} {gs : List Nat} (h : LatS W gs w) : LatS W gs w.drew := h
/-- The cells of a side. -/
def sideC (p s q t : Int) : Array Value := #[.int .i64 p, .int .i64 s, .int .i64 q, .int .i64 t]
/-- What a call leaves that returns words of a share, and whether there is one. -/
def ShB (w : World) (X : Array Value) (b : Bool) (e : Ending) (w' : World) : Prop := e = .returned (.tuple #[.agg X, .bool b]) ∧ Lat w w'
theorem GapR.b {w w' : World} {N D : Int} {e : Ending} (h : GapR w N D e w') : ShB w (gapX N D) (gapB D) e w' := h

set_option maxHeartbeats 1000000 in
theorem fExcess_any (p s q t : Int) (w : World) (h0 : -1000000000000000 ≤ s * q) (h1 : s * q ≤ 1000000000000000) (h2 : -1000000000000000 ≤ t * p) (h3 : t * p ≤ 1000000000000000) :
    Calls Tryz.prog 39 #[.agg (sideC p s q t)] w (fun e w' => e = .returned (.int .i64 (s * q - t * p)) ∧ Lat w w') := by
  unfold sideC
  have w1 : wrap64 (s * q) = s * q := IntWalk.wrap64_in _ (by omega)
  have w2 : wrap64 (t * p) = t * p := IntWalk.wrap64_in _ (by omega)
  have w1' : IntKind.i64.wrap (s * q) = s * q := IntWalk.i64_in _ (by omega)
  have w2' : IntKind.i64.wrap (t * p) = t * p := IntWalk.i64_in _ (by omega)
  have w3 : wrap64 (s * q - t * p) = s * q - t * p := IntWalk.wrap64_in _ (by omega)
  have w3' : IntKind.i64.wrap (s * q - t * p) = s * q - t * p := IntWalk.i64_in _ (by omega)
  clear h0 h1 h2 h3
  go_enter Tryz.func39, Tryz.ntmps39
  go_wp2
  go_ret
  exact ⟨rfl, Lat.alloc _ _⟩
set_option maxHeartbeats 1000000 in
theorem fTurned_any (p s q t : Int) (w : World) :
    Calls Tryz.prog 40 #[.agg (sideC p s q t)] w (fun e w' => e = .returned (.agg (sideC q t p s)) ∧ Lat w w') := by
  unfold sideC
  go_enter Tryz.func40, Tryz.ntmps40
  go_wp2
  refine bodyPost_ret (v := .agg #[.int .i64 q, .int .i64 t, .int .i64 p, .int .i64 s]) (by simp [results, Tryz.results40, go_sem]) rfl ?_
  exact ⟨rfl, (Lat.alloc _ _).trans (Lat.alloc _ _)⟩


set_option maxRecDepth 100000 in
set_option maxHeartbeats 4000000 in
theorem fDean (p s q t : Int) (X : Array Value) (b : Bool) (hX : GoodX X) (HG : ∀ w, Calls Tryz.prog 22 #[.int .i64 q, .int .i64 t, .int .i64 p, .int .i64 s] w (ShB w X b)) (w : World) :
    Calls Tryz.prog 42 #[.agg (sideC p s q t)] w (ShB w X b) := by
  have i1 := Lib.hid hX.info
  have z1 := Lib.hid hX.1
  have c1 := Lib.hid hX.2.1
  have G1 := Lib.hid hX.cells
  unfold sideC
  clear hX
  go_enter Tryz.func42, Tryz.ntmps42
  go_wp2_with fail
  refine name2 (Q := fun W => Calls _ _ _ W _) ?_
  intro W hl hs k1 k2
  refine (HG W).mono ?_
  rintro e w1 ⟨rfl, l1⟩
  have K2 := k2.later l1
  go_wp2_with (refine wpList_put rfl 35 (.tmp 2) (.tmp 17) (by rfl) (by rfl) (w.heap.size + 1) (by rfl) X (by rfl) K2 (by rw [z1.out]; rfl) i1.out c1.out ?_; intro W2 hput; have B1 := hput.blk; have m1 := hput.lat w (hl.trans l1) (by omega))
  obtain ⟨u, v, rfl⟩ := G1.out
  have e0 := B1.cell 0
  have e1 := B1.cell 1
  have e2 := B1.cell 2
  have e3 := B1.cell 3
  have e4 := B1.cell 4
  have e5 := B1.cell 5
  have e6 := B1.cell 6
  have e7 := B1.cell 7
  have e8 := B1.cell 8
  have e9 := B1.cell 9
  have e10 := B1.cell 10
  have e11 := B1.cell 11
  have e12 := B1.cell 12
  have e13 := B1.cell 13
  have e14 := B1.cell 14
  have e15 := B1.cell 15
  clear hput K2 k1 k2
  refine bodyPost_ret (v := .tuple #[.agg #[.int .u64 u.a0, .int .u64 u.a1, .int .u64 u.a2, .int .u64 u.a3, .int .u64 u.a4, .int .u64 u.a5, .int .u64 u.a6, .int .u64 u.a7, .int .u64 v.a0, .int .u64 v.a1, .int .u64 v.a2, .int .u64 v.a3, .int .u64 v.a4, .int .u64 v.a5, .int .u64 v.a6, .int .u64 v.a7], .bool b]) (by simp [results, Tryz.results42, go_sem, e0, e1, e2, e3, e4, e5, e6, e7, e8, e9, e10, e11, e12, e13, e14, e15]) rfl ?_
  exact ⟨rfl, m1⟩

set_option maxRecDepth 100000 in
set_option maxHeartbeats 4000000 in
theorem fWebster (p s q t : Int) (X : Array Value) (b : Bool) (hX : GoodX X) (HG : ∀ w, Calls Tryz.prog 22 #[.int .i64 s, .int .i64 p, .int .i64 t, .int .i64 q] w (ShB w X b)) (w : World) :
    Calls Tryz.prog 44 #[.agg (sideC p s q t)] w (ShB w X b) := by
  have i1 := Lib.hid hX.info
  have z1 := Lib.hid hX.1
  have c1 := Lib.hid hX.2.1
  have G1 := Lib.hid hX.cells
  unfold sideC
  clear hX
  go_enter Tryz.func44, Tryz.ntmps44
  go_wp2_with fail
  refine name2 (Q := fun W => Calls _ _ _ W _) ?_
  intro W hl hs k1 k2
  refine (HG W).mono ?_
  rintro e w1 ⟨rfl, l1⟩
  have K2 := k2.later l1
  go_wp2_with (refine wpList_put rfl 35 (.tmp 2) (.tmp 17) (by rfl) (by rfl) (w.heap.size + 1) (by rfl) X (by rfl) K2 (by rw [z1.out]; rfl) i1.out c1.out ?_; intro W2 hput; have B1 := hput.blk; have m1 := hput.lat w (hl.trans l1) (by omega))
  obtain ⟨u, v, rfl⟩ := G1.out
  have e0 := B1.cell 0
  have e1 := B1.cell 1
  have e2 := B1.cell 2
  have e3 := B1.cell 3
  have e4 := B1.cell 4
  have e5 := B1.cell 5
  have e6 := B1.cell 6
  have e7 := B1.cell 7
  have e8 := B1.cell 8
  have e9 := B1.cell 9
  have e10 := B1.cell 10
  have e11 := B1.cell 11
  have e12 := B1.cell 12
  have e13 := B1.cell 13
  have e14 := B1.cell 14
  have e15 := B1.cell 15
  clear hput K2 k1 k2
  refine bodyPost_ret (v := .tuple #[.agg #[.int .u64 u.a0, .int .u64 u.a1, .int .u64 u.a2, .int .u64 u.a3, .int .u64 u.a4, .int .u64 u.a5, .int .u64 u.a6, .int .u64 u.a7, .int .u64 v.a0, .int .u64 v.a1, .int .u64 v.a2, .int .u64 v.a3, .int .u64 v.a4, .int .u64 v.a5, .int .u64 v.a6, .int .u64 v.a7], .bool b]) (by simp [results, Tryz.results44, go_sem, e0, e1, e2, e3, e4, e5, e6, e7, e8, e9, e10, e11, e12, e13, e14, e15]) rfl ?_
  exact ⟨rfl, m1⟩

set_option maxRecDepth 100000 in
set_option maxHeartbeats 4000000 in
theorem fAdams (p s q t : Int) (X : Array Value) (b : Bool) (hX : GoodX X) (hp0 : -9223372036854775808 ≤ t * p ∧ t * p ≤ 9223372036854775807 ∧ -9223372036854775808 ≤ t ∧ t ≤ 9223372036854775807) (HG : ∀ w, Calls Tryz.prog 22 #[.int .i64 s, .int .i64 1, .int .i64 (t * p), .int .i64 q] w (ShB w X b)) (w : World) :
    Calls Tryz.prog 41 #[.agg (sideC p s q t)] w (ShB w X b) := by
  obtain ⟨u, v, rfl⟩ := hX.cells
  have HP0 : ∀ (w : World) (g : Nat), Blk w g 3 #[.int .i64 t, .int .i64 p] → Calls Tryz.prog 23 #[.slice (some ⟨g, 0, none⟩) 2 2] w (fun e w' => e = .returned (.int .i64 (t * p)) ∧ w = w') := fun w g hk => fProduct_any t p g 2 _ w hk hp0.2.2.1 hp0.2.2.2 hp0.1 hp0.2.1
  clear hX hp0
  unfold sideC
  go_enter Tryz.func41, Tryz.ntmps41
  go_wp2
  refine name2 (Q := fun W => Code.wp _ _ _ _ W) ?_
  intro W hl hs k1 k2
  have hne : w.heap.size ∉ [w.heap.size + 1] := by simp
  have a0 := k1.evS hne 0 rfl
  have a1 := k1.evS hne 1 rfl
  have a2 := k1.evS hne 2 rfl
  have a3 := k1.evS hne 3 rfl
  have L0 := Lat.drew W
  have M0 := L0.s [w.heap.size + 1]
  have M00 := (Lat.refl W).s [w.heap.size + 1]
  go_region_held3 (fun w' => LatS W [w.heap.size + 1] w') (first | (with_reducible assumption) | (repeat (first | (with_reducible assumption) | (with_reducible refine LatS.drew ?_) | (with_reducible refine LatS.alloc ?_ _) | (refine LatS.set ?_ (by simp) _))))
    (first
      | (have _h := HP0; go_at_call 23; (with_reducible refine (HP0 _ _ ?_).mono ?_); (first | (with_reducible exact Blk.newD _ _ _) | (with_reducible exact Blk.newE _ _ _ _) | (with_reducible exact Blk.newF _ _ _ _) | exact Blk.newD _ _ _ | exact Blk.newE _ _ _ _); rintro e w0' ⟨rfl, rfl⟩; clear HP0 _h)
      | (have _h := HG; go_at_call 22; (with_reducible refine (HG _).mono ?_); rintro e w2 ⟨rfl, l2⟩; have L2 : Lat W w2 := Lat.trans (by repeat (first | (with_reducible assumption) | (with_reducible exact Lat.refl _) | (with_reducible refine Lat.trans ?_ (Lat.drew _)) | (with_reducible refine Lat.trans ?_ (Lat.alloc _ _)))) l2; have M2 := L2.s [w.heap.size + 1]; have K2 := k2.later L2
         have c0 := K2.cell 0
         have c1 := K2.cell 1
         have c2 := K2.cell 2
         have c3 := K2.cell 3
         have c4 := K2.cell 4
         have c5 := K2.cell 5
         have c6 := K2.cell 6
         have c7 := K2.cell 7
         have c8 := K2.cell 8
         have c9 := K2.cell 9
         have c10 := K2.cell 10
         have c11 := K2.cell 11
         have c12 := K2.cell 12
         have c13 := K2.cell 13
         have c14 := K2.cell 14
         have c15 := K2.cell 15
         have f0 := K2.frozen 0
         have f1 := K2.frozen 1
         have f2 := K2.frozen 2
         have f3 := K2.frozen 3
         have f4 := K2.frozen 4
         have f5 := K2.frozen 5
         have f6 := K2.frozen 6
         have f7 := K2.frozen 7
         have f8 := K2.frozen 8
         have f9 := K2.frozen 9
         have f10 := K2.frozen 10
         have f11 := K2.frozen 11
         have f12 := K2.frozen 12
         have f13 := K2.frozen 13
         have f14 := K2.frozen 14
         have f15 := K2.frozen 15
         clear HG _h))
  all_goals
    go_wp2
    refine bodyPost_ret (v := .tuple #[.agg #[.int .u64 u.a0, .int .u64 u.a1, .int .u64 u.a2, .int .u64 u.a3, .int .u64 u.a4, .int .u64 u.a5, .int .u64 u.a6, .int .u64 u.a7, .int .u64 v.a0, .int .u64 v.a1, .int .u64 v.a2, .int .u64 v.a3, .int .u64 v.a4, .int .u64 v.a5, .int .u64 v.a6, .int .u64 v.a7], .bool b]) (by simp [results, Tryz.results41, go_sem, c0, c1, c2, c3, c4, c5, c6, c7, c8, c9, c10, c11, c12, c13, c14, c15]) rfl ?_
    refine ⟨rfl, ?_⟩
    iterate 16 (refine Lat.setCell ?_ (by simp; try omega) _)
    exact hl.trans L2

set_option maxRecDepth 100000 in
set_option maxHeartbeats 4000000 in
theorem fJefferson (p s q t : Int) (X : Array Value) (b : Bool) (hX : GoodX X) (hp0 : -9223372036854775808 ≤ s * q ∧ s * q ≤ 9223372036854775807 ∧ -9223372036854775808 ≤ s ∧ s ≤ 9223372036854775807) (HG : ∀ w, Calls Tryz.prog 22 #[.int .i64 (s * q), .int .i64 p, .int .i64 t, .int .i64 1] w (ShB w X b)) (w : World) :
    Calls Tryz.prog 45 #[.agg (sideC p s q t)] w (ShB w X b) := by
  obtain ⟨u, v, rfl⟩ := hX.cells
  have HP0 : ∀ (w : World) (g : Nat), Blk w g 3 #[.int .i64 s, .int .i64 q] → Calls Tryz.prog 23 #[.slice (some ⟨g, 0, none⟩) 2 2] w (fun e w' => e = .returned (.int .i64 (s * q)) ∧ w = w') := fun w g hk => fProduct_any s q g 2 _ w hk hp0.2.2.1 hp0.2.2.2 hp0.1 hp0.2.1
  clear hX hp0
  unfold sideC
  go_enter Tryz.func45, Tryz.ntmps45
  go_wp2
  refine name2 (Q := fun W => Code.wp _ _ _ _ W) ?_
  intro W hl hs k1 k2
  have hne : w.heap.size ∉ [w.heap.size + 1] := by simp
  have a0 := k1.evS hne 0 rfl
  have a1 := k1.evS hne 1 rfl
  have a2 := k1.evS hne 2 rfl
  have a3 := k1.evS hne 3 rfl
  have L0 := Lat.drew W
  have M0 := L0.s [w.heap.size + 1]
  have M00 := (Lat.refl W).s [w.heap.size + 1]
  go_region_held3 (fun w' => LatS W [w.heap.size + 1] w') (first | (with_reducible assumption) | (repeat (first | (with_reducible assumption) | (with_reducible refine LatS.drew ?_) | (with_reducible refine LatS.alloc ?_ _) | (refine LatS.set ?_ (by simp) _))))
    (first
      | (have _h := HP0; go_at_call 23; (with_reducible refine (HP0 _ _ ?_).mono ?_); (first | (with_reducible exact Blk.newD _ _ _) | (with_reducible exact Blk.newE _ _ _ _) | (with_reducible exact Blk.newF _ _ _ _) | exact Blk.newD _ _ _ | exact Blk.newE _ _ _ _); rintro e w0' ⟨rfl, rfl⟩; clear HP0 _h)
      | (have _h := HG; go_at_call 22; (with_reducible refine (HG _).mono ?_); rintro e w2 ⟨rfl, l2⟩; have L2 : Lat W w2 := Lat.trans (by repeat (first | (with_reducible assumption) | (with_reducible exact Lat.refl _) | (with_reducible refine Lat.trans ?_ (Lat.drew _)) | (with_reducible refine Lat.trans ?_ (Lat.alloc _ _)))) l2; have M2 := L2.s [w.heap.size + 1]; have K2 := k2.later L2
         have c0 := K2.cell 0
         have c1 := K2.cell 1
         have c2 := K2.cell 2
         have c3 := K2.cell 3
         have c4 := K2.cell 4
         have c5 := K2.cell 5
         have c6 := K2.cell 6
         have c7 := K2.cell 7
         have c8 := K2.cell 8
         have c9 := K2.cell 9
         have c10 := K2.cell 10
         have c11 := K2.cell 11
         have c12 := K2.cell 12
         have c13 := K2.cell 13
         have c14 := K2.cell 14
         have c15 := K2.cell 15
         have f0 := K2.frozen 0
         have f1 := K2.frozen 1
         have f2 := K2.frozen 2
         have f3 := K2.frozen 3
         have f4 := K2.frozen 4
         have f5 := K2.frozen 5
         have f6 := K2.frozen 6
         have f7 := K2.frozen 7
         have f8 := K2.frozen 8
         have f9 := K2.frozen 9
         have f10 := K2.frozen 10
         have f11 := K2.frozen 11
         have f12 := K2.frozen 12
         have f13 := K2.frozen 13
         have f14 := K2.frozen 14
         have f15 := K2.frozen 15
         clear HG _h))
  all_goals
    go_wp2
    refine bodyPost_ret (v := .tuple #[.agg #[.int .u64 u.a0, .int .u64 u.a1, .int .u64 u.a2, .int .u64 u.a3, .int .u64 u.a4, .int .u64 u.a5, .int .u64 u.a6, .int .u64 u.a7, .int .u64 v.a0, .int .u64 v.a1, .int .u64 v.a2, .int .u64 v.a3, .int .u64 v.a4, .int .u64 v.a5, .int .u64 v.a6, .int .u64 v.a7], .bool b]) (by simp [results, Tryz.results45, go_sem, c0, c1, c2, c3, c4, c5, c6, c7, c8, c9, c10, c11, c12, c13, c14, c15]) rfl ?_
    refine ⟨rfl, ?_⟩
    iterate 16 (refine Lat.setCell ?_ (by simp; try omega) _)
    exact hl.trans L2
end Go.Proofs.YtkjnjooggicgiaaGreat
