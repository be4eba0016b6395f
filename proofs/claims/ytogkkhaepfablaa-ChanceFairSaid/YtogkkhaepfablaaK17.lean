/- Several texts in one: CfA, CfB, CfC, CfD. -/
import Derived.Test.YtogkkhaepfablaaChC
import Derived.Test.YtogkkhaepfablaaCwA
import Derived.Test.YtogkkhaepfablaaChG
import Derived.Test.YtogkkhaepfablaaCwD
import Derived.Test.YtogkkhaepfablaaK16

/- Chance: the state that leads to a number. -/
namespace Go.Proofs.Ytogkkhaepfablaa
open Go.RowKit
set_option linter.unusedSimpArgs false

structure BfF (x z1 z2 z4 z5 z7 z8 : Nat) : Prop where
  a1 : ∃ y : Int, bits .xor .u64 ((x : Int) / 2147483648) ((x : Int) / 4611686018427387904) = y ∧ bits .xor .u64 (x : Int) y = (z1 : Int)
  a2 : IntKind.u64.wrap ((z1 : Int) * 3573116690164977347) = (z2 : Int)
  a3 : ∃ y : Int, bits .xor .u64 ((z2 : Int) / 134217728) ((z2 : Int) / 18014398509481984) = y ∧ bits .xor .u64 (z2 : Int) y = (z4 : Int)
  a4 : IntKind.u64.wrap ((z4 : Int) * 10871156337175269513) = (z5 : Int)
  a5 : ∃ y : Int, bits .xor .u64 ((z5 : Int) / 1073741824) ((z5 : Int) / 1152921504606846976) = y ∧ bits .xor .u64 (z5 : Int) y = (z7 : Int)
  a6 : IntKind.u64.wrap ((z7 : Int) - 11400714819323198485) = (z8 : Int)
theorem xfact {k z : Nat} (hz : z < 18446744073709551616) (a b : Nat) (ha : a = 2 ^ k) (hb : b = 2 ^ (2 * k)) : ∃ y : Int, bits .xor .u64 ((z : Int) / (a : Int)) ((z : Int) / (b : Int)) = y ∧ bits .xor .u64 (z : Int) y = (bfX k z : Int) := by
  have h1 : z / a < 18446744073709551616 := Nat.lt_of_le_of_lt (Nat.div_le_self _ _) hz
  have h2 : z / b < 18446744073709551616 := Nat.lt_of_le_of_lt (Nat.div_le_self _ _) hz
  refine ⟨_, rfl, ?_⟩
  rw [← Int.natCast_ediv, ← Int.natCast_ediv, bits_xor_u64_nat _ _ h1 h2, bits_xor_u64_nat _ _ hz (Nat.xor_lt_two_pow (n := 64) h1 h2)]
  unfold bfX
  rw [Nat.shiftRight_eq_div_pow, Nat.shiftRight_eq_div_pow, ha, hb]
theorem bfF (x : Nat) (hx : x < 18446744073709551616) : BfF x (bfX 31 x) (bf1 x) (bfX 27 (bf1 x)) (bf2 (bf1 x)) (bf3 (bf2 (bf1 x))) (chBefore x) := by
  have h1 : bf1 x < 18446744073709551616 := Nat.mod_lt _ (by decide)
  have h2 : bf2 (bf1 x) < 18446744073709551616 := Nat.mod_lt _ (by decide)
  have h3 : bf3 (bf2 (bf1 x)) < 18446744073709551616 := bfX_lt h2
  refine ⟨xfact hx 2147483648 4611686018427387904 (by decide) (by decide), ?_, xfact h1 134217728 18014398509481984 (by decide) (by decide), ?_, xfact h2 1073741824 1152921504606846976 (by decide) (by decide), ?_⟩
  · rw [IntKind.wrap_u64]; unfold bf1; omega
  · rw [IntKind.wrap_u64]
    have : bf2 (bf1 x) = bfX 27 (bf1 x) * 10871156337175269513 % 18446744073709551616 := rfl
    omega
  · rw [IntKind.wrap_u64]
    have : chBefore x = (bf3 (bf2 (bf1 x)) + (18446744073709551616 - 11400714819323198485)) % 18446744073709551616 := rfl
    omega

set_option maxRecDepth 100000 in
set_option maxHeartbeats 1000000 in
theorem before_in (x z1 z2 z4 z5 z7 z8 : Nat) (F : BfF x z1 z2 z4 z5 z7 z8) (w : World) :
    Calls Try.prog 12 #[.int .u64 (x : Nat)] w (fun e w' => e = .returned (.agg #[.int .u64 (z8 : Nat)]) ∧ Lat w w') := by
  obtain ⟨⟨y1, a1, b1⟩, a2, ⟨y3, a3, b3⟩, a4, ⟨y5, a5, b5⟩, a6⟩ := F
  go_enter Try.func12, Try.ntmps12
  go_wp2
  refine name1 (Q := fun W => bodyPost _ _ _ _ _ W) ?_
  intro W hl hs k1
  have c0 : W.cell? ⟨w.heap.size, 0, none⟩ = some (.int .u64 (z8 : Int)) := k1.cell 0
  refine bodyPost_ret (v := .agg #[.int .u64 (z8 : Int)]) (by simp [results, Try.results12, go_sem, c0]) rfl ?_
  exact ⟨rfl, hl⟩
theorem before_any (x : Nat) (hx : x < 18446744073709551616) (w : World) :
    Calls Try.prog 12 #[.int .u64 (x : Nat)] w (fun e w' => e = .returned (.agg #[.int .u64 (chBefore x : Nat)]) ∧ Lat w w') := before_in x _ _ _ _ _ _ (bfF x hx) w
end Go.Proofs.Ytogkkhaepfablaa

/- Chance: the law of the even numbers, walked. -/
namespace Go.Proofs.Ytogkkhaepfablaa
open Go.RowKit Go.Shelf
set_option linter.unusedSimpArgs false

/-- The number below which is drawn. -/
structure FairN (ni : Int) (a r m : Nat) : Prop where
  wa : IntKind.u64.wrap ni = (a : Int)
  wr : (a : Int) % 4611686018427387904 = (r : Int)
  w1 : IntKind.i64.wrap (r : Int) = (r : Int)
  w2 : wrap64 (1 + (r : Int)) = (m : Int)
  w3 : IntKind.u64.wrap (m : Int) = (m : Int)
  w4 : 1 + (r : Int) = (m : Int)
theorem fairN (ni : Int) (a r m : Nat) (ha : IntKind.u64.wrap ni = (a : Int)) (hr : a % 4611686018427387904 = r) (hm : m = 1 + r) : FairN ni a r m := by
  have h1 : r < 4611686018427387904 := by omega
  refine ⟨ha, by omega, ?_, ?_, ?_, by omega⟩
  · rw [IntWalk.i64_left]; exact IntWalk.wrap64_in _ (by omega)
  · rw [IntWalk.wrap64_in _ (by omega)]; omega
  · rw [IntKind.wrap_u64]; omega

set_option maxRecDepth 100000 in
set_option maxHeartbeats 4000000 in
theorem fair_take (x c0 c1 : Nat) (a r m mm rest q lim : Nat) (ni : Int) (FN : FairN ni a r m) (N : BelN m mm rest q lim)
    (HWK : ∀ w, Calls Try.prog 8 #[] w (fun e w' => e = .returned (.bool true) ∧ Lat w w')) (HBF : ∀ w, Calls Try.prog 12 #[.int .u64 (x : Nat)] w (fun e w' => e = .returned (.agg #[.int .u64 (c0 : Nat)]) ∧ Lat w w'))
    (HNX : NxC c0 x c1) (v1 e1 : Int) (t1 : Nat) (HB1 : ∀ w, Calls Try.prog 14 #[.agg #[.int .u64 (c0 : Nat)], .int .i64 m] w (fun e w' => e = .returned (.tuple #[.int .i64 v1, .agg #[.int .u64 (t1 : Nat)], .int .i64 e1]) ∧ Lat w w'))
    (hx : (x : Int) ≤ (lim : Int)) (hv : v1 = (x : Int) % (m : Int)) (he : e1 = 0) (ht : t1 = c1) (hE0 : ∀ w, (binOp .eql 24 (.agg #[.int .u64 (c1 : Nat)]) (.agg #[.int .u64 (c1 : Nat)])).run Try.prog w = .ok (.bool true) w) (hxm : IntKind.i64.wrap ((x : Int) % (m : Int)) = (x : Int) % (m : Int)) (w : World) :
    Calls Try.prog 4 #[.int .u64 (x : Nat), .int .i64 ni] w (fun e w' => e = .returned (.bool true) ∧ Lat w w') := by
  subst he
  subst ht
  have hE := Lib.hid hE0
  clear hE0
  obtain ⟨xm, hxe⟩ : ∃ z, (x : Int) % (m : Int) = z := ⟨_, rfl⟩
  rw [hxe] at hxm hv
  subst hv
  obtain ⟨HA, HR, w1, w2, w3, w4⟩ := FN
  have W4H := Lib.hid w4
  clear w4 w2
  obtain ⟨f0, f1, f2, f3, f4⟩ := N
  have HB1H := Lib.hid HB1
  clear HB1
  go_enter Try.func4, Try.ntmps4
  go_wp2_with fail
  refine (HWK w).mono ?_
  rintro e W1 ⟨rfl, L1⟩
  clear HWK
  go_upto_region 4 with (fail)
  rw [W4H.out]
  clear W4H
  go_wp2_with fail
  refine (HBF W1).mono ?_
  rintro e W2 ⟨rfl, l2⟩
  have L2 := L1.trans l2
  clear l2 HBF L1
  go_upto_region 5 with (fail)
  refine name1 (Q := fun W => Code.wp _ _ _ _ W) ?_
  intro W3 l3 hs3 k5
  have L3 := L2.trans l3
  clear l3 L2
  obtain ⟨g5, hg5⟩ : ∃ z, W2.heap.size = z := ⟨_, rfl⟩
  rw [hg5] at k5 hs3 ⊢
  clear hg5
  have c5 : W3.cell? ⟨g5, 0, none⟩ = some (.int .u64 (c0 : Int)) := k5.cell 0
  go_wp2_with fail
  refine (HNX W3).mono ?_
  rintro e W4 ⟨rfl, l4⟩
  replace k5 := k5.later l4
  have L4 := L3.trans l4
  clear l4 L3 c5 HNX
  go_upto_region 6 with (fail)
  refine name1 (Q := fun W => Code.wp _ _ _ _ W) ?_
  intro W5 l5 hs5 k7
  replace k5 := k5.later l5
  have L5 := L4.trans l5
  clear l5 L4
  obtain ⟨g7, hg7⟩ : ∃ z, W4.heap.size = z := ⟨_, rfl⟩
  rw [hg7] at k7 hs5 ⊢
  clear hg7 hs3
  have c5 : W5.cell? ⟨g5, 0, none⟩ = some (.int .u64 (c0 : Int)) := k5.cell 0
  have HB1 := HB1H.out
  go_wp2_with fail
  refine (HB1 W5).mono ?_
  rintro e W6 ⟨rfl, l6⟩
  replace k7 := k7.later l6
  have L6 := L5.trans l6
  clear l6 L5 c5 HB1 HB1H k5
  go_upto_region 10 with (fail)
  refine name1 (Q := fun W => Code.wp _ _ _ _ W) ?_
  intro W7 l7 hs7 k10
  replace k7 := k7.later l7
  have L7 := L6.trans l7
  clear l7 L6
  obtain ⟨g10, hg10⟩ : ∃ z, W6.heap.size = z := ⟨_, rfl⟩
  rw [hg10] at k10 hs7 ⊢
  clear hg10 hs5
  have a7 : W7.cell? ⟨g7, 0, none⟩ = some (.int .u64 (t1 : Int)) := k7.cell 0
  have a10 : W7.cell? ⟨g10, 0, none⟩ = some (.int .u64 (t1 : Int)) := k10.cell 0
  go_wp2
  go_ret
  exact ⟨rfl, L7⟩

set_option maxRecDepth 100000 in
set_option maxHeartbeats 4000000 in
theorem fair_same (x c0 c1 : Nat) (a r m mm rest q lim : Nat) (ni : Int) (FN : FairN ni a r m) (N : BelN m mm rest q lim)
    (HWK : ∀ w, Calls Try.prog 8 #[] w (fun e w' => e = .returned (.bool true) ∧ Lat w w')) (HBF : ∀ w, Calls Try.prog 12 #[.int .u64 (x : Nat)] w (fun e w' => e = .returned (.agg #[.int .u64 (c0 : Nat)]) ∧ Lat w w'))
    (HNX : NxC c0 x c1) (v1 e1 : Int) (t1 : Nat) (HB1 : ∀ w, Calls Try.prog 14 #[.agg #[.int .u64 (c0 : Nat)], .int .i64 m] w (fun e w' => e = .returned (.tuple #[.int .i64 v1, .agg #[.int .u64 (t1 : Nat)], .int .i64 e1]) ∧ Lat w w'))
    (hx : ¬ (x : Int) ≤ (lim : Int)) (HB2 : ∀ w, Calls Try.prog 14 #[.agg #[.int .u64 (c1 : Nat)], .int .i64 m] w (fun e w' => e = .returned (.tuple #[.int .i64 v1, .agg #[.int .u64 (t1 : Nat)], .int .i64 e1]) ∧ Lat w w')) (w : World) :
    Calls Try.prog 4 #[.int .u64 (x : Nat), .int .i64 ni] w (fun e w' => e = .returned (.bool true) ∧ Lat w w') := by
  have HB2H := Lib.hid HB2
  clear HB2
  obtain ⟨HA, HR, w1, w2, w3, w4⟩ := FN
  have W4H := Lib.hid w4
  clear w4 w2
  obtain ⟨f0, f1, f2, f3, f4⟩ := N
  have HB1H := Lib.hid HB1
  clear HB1
  go_enter Try.func4, Try.ntmps4
  go_wp2_with fail
  refine (HWK w).mono ?_
  rintro e W1 ⟨rfl, L1⟩
  clear HWK
  go_upto_region 4 with (fail)
  rw [W4H.out]
  clear W4H
  go_wp2_with fail
  refine (HBF W1).mono ?_
  rintro e W2 ⟨rfl, l2⟩
  have L2 := L1.trans l2
  clear l2 HBF L1
  go_upto_region 5 with (fail)
  refine name1 (Q := fun W => Code.wp _ _ _ _ W) ?_
  intro W3 l3 hs3 k5
  have L3 := L2.trans l3
  clear l3 L2
  obtain ⟨g5, hg5⟩ : ∃ z, W2.heap.size = z := ⟨_, rfl⟩
  rw [hg5] at k5 hs3 ⊢
  clear hg5
  have c5 : W3.cell? ⟨g5, 0, none⟩ = some (.int .u64 (c0 : Int)) := k5.cell 0
  go_wp2_with fail
  refine (HNX W3).mono ?_
  rintro e W4 ⟨rfl, l4⟩
  replace k5 := k5.later l4
  have L4 := L3.trans l4
  clear l4 L3 c5 HNX
  go_upto_region 6 with (fail)
  refine name1 (Q := fun W => Code.wp _ _ _ _ W) ?_
  intro W5 l5 hs5 k7
  replace k5 := k5.later l5
  have L5 := L4.trans l5
  clear l5 L4
  obtain ⟨g7, hg7⟩ : ∃ z, W4.heap.size = z := ⟨_, rfl⟩
  rw [hg7] at k7 hs5 ⊢
  clear hg7 hs3
  have c5 : W5.cell? ⟨g5, 0, none⟩ = some (.int .u64 (c0 : Int)) := k5.cell 0
  have HB1 := HB1H.out
  go_wp2_with fail
  refine (HB1 W5).mono ?_
  rintro e W6 ⟨rfl, l6⟩
  replace k7 := k7.later l6
  have L6 := L5.trans l6
  clear l6 L5 c5 HB1 HB1H k5
  go_upto_region 10 with (fail)
  refine name1 (Q := fun W => Code.wp _ _ _ _ W) ?_
  intro W7 l7 hs7 k10
  replace k7 := k7.later l7
  have L7 := L6.trans l7
  clear l7 L6
  obtain ⟨g10, hg10⟩ : ∃ z, W6.heap.size = z := ⟨_, rfl⟩
  rw [hg10] at k10 hs7 ⊢
  clear hg10 hs5
  have c7 : W7.cell? ⟨g7, 0, none⟩ = some (.int .u64 (c1 : Int)) := k7.cell 0
  have HB2 := HB2H.out
  go_wp2_with fail
  refine (HB2 W7).mono ?_
  rintro e W8 ⟨rfl, l8⟩
  replace k10 := k10.later l8
  have L8 := L7.trans l8
  clear l8 L7 c7 HB2 HB2H k7
  go_upto_region 13 with (fail)
  refine name1 (Q := fun W => Code.wp _ _ _ _ W) ?_
  intro W9 l9 hs9 k13
  replace k10 := k10.later l9
  have L9 := L8.trans l9
  clear l9 L8
  obtain ⟨g13, hg13⟩ : ∃ z, W8.heap.size = z := ⟨_, rfl⟩
  rw [hg13] at k13 hs9 ⊢
  clear hg13
  have a10 : W9.cell? ⟨g10, 0, none⟩ = some (.int .u64 (t1 : Int)) := k10.cell 0
  have a13 : W9.cell? ⟨g13, 0, none⟩ = some (.int .u64 (t1 : Int)) := k13.cell 0
  go_wp2
  go_ret
  exact ⟨rfl, L9⟩

set_option maxRecDepth 100000 in
set_option maxHeartbeats 4000000 in
theorem fair_fail (x c0 c1 : Nat) (a r m mm rest q lim : Nat) (ni : Int) (FN : FairN ni a r m) (N : BelN m mm rest q lim)
    (HWK : ∀ w, Calls Try.prog 8 #[] w (fun e w' => e = .returned (.bool true) ∧ Lat w w')) (HBF : ∀ w, Calls Try.prog 12 #[.int .u64 (x : Nat)] w (fun e w' => e = .returned (.agg #[.int .u64 (c0 : Nat)]) ∧ Lat w w'))
    (HNX : NxC c0 x c1) (v1 e1 : Int) (t1 : Nat) (HB1 : ∀ w, Calls Try.prog 14 #[.agg #[.int .u64 (c0 : Nat)], .int .i64 m] w (fun e w' => e = .returned (.tuple #[.int .i64 v1, .agg #[.int .u64 (t1 : Nat)], .int .i64 e1]) ∧ Lat w w'))
    (hx : ¬ (x : Int) ≤ (lim : Int)) (he : e1 = 9) (v2 : Int) (t2 : Nat) (HB2 : ∀ w, Calls Try.prog 14 #[.agg #[.int .u64 (c1 : Nat)], .int .i64 m] w (fun e w' => e = .returned (.tuple #[.int .i64 v2, .agg #[.int .u64 (t2 : Nat)], .int .i64 0]) ∧ Lat w w')) (w : World) :
    Calls Try.prog 4 #[.int .u64 (x : Nat), .int .i64 ni] w (fun e w' => e = .returned (.bool true) ∧ Lat w w') := by
  subst he
  have HB2H := Lib.hid HB2
  clear HB2
  obtain ⟨HA, HR, w1, w2, w3, w4⟩ := FN
  have W4H := Lib.hid w4
  clear w4 w2
  obtain ⟨f0, f1, f2, f3, f4⟩ := N
  have HB1H := Lib.hid HB1
  clear HB1
  go_enter Try.func4, Try.ntmps4
  go_wp2_with fail
  refine (HWK w).mono ?_
  rintro e W1 ⟨rfl, L1⟩
  clear HWK
  go_upto_region 4 with (fail)
  rw [W4H.out]
  clear W4H
  go_wp2_with fail
  refine (HBF W1).mono ?_
  rintro e W2 ⟨rfl, l2⟩
  have L2 := L1.trans l2
  clear l2 HBF L1
  go_upto_region 5 with (fail)
  refine name1 (Q := fun W => Code.wp _ _ _ _ W) ?_
  intro W3 l3 hs3 k5
  have L3 := L2.trans l3
  clear l3 L2
  obtain ⟨g5, hg5⟩ : ∃ z, W2.heap.size = z := ⟨_, rfl⟩
  rw [hg5] at k5 hs3 ⊢
  clear hg5
  have c5 : W3.cell? ⟨g5, 0, none⟩ = some (.int .u64 (c0 : Int)) := k5.cell 0
  go_wp2_with fail
  refine (HNX W3).mono ?_
  rintro e W4 ⟨rfl, l4⟩
  replace k5 := k5.later l4
  have L4 := L3.trans l4
  clear l4 L3 c5 HNX
  go_upto_region 6 with (fail)
  refine name1 (Q := fun W => Code.wp _ _ _ _ W) ?_
  intro W5 l5 hs5 k7
  replace k5 := k5.later l5
  have L5 := L4.trans l5
  clear l5 L4
  obtain ⟨g7, hg7⟩ : ∃ z, W4.heap.size = z := ⟨_, rfl⟩
  rw [hg7] at k7 hs5 ⊢
  clear hg7 hs3
  have c5 : W5.cell? ⟨g5, 0, none⟩ = some (.int .u64 (c0 : Int)) := k5.cell 0
  have HB1 := HB1H.out
  go_wp2_with fail
  refine (HB1 W5).mono ?_
  rintro e W6 ⟨rfl, l6⟩
  replace k7 := k7.later l6
  have L6 := L5.trans l6
  clear l6 L5 c5 HB1 HB1H k5
  go_upto_region 10 with (fail)
  refine name1 (Q := fun W => Code.wp _ _ _ _ W) ?_
  intro W7 l7 hs7 k10
  replace k7 := k7.later l7
  have L7 := L6.trans l7
  clear l7 L6
  obtain ⟨g10, hg10⟩ : ∃ z, W6.heap.size = z := ⟨_, rfl⟩
  rw [hg10] at k10 hs7 ⊢
  clear hg10 hs5
  have c7 : W7.cell? ⟨g7, 0, none⟩ = some (.int .u64 (c1 : Int)) := k7.cell 0
  have HB2 := HB2H.out
  go_wp2_with fail
  refine (HB2 W7).mono ?_
  rintro e W8 ⟨rfl, l8⟩
  replace k10 := k10.later l8
  have L8 := L7.trans l8
  clear l8 L7 c7 HB2 HB2H k7
  go_upto_region 13 with (fail)
  refine name1 (Q := fun W => Code.wp _ _ _ _ W) ?_
  intro W9 l9 hs9 k13
  replace k10 := k10.later l9
  have L9 := L8.trans l9
  clear l9 L8
  obtain ⟨g13, hg13⟩ : ∃ z, W8.heap.size = z := ⟨_, rfl⟩
  rw [hg13] at k13 hs9 ⊢
  clear hg13
  go_wp2
  go_ret
  exact ⟨rfl, L9⟩
end Go.Proofs.Ytogkkhaepfablaa

/- Chance: the law of the even numbers: for every number and every bound. -/
namespace Go.Proofs.Ytogkkhaepfablaa
open Go.RowKit
set_option linter.unusedSimpArgs false

theorem chTry_more {α : Type} {draw : Nat → α × Nat} {ok : α → Bool} : ∀ {f s : Nat} {p : α × Nat}, chTry draw ok f s = some p → chTry draw ok (f + 1) s = some p
  | 0, s, p, h => by rw [chTry] at h; exact absurd h (by simp)
  | f + 1, s, p, h => by
    rw [chTry] at h ⊢
    by_cases hk : ok (draw s).1 = true
    · rw [if_pos hk] at h ⊢; exact h
    · rw [if_neg hk] at h ⊢; exact chTry_more h
theorem try_next {s m x c : Nat} (h1 : chMix (chStep s) = x) (h2 : chStep s = c) (f : Nat) : chTry chNext (chOk m) (f + 1) s = if chOk m x = true then some (x, c) else chTry chNext (chOk m) f c := by
  have h : chNext s = (x, c) := by rw [chNext, h1, h2]
  rw [chTry, h]
theorem bel_split {s m x c : Nat} (h1 : chMix (chStep s) = x) (h2 : chStep s = c) : ∃ o, (∀ p, o = some p → chBel c m = some p) ∧ chBel s m = if chOk m x = true then some (x, c) else o :=
  ⟨chTry chNext (chOk m) 199 c, fun _ h => chTry_more h, try_next h1 h2 199⟩
theorem bel_at {s n : Nat} (hs : s < 18446744073709551616) (h1 : 1 ≤ n) (h2 : n < 9223372036854775808) {o : Option (Nat × Nat)} (ho : chBel s n = o) (w : World) :
    Calls Try.prog 14 #[.agg #[.int .u64 s], .int .i64 n] w (fun e w' => e = .returned (.tuple #[.int .i64 (optR n o), .agg #[.int .u64 (optT 0 o : Nat)], .int .i64 (optE o)]) ∧ Lat w w') := by
  have h := cBelow_any s hs (n : Int) (by omega) w
  rw [belV, belS, belE, if_neg (by omega), if_neg (by omega), if_neg (by omega), Int.toNat_natCast, ho] at h
  exact h
/-- A bound of the law, with the numbers of the call. -/
theorem fair_parts (ni : Int) : ∃ a r m mm rest q lim : Nat, FairN ni a r m ∧ BelN m mm rest q lim ∧ 1 ≤ m ∧ m < 9223372036854775808 ∧ mm + m = 18446744073709551616 ∧ mm % m = rest ∧ lim + rest = 18446744073709551615 := by
  obtain ⟨a, ha⟩ := Int.eq_ofNat_of_zero_le (show 0 ≤ IntKind.u64.wrap ni by rw [IntKind.wrap_u64]; omega)
  obtain ⟨r, hr⟩ : ∃ r, a % 4611686018427387904 = r := ⟨_, rfl⟩
  obtain ⟨m, hm⟩ : ∃ m, m = 1 + r := ⟨_, rfl⟩
  have hm1 : 1 ≤ m := by omega
  have hm2 : m < 9223372036854775808 := by omega
  have F := fairN ni a r m ha hr hm
  clear hm hr ha
  obtain ⟨mm, hmm⟩ : ∃ k, k + m = 18446744073709551616 := ⟨18446744073709551616 - m, by omega⟩
  obtain ⟨rest, hrest⟩ : ∃ z, mm % m = z := ⟨_, rfl⟩
  have hlt := Nat.mod_lt mm hm1
  rw [hrest] at hlt
  obtain ⟨lim, hl⟩ : ∃ lim, lim + rest = 18446744073709551615 := ⟨18446744073709551615 - rest, by omega⟩
  obtain ⟨q, hq⟩ := Int.eq_ofNat_of_zero_le (Int.emod_nonneg (-(rest : Int)) (show (18446744073709551616 : Int) ≠ 0 by decide))
  exact ⟨a, r, m, mm, rest, q, lim, F, belN hm1 hm2 hmm hrest hq.symm hl, hm1, hm2, hmm, hrest, hl⟩

theorem cFair_from (HWK : ∀ w, Calls Try.prog 8 #[] w (fun e w' => e = .returned (.bool true) ∧ Lat w w')) (x : Nat) (hx : x < 18446744073709551616) (ni : Int) (w : World) :
    Calls Try.prog 4 #[.int .u64 (x : Nat), .int .i64 ni] w (fun e w' => e = .returned (.bool true) ∧ Lat w w') := by
  obtain ⟨a, r, m, mm, rest, q, lim, FN, N, h1, h2, hmm, hrest, hl⟩ := fair_parts ni
  have HBF := fun w => before_any x hx w
  have e0 := chBefore_next hx
  have hc0 : chBefore x < 18446744073709551616 := Nat.mod_lt _ (by decide)
  obtain ⟨c0, hc⟩ : ∃ z, chBefore x = z := ⟨_, rfl⟩
  rw [hc] at HBF e0 hc0
  clear hc
  have HNX := nxC c0 hc0
  have hc1 := chStep_lt c0
  obtain ⟨c1, hd⟩ : ∃ z, chStep c0 = z := ⟨_, rfl⟩
  obtain ⟨o, ho, hb⟩ := bel_split (m := m) e0 hd
  rw [e0, hd] at HNX
  rw [hd] at hc1
  clear e0 hd
  have hO := chOk_eq hmm hrest x
  cases hk : chOk m x with
  | true =>
    rw [hk, if_pos rfl] at hb
    rw [hk] at hO
    have hO := of_decide_eq_true hO.symm
    have hxl : (x : Int) ≤ (lim : Int) := by clear hrest; omega
    refine fair_take x c0 c1 a r m mm rest q lim ni FN N HWK HBF HNX _ _ _ (fun w => bel_at hc0 h1 h2 hb w) hxl (by rw [optR]; exact Int.natCast_emod x m) (by rw [optE]) (by rw [optT]) (fun w => ?_) ?_ w
    · have h := chance_eql (s := (c1 : Int)) (t := (c1 : Int)) ⟨by omega, by unfold W64; omega⟩ ⟨by omega, by unfold W64; omega⟩ w
      rw [decide_eq_true rfl] at h
      exact h
    · rw [IntWalk.i64_left]
      have g1 := Int.emod_nonneg (x : Int) (show (m : Int) ≠ 0 by omega)
      have g2 := Int.emod_lt_of_pos (x : Int) (show (0 : Int) < (m : Int) by omega)
      exact IntWalk.wrap64_in _ (by omega)
  | false =>
    rw [hk, if_neg (by decide)] at hb
    rw [hk] at hO
    have hO := of_decide_eq_false hO.symm
    have hxl : ¬ (x : Int) ≤ (lim : Int) := by clear hrest; omega
    obtain ⟨o2, ho2⟩ : ∃ z, chBel c1 m = z := ⟨_, rfl⟩
    cases o with
    | some p =>
      exact fair_same x c0 c1 a r m mm rest q lim ni FN N HWK HBF HNX _ _ _ (fun w => bel_at hc0 h1 h2 hb w) hxl (fun w => bel_at hc1 h1 h2 (ho p rfl) w) w
    | none =>
      cases o2 with
      | none => exact fair_same x c0 c1 a r m mm rest q lim ni FN N HWK HBF HNX _ _ _ (fun w => bel_at hc0 h1 h2 hb w) hxl (fun w => bel_at hc1 h1 h2 ho2 w) w
      | some p => exact fair_fail x c0 c1 a r m mm rest q lim ni FN N HWK HBF HNX _ _ _ (fun w => bel_at hc0 h1 h2 hb w) hxl (by rw [optE]) _ _ (fun w => bel_at hc1 h1 h2 ho2 w) w
end Go.Proofs.Ytogkkhaepfablaa

/- Chance: the law of the even numbers, joined. -/
namespace Go.Proofs.Ytogkkhaepfablaa
open Go.RowKit

theorem wf_u64' {a : Int} (h : (Lit.int .u64 a).wf = true) : 0 ≤ a ∧ a < 18446744073709551616 := by
  have e1 : IntKind.u64.min = 0 := by decide
  have e2 : IntKind.u64.max = 18446744073709551615 := by decide
  simp [Lit.wf, e1, e2] at h
  omega
theorem cFair_any (x ni : Int) (w : World) (h0 : 0 ≤ x) (h1 : x < 18446744073709551616) :
    Calls Try.prog 4 #[.int .u64 x, .int .i64 ni] w (fun e w' => e = .returned (.bool true) ∧ Lat w w') := by
  obtain ⟨n, rfl⟩ := Int.eq_ofNat_of_zero_le h0
  exact cFair_from works_any n (by omega) ni w
end Go.Proofs.Ytogkkhaepfablaa
