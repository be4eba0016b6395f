
/- Chance: the state that leads to a number. -/
import Derived.Test.YtogkkhaepfablaaK03
namespace Go.Proofs.Ytogkkhaepfablaa
open Go.RowKit
set_option linter.unusedSimpArgs false

structure BfF (x z1 z2 z4 z5 z7 z8 : Nat) : Prop where
  a1 : ∃ y : Int, bits .xor .u64 ((x : Int) / 2147483648) ((x : Int) / 4611686018427387904) = y ∧ bits .xor .u64 (x : Int) y = (z1 : Int)
  a2 : IntKind.u64.wrap ((z1 : Int) * 3573116690164977347) = (z2 : Int)
  a3 : ∃ y : Int, bits .xor .u64 ((z2 : Int) / 134217728) ((z2 : Int) / 18014398509481984) = y ∧ bits .xor .u64 (z2 : Int) y = (z4 : Int)
  a4 : IntKind.u64.wrap ((z4 : Int) * 10871156337175269513) = (z5 : Int)
  a5 : ∃ y : Int, bits .xor .u64 ((z5 : Int) / 1073741824) ((z5 : Int) / 1152921504606846976) = y ∧ bits .xor .u64 (z5 : Int) y = (z7 : Int)
  a6 : IntKind.u64.wrap ((z7 : Int) - 11400714819323198485) = (z8 : Int)
theorem xfact {k z : Nat} (hz : z < 18446744073709551616) (a b : Nat) (ha : a = 2 ^ k) (hb : b = 2 ^ (2 * k)) : ∃ y : Int, bits .xor .u64 ((z : Int) / (a : Int)) ((z : Int) / (b : Int)) = y ∧ bits .xor .u64 (z : Int) y = (bfX k z : Int) := by
  have h1 : z / a < 18446744073709551616 := Nat.lt_of_le_of_lt (Nat.div_le_self _ _) hz
  have h2 : z / b < 18446744073709551616 := Nat.lt_of_le_of_lt (Nat.div_le_self _ _) hz
  refine ⟨_, rfl, ?_⟩
  rw [← Int.natCast_ediv, ← Int.natCast_ediv, bits_xor_u64_nat _ _ h1 h2, bits_xor_u64_nat _ _ hz (Nat.xor_lt_two_pow (n := 64) h1 h2)]
  unfold bfX
  rw [Nat.shiftRight_eq_div_pow, Nat.shiftRight_eq_div_pow, ha, hb]
theorem bfF (x : Nat) (hx : x < 18446744073709551616) : BfF x (bfX 31 x) (bf1 x) (bfX 27 (bf1 x)) (bf2 (bf1 x)) (bf3 (bf2 (bf1 x))) (chBefore x) := by
  have h1 : bf1 x < 18446744073709551616 := Nat.mod_lt _ (by decide)
  have h2 : bf2 (bf1 x) < 18446744073709551616 := Nat.mod_lt _ (by decide)
  have h3 : bf3 (bf2 (bf1 x)) < 18446744073709551616 := bfX_lt h2
  refine ⟨xfact hx 2147483648 4611686018427387904 (by decide) (by decide), ?_, xfact h1 134217728 18014398509481984 (by decide) (by decide), ?_, xfact h2 1073741824 1152921504606846976 (by decide) (by decide), ?_⟩
  · rw [IntKind.wrap_u64]; unfold bf1; omega
  · rw [IntKind.wrap_u64]
    have : bf2 (bf1 x) = bfX 27 (bf1 x) * 10871156337175269513 % 18446744073709551616 := rfl
    omega
  · rw [IntKind.wrap_u64]
    have : chBefore x = (bf3 (bf2 (bf1 x)) + (18446744073709551616 - 11400714819323198485)) % 18446744073709551616 := rfl
    omega

set_option maxRecDepth 100000 in
set_option maxHeartbeats 1000000 in
theorem before_in (x z1 z2 z4 z5 z7 z8 : Nat) (F : BfF x z1 z2 z4 z5 z7 z8) (w : World) :
    Calls Try.prog 12 #[.int .u64 (x : Nat)] w (fun e w' => e = .returned (.agg #[.int .u64 (z8 : Nat)]) ∧ Lat w w') := by
  obtain ⟨⟨y1, a1, b1⟩, a2, ⟨y3, a3, b3⟩, a4, ⟨y5, a5, b5⟩, a6⟩ := F
  go_enter Try.func12, Try.ntmps12
  go_wp2
  refine name1 (Q := fun W => bodyPost _ _ _ _ _ W) ?_
  intro W hl hs k1
  have c0 : W.cell? ⟨w.heap.size, 0, none⟩ = some (.int .u64 (z8 : Int)) := k1.cell 0
  refine bodyPost_ret (v := .agg #[.int .u64 (z8 : Int)]) (by simp [results, Try.results12, go_sem, c0]) rfl ?_
  exact ⟨rfl, hl⟩
theorem before_any (x : Nat) (hx : x < 18446744073709551616) (w : World) :
    Calls Try.prog 12 #[.int .u64 (x : Nat)] w (fun e w' => e = .returned (.agg #[.int .u64 (chBefore x : Nat)]) ∧ Lat w w') := before_in x _ _ _ _ _ _ (bfF x hx) w
end Go.Proofs.Ytogkkhaepfablaa
