/- Several texts in one: DwB, CvA. -/
import Derived.Test.YtogkkhaepfablaaK34
import Derived.Test.YtogkkhaepfablaaJ23
import Derived.Test.YtogkkhaepfablaaJ25
import Derived.Test.YtogkkhaepfablaaK04
import Derived.Test.YtogkkhaepfablaaK30

/- The reference's Make, and made: a share of two wide numbers. -/
namespace Go.Proofs.Ytogkkhaepfablaa
open Go.RowKit
set_option linter.unusedSimpArgs false
set_option linter.unusedVariables false

/-- A valid share whose parts lie in the range. -/
structure ShFit (N D : Int) : Prop where
  ok : ShOk N D
  n1 : -P511 ≤ N
  n2 : N < P511
  d2 : D < P511
end Go.Proofs.Ytogkkhaepfablaa

/- Chance: the law of wide numbers: in plain numbers; wide.Int. -/
namespace Go.Proofs.Ytogkkhaepfablaa
open Go.RowKit
set_option linter.unusedSimpArgs false

theorem chTry_some {α : Type} {draw : Nat → α × Nat} {ok : α → Bool} : ∀ {f s : Nat} {p : α × Nat}, chTry draw ok f s = some p → ok p.1 = true ∧ ∃ s', p = draw s'
  | 0, s, p, h => by rw [chTry] at h; cases h
  | f + 1, s, p, h => by
    rw [chTry] at h
    by_cases h2 : ok (draw s).1 = true
    · rw [if_pos h2] at h
      cases h
      exact ⟨h2, s, rfl⟩
    · rw [if_neg h2] at h
      exact chTry_some h
theorem chWid_in {s : Nat} {n : Int} (h1 : 1 ≤ n) {x : Int} {t : Nat} (h : chWid s n = some (x, t)) : 0 ≤ x ∧ x < n := by
  unfold chWid at h
  by_cases hb : blen (n - 1) = 0
  · rw [if_pos hb] at h
    cases h
    omega
  · rw [if_neg hb] at h
    obtain ⟨h2, s', h3⟩ := chTry_some h
    have h4 : x = chNum (blen (n - 1)) s' := congrArg Prod.fst h3
    have h5 := Int.emod_nonneg (val W64 (chWords ((blen (n - 1) + 63) / 64) s')) (Int.ne_of_gt (pow_pos2 (blen (n - 1))))
    have h6 : x < n := of_decide_eq_true h2
    unfold chNum at h4
    exact ⟨by rw [h4]; exact h5, h6⟩
/-- A wide number is below its limit, or there is the one error. -/
theorem wid_in {s : Nat} {n : Int} (h1 : 1 ≤ n) : widE s n = 9 ∨ (widE s n = 0 ∧ 0 ≤ widV s n ∧ widV s n < n) := by
  unfold widE widV
  rw [if_neg (by omega), if_neg (by omega)]
  cases h : chWid s n with
  | none => left; rfl
  | some p =>
    obtain ⟨x, t⟩ := p
    right
    exact ⟨rfl, chWid_in h1 h⟩
end Go.Proofs.Ytogkkhaepfablaa
