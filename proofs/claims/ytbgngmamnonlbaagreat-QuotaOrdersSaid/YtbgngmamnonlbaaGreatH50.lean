/- Several texts in one: Scl, SmP, SmS. -/
import Derived.Test.YtbgngmamnonlbaaGreatH49
import Derived.Test.YtbgngmamnonlbaaGreatH32
namespace Go.Proofs.YtbgngmamnonlbaaGreat
open Go.RowKit
set_option linter.unusedSimpArgs false
set_option linter.unusedVariables false
theorem atI_nonneg {L : List Int} (h : ∀ x ∈ L, 0 ≤ x) (i : Nat) : 0 ≤ atI L i := by
 unfold atI
 cases hq : L[i]? with
 | none => exact Int.le_refl _
 | some x => exact h x (List.mem_of_getElem? hq)
theorem giveQ_ok {k s : Int} {P M : List Int} {A : Aw} (hP : ∀ x ∈ P, 0 ≤ x) (hM : ∀ x ∈ M, 0 ≤ x) (hl : M.length = P.length) (hs : M.sum ≤ s) (h : giveQ k P M s = some A) : QuoOk (atI P) (atI M) (List.range P.length) (List.replicate P.length 0) s A := by
 refine quo_ok (atI_nonneg hM) _ _ _ _ _ (by simp) List.nodup_range (fun i hi => ?_) (fun i _ => atI_nonneg hP i) ?_ h
 ·rw [List.mem_range] at hi
  exact ⟨by simpa using hi, by simp [atI, hi]⟩
 ·rw [← hl, range_atI]
  exact hs
theorem mem_le_sum {L : List Int} (h : ∀ x ∈ L, 0 ≤ x) : ∀ x ∈ L, x ≤ L.sum := by
 induction L with
 | nil => intro x hx; simp at hx
 | cons y r ih =>
   intro x hx
   have h0 : 0 ≤ r.sum := by
    have := sum_nonneg (p := fun i => atI r i) (c := List.range r.length) (fun i _ => atI_nonneg (fun z hz => h z (List.mem_cons_of_mem _ hz)) i)
    rw [show (List.range r.length).map (fun i => atI r i) = r from range_atI r] at this
    exact this
   have h1 := h y (by simp)
   rw [List.sum_cons]
   rcases List.mem_cons.1 hx with rfl | hx
   ·omega
   ·have := ih (fun z hz => h z (List.mem_cons_of_mem _ hz)) x hx
    omega
end Go.Proofs.YtbgngmamnonlbaaGreat
namespace Go.Proofs.YtbgngmamnonlbaaGreat
open Go.RowKit
end Go.Proofs.YtbgngmamnonlbaaGreat
namespace Go.Proofs.YtbgngmamnonlbaaGreat
open Go.RowKit
set_option linter.unusedSimpArgs false
set_option linter.unusedVariables false
end Go.Proofs.YtbgngmamnonlbaaGreat
