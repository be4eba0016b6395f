/- Several texts in one: Scl, SmP, SmS. -/
import Derived.Test.YtbgngmamnonlbaaGreatH49
import Derived.Test.YtbgngmamnonlbaaGreatH32
namespace Go.Proofs.YtbgngmamnonlbaaGreat
open Go.RowKit
set_option linter.unusedSimpArgs false
set_option linter.unusedVariables false
theorem atI_nonneg {L : List Int} (h : ∀ x ∈ L, 0 ≤ x) (i : Nat) : 0 ≤ atI L i := by
 unfold atI
 cases hq : L[i]? with
 | none => exact Int.le_refl _
 | some x => exact h x (List.mem_of_getElem? hq)
theorem giveQ_ok {k s : Int} {P M : List Int} {A : Aw} (hP : ∀ x ∈ P, 0 ≤ x) (hM : ∀ x ∈ M, 0 ≤ x) (hl : M.length = P.length) (hs : M.sum ≤ s) (h : giveQ k P M s = some A) : QuoOk (atI P) (atI M) (List.range P.length) (List.replicate P.length 0) s A := by
 refine quo_ok (atI_nonneg hM) _ _ _ _ _ (by simp) List.nodup_range (fun i hi => ?_) (fun i _ => atI_nonneg hP i) ?_ h
 ·rw [List.mem_range] at hi
  exact ⟨by simpa using hi, by simp [atI, hi]⟩
 ·rw [← hl, range_atI]
  exact hs
theorem mem_le_sum {L : List Int} (h : ∀ x ∈ L, 0 ≤ x) : ∀ x ∈ L, x ≤ L.sum := by
 induction L with
 | nil => intro x hx; simp at hx
 | cons y r ih =>
   intro x hx
   have h0 : 0 ≤ r.sum := by
    have := sum_nonneg (p := fun i => atI r i) (c := List.range r.length) (fun i _ => atI_nonneg (fun z hz => h z (List.mem_cons_of_mem _ hz)) i)
    rw [show (List.range r.length).map (fun i => atI r i) = r from range_atI r] at this
    exact this
   have h1 := h y (by simp)
   rw [List.sum_cons]
   rcases List.mem_cons.1 hx with rfl | hx
   ·omega
   ·have := ih (fun z hz => h z (List.mem_cons_of_mem _ hz)) x hx
    omega
end Go.Proofs.YtbgngmamnonlbaaGreat
namespace Go.Proofs.YtbgngmamnonlbaaGreat
open Go.RowKit
end Go.Proofs.YtbgngmamnonlbaaGreat
namespace Go.Proofs.YtbgngmamnonlbaaGreat
open Go.RowKit
set_option linter.unusedSimpArgs false
set_option linter.unusedVariables false
theorem sum_nn {L : List Int} (h : ∀ x ∈ L, 0 ≤ x) : 0 ≤ L.sum := by
 cases L with
 | nil => exact Int.le_refl _
 | cons y r =>
   have h1 := mem_le_sum h y (by simp)
   have h2 := h y (by simp)
   omega
theorem take_sum {L : List Int} (h : ∀ x ∈ L, 0 ≤ x) (k : Nat) : 0 ≤ (L.take k).sum ∧ (L.take k).sum ≤ L.sum := by
 have h1 := sum_nn (L := L.take k) (fun x hx => h x (List.mem_of_mem_take hx))
 have h2 := sum_nn (L := L.drop k) (fun x hx => h x (List.mem_of_mem_drop hx))
 have h3 : (L.take k).sum + (L.drop k).sum = L.sum := by rw [← List.sum_append, List.take_append_drop]
 omega
theorem take_snoc {L : List Int} {j : Nat} {x : Int} (h : L[j]? = some x) : (L.take (j + 1)).sum = (L.take j).sum + x := by
 obtain ⟨hl, rfl⟩ := List.getElem?_eq_some_iff.1 h
 rw [List.take_succ_eq_append_getElem hl, List.sum_append]
 simp
structure SumsIs (C M S : List Int) (T : List Nat) (o h : Int) : Prop where
 len : S.length = C.length
 nn : ∀ x ∈ S, 0 ≤ x
 sum : S.sum + o = h
 low : ∀ (i : Nat) (x m : Int), S[i]? = some x → M[i]? = some m → m ≤ x
 asc : T.Pairwise (· < ·)
 lt : ∀ t ∈ T, t < C.length
 people : ∀ (t : Nat) (p : Int), t ∈ T → C[t]? = some p → 0 < p
 left : (T = [] ∧ o = 0) ∨ (1 ≤ o ∧ o < T.length)
theorem sumsIs {k h : Int} {C M : List Int} {A : Aw} (hq : QuoOk (atI C) (atI M) (List.range C.length) (List.replicate C.length 0) h A) (hM : ∀ x ∈ M, 0 ≤ x) (hml : M.length = C.length) : SumsIs C M A.seats A.tied A.left h := by
 have hl : A.seats.length = C.length := by rw [hq.len]; simp
 have h0 : (List.replicate C.length (0 : Int)).sum = 0 := by
  have h1 := (lowIs_nil (n := C.length) (L := []) (s := 0) (Int.le_refl _)).2.2.1
  have h2 := sum_nn (L := List.replicate C.length (0 : Int)) (fun x hx => by rw [(List.mem_replicate.1 hx).2]; exact Int.le_refl _)
  omega
 refine ⟨hl, fun x hx => ?_, by have := hq.sum; omega, fun i x m hx hm => ?_, List.pairwise_lt_range.sublist hq.tied, fun t ht => List.mem_range.1 (hq.tied.subset ht), fun t p ht hp => ?_, hq.left⟩
 ·obtain ⟨i, hi, rfl⟩ := List.getElem_of_mem hx
  have h1 := hq.low i (List.mem_range.2 (by omega))
  rw [atI_of (List.getElem?_eq_getElem hi)] at h1
  have := atI_nonneg hM i
  omega
 ·have h1 := hq.low i (List.mem_range.2 (by have := (List.getElem?_eq_some_iff.1 hx).1; omega))
  rw [atI_of hx, atI_of hm] at h1
  exact h1
 ·have := hq.people t ht
  rw [atI_of hp] at this
  exact this
end Go.Proofs.YtbgngmamnonlbaaGreat
