/- Several texts in one: Scl, SmP, SmS. -/
import Derived.Test.YtbgngmamnonlbaaGreatH49
import Derived.Test.YtbgngmamnonlbaaGreatH32
namespace Go.Proofs.YtbgngmamnonlbaaGreat
open Go.RowKit
set_option linter.unusedSimpArgs false
set_option linter.unusedVariables false
theorem atI_nonneg {L : List Int} (h : ∀ x ∈ L, 0 ≤ x) (i : Nat) : 0 ≤ atI L i := by
 unfold atI
 cases hq : L[i]? with
 | none => exact Int.le_refl _
 | some x => exact h x (List.mem_of_getElem? hq)
theorem giveQ_ok {k s : Int} {P M : List Int} {A : Aw} (hP : ∀ x ∈ P, 0 ≤ x) (hM : ∀ x ∈ M, 0 ≤ x) (hl : M.length = P.length) (hs : M.sum ≤ s) (h : giveQ k P M s = some A) : QuoOk (atI P) (atI M) (List.range P.length) (List.replicate P.length 0) s A := by
 refine quo_ok (atI_nonneg hM) _ _ _ _ _ (by simp) List.nodup_range (fun i hi => ?_) (fun i _ => atI_nonneg hP i) ?_ h
 ·rw [List.mem_range] at hi
  exact ⟨by simpa using hi, by simp [atI, hi]⟩
 ·rw [← hl, range_atI]
  exact hs
theorem mem_le_sum {L : List Int} (h : ∀ x ∈ L, 0 ≤ x) : ∀ x ∈ L, x ≤ L.sum := by
 induction L with
 | nil => intro x hx; simp at hx
 | cons y r ih =>
   intro x hx
   have h0 : 0 ≤ r.sum := by
    have := sum_nonneg (p := fun i => atI r i) (c := List.range r.length) (fun i _ => atI_nonneg (fun z hz => h z (List.mem_cons_of_mem _ hz)) i)
    rw [show (List.range r.length).map (fun i => atI r i) = r from range_atI r] at this
    exact this
   have h1 := h y (by simp)
   rw [List.sum_cons]
   rcases List.mem_cons.1 hx with rfl | hx
   ·omega
   ·have := ih (fun z hz => h z (List.mem_cons_of_mem _ hz)) x hx
    omega
end Go.Proofs.YtbgngmamnonlbaaGreat
namespace Go.Proofs.YtbgngmamnonlbaaGreat
open Go.RowKit
theorem low_less {p least : Nat → Int} {d n : Int} : ∀ (X : List Nat), X ≠ [] → (∀ x ∈ X, p x * d < least x * n) → (X.map p).sum * d < (X.map least).sum * n
 | [], h, _ => absurd rfl h
 | [x], _, h => by simpa using h x (by simp)
 | x :: y :: r, _, h => by
   have h1 := h x (by simp)
   have h2 := low_less (y :: r) (by simp) (fun z hz => h z (List.mem_cons_of_mem _ hz))
   rw [List.map_cons, List.sum_cons, List.map_cons (f := least), List.sum_cons, Int.add_mul, Int.add_mul]
   omega
theorem hare_some {p least : Nat → Int} (hL : ∀ i, 0 ≤ least i) (hp : ∀ i, 0 ≤ p i) : ∀ (fuel : Nat) (c : List Nat) (S : List Int) (o : Int), c.length < fuel → c.Nodup → (∀ i ∈ c, i < S.length ∧ atI S i = 0) → 0 < (c.map p).sum → (c.map least).sum ≤ o →
  ∃ A, quoGo 1 p least fuel c S o = some A := by
 intro fuel
 induction fuel with
 | zero => intro c S o h; omega
 | succ fuel ih =>
   intro c S o hf hn hS hz hl
   by_cases ho : o ≤ 0
   ·exact ⟨_, quoGo_stop ho⟩
   ·have hN : quoN 1 (c.map p).sum o = (c.map p).sum := rfl
    have hD : quoD 1 o = o := rfl
    by_cases hq : quoLow p least c (c.map p).sum o = []
    ·rw [quoGo_end (by omega) (by omega) hN hD hq]
     obtain ⟨A, hA, _⟩ := hare_ok hn hS (fun i _ => hp i) hz (o := o)
     exact ⟨A, hA⟩
    ·rw [quoGo_low (by omega) (by omega) hN hD hq]
     have hs := low_split c p (fun i => decide (p i * o < least i * (c.map p).sum))
     have hs2 := low_split c least (fun i => decide (p i * o < least i * (c.map p).sum))
     have hlen := low_len c (fun i => decide (p i * o < least i * (c.map p).sum))
     have hpos : 0 < (quoLow p least c (c.map p).sum o).length := List.length_pos_iff.2 hq
     have hless := low_less (p := p) (least := least) (d := o) (n := (c.map p).sum) (quoLow p least c (c.map p).sum o) hq (fun x hx => by
      have := (List.mem_filter.1 hx).2
      simpa using this)
     have h0 : 0 ≤ ((c.filter (fun i => !decide (p i * o < least i * (c.map p).sum))).map p).sum := sum_nonneg (fun i _ => hp i)
     have h0l : 0 ≤ ((c.filter (fun i => !decide (p i * o < least i * (c.map p).sum))).map least).sum := sum_nonneg (fun i _ => hL i)
     unfold quoLow at hless hpos ⊢
     refine ih _ _ _ (by omega) (hn.filter _) (fun i hi => ?_) ?_ (by omega)
     ·obtain ⟨hi1, hi2⟩ := List.mem_filter.1 hi
      refine ⟨by rw [putAt_length]; exact (hS i hi1).1, ?_⟩
      rw [putAt_other]
      ·exact (hS i hi1).2
      ·intro hm
       have h3 := (List.mem_filter.1 hm).2
       rw [h3] at hi2
       cases hi2
     ·rcases Int.lt_or_le 0 ((c.filter (fun i => !decide (p i * o < least i * (c.map p).sum))).map p).sum with h3 | h3
      ·exact h3
      ·exfalso
       have h4 : ((c.filter (fun i => decide (p i * o < least i * (c.map p).sum))).map p).sum = (c.map p).sum := by omega
       rw [h4] at hless
       have h5 : ((c.filter (fun i => decide (p i * o < least i * (c.map p).sum))).map least).sum ≤ o := by omega
       have h6 := Int.mul_le_mul_of_nonneg_right h5 (show 0 ≤ (c.map p).sum by omega)
       rw [Int.mul_comm o] at h6
       omega
theorem giveQ_hare {s : Int} {P M : List Int} (hP : ∀ x ∈ P, 0 ≤ x) (hM : ∀ x ∈ M, 0 ≤ x) (hl : M.length = P.length) (hs : M.sum ≤ s) (hz : 0 < P.sum) : ∃ A, giveQ 1 P M s = some A := by
 refine hare_some (atI_nonneg hM) (atI_nonneg hP) _ _ _ _ (by simp) List.nodup_range (fun i hi => ?_) (by rw [range_atI]; exact hz) (by rw [← hl, range_atI]; exact hs)
 rw [List.mem_range] at hi
 exact ⟨by simpa using hi, by simp [atI, hi]⟩
theorem giveQ_hare0 {s : Int} {P : List Int} (hP : ∀ x ∈ P, 0 ≤ x) (hs : 0 < s) (hz : 0 < P.sum) : ∃ A, giveQ 1 P (List.replicate P.length 0) s = some A ∧ A.seats.length = P.length ∧ A.tied.Sublist (List.range P.length) ∧ ∀ (i : Nat) (x y : Int), P[i]? = some x → A.seats[i]? = some y →
  (y = x * s / P.sum ∨ (y = x * s / P.sum + 1 ∧ 0 < x * s % P.sum)) ∧ (i ∈ A.tied → y = x * s / P.sum ∧ 0 < x * s % P.sum) := by
 have hM : atI (List.replicate P.length 0) = fun _ => 0 := by
  funext i
  unfold atI
  rw [List.getElem?_replicate]
  split <;> rfl
 have hS : ∀ i ∈ List.range P.length, i < (List.replicate P.length (0 : Int)).length ∧ atI (List.replicate P.length 0) i = 0 := fun i hi => by
  rw [List.mem_range] at hi
  exact ⟨by simpa using hi, by rw [hM]⟩
 have hzz : 0 < ((List.range P.length).map (atI P)).sum := by rw [range_atI]; exact hz
 obtain ⟨A, hA, h⟩ := hare_ok (S := List.replicate P.length 0) (o := s) List.nodup_range hS (fun i _ => atI_nonneg hP i) hzz
 have hg : giveQ 1 P (List.replicate P.length 0) s = some A := by
  unfold giveQ
  rw [hM, quo_hare (fun i _ => atI_nonneg hP i) hzz hs]
  exact hA
 have h0 : (List.replicate P.length (0 : Int)).sum = 0 := (lowIs_nil (n := P.length) (L := []) (s := 0) (Int.le_refl _)).2.2.1 |> fun h1 => by
  have h2 : 0 ≤ (List.replicate P.length (0 : Int)).sum := by
   have := sum_nonneg (p := fun _ => (0 : Int)) (c := List.range P.length) (fun _ _ => Int.le_refl _)
   rw [show (List.range P.length).map (fun _ => (0 : Int)) = List.replicate P.length 0 by rw [List.map_const']; simp] at this
   exact this
  omega
 have hq := giveQ_ok hP (M := List.replicate P.length 0) (fun x hx => by rw [(List.mem_replicate.1 hx).2]; exact Int.le_refl _) (by simp) (by omega) hg
 refine ⟨A, hg, by rw [hq.len]; simp, hq.tied, fun i x y hx hy => ?_⟩
 have hi := (List.getElem?_eq_some_iff.1 hx).1
 have := h i (List.mem_range.2 hi)
 rw [range_atI, atI_of hx, atI_of hy] at this
 exact this
structure SmNum (x h N z q r : Int) : Prop where
 mul : x * h = z
 quo : z / N = q
 rem : z % N = r
 w1 : wrap64 (x * h) = z
 w2 : IntKind.i64.wrap (x * h) = z
 d1 : z.tdiv N = q
 w3 : wrap64 q = q
 w4 : IntKind.i64.wrap q = q
 d2 : z.tmod N = r
 w5 : wrap64 r = r
 w6 : IntKind.i64.wrap r = r
 q0 : 0 ≤ q
 q1 : q ≤ 17000000000
 r0 : 0 ≤ r
 u1 : wrap64 (q + 1) = q + 1
 u2 : IntKind.i64.wrap (q + 1) = q + 1
theorem sm_nums {x h N : Int} (hx0 : 0 ≤ x) (hx1 : x ≤ 17000000) (h0 : 1 ≤ h) (h1 : h ≤ 1000) (hN : 0 < N) (hN1 : N ≤ 1000000000000) : ∃ z q r, SmNum x h N z q r := by
 have hz0 := Int.mul_nonneg hx0 (show 0 ≤ h by omega)
 have hz1 := Int.mul_le_mul hx1 h1 (by omega) (by omega)
 obtain ⟨z, hz⟩ : ∃ z, x * h = z := ⟨_, rfl⟩
 rw [hz] at hz0 hz1
 have hq0 := Int.ediv_nonneg hz0 (show 0 ≤ N by omega)
 have hq1 := Int.ediv_le_self N hz0
 have hr0 := Int.emod_nonneg z (show N ≠ 0 by omega)
 have hr1 := Int.emod_lt_of_pos z hN
 refine ⟨z, z / N, z % N, hz, rfl, rfl, by rw [hz]; exact IntWalk.wrap64_in _ (by omega), by rw [hz]; exact IntWalk.i64_in _ (by omega), Int.tdiv_eq_ediv_of_nonneg hz0, ?_, ?_, Int.tmod_eq_emod_of_nonneg hz0, ?_, ?_, hq0, ?_, hr0, ?_, ?_⟩
 ·exact IntWalk.wrap64_in _ (by omega)
 ·exact IntWalk.i64_in _ (by omega)
 ·exact IntWalk.wrap64_in _ (by omega)
 ·exact IntWalk.i64_in _ (by omega)
 ·omega
 ·exact IntWalk.wrap64_in _ (by omega)
 ·exact IntWalk.i64_in _ (by omega)
theorem sm_y {y q r : Int} (q0 : 0 ≤ q) (q1 : q ≤ 17000000000) (f1 : y = q ∨ (y = q + 1 ∧ 0 < r)) : wrap64 (y + 1) = y + 1 ∧ IntKind.i64.wrap (y + 1) = y + 1 ∧ ¬ y < q ∧ q ≤ y ∧ ¬ q + 1 < y ∧ y ≤ q + 1 := by
 rcases f1 with h | ⟨h, _⟩ <;> exact ⟨IntWalk.wrap64_in _ (by omega), IntWalk.i64_in _ (by omega), by omega, by omega, by omega, by omega⟩
end Go.Proofs.YtbgngmamnonlbaaGreat
namespace Go.Proofs.YtbgngmamnonlbaaGreat
open Go.RowKit
set_option linter.unusedSimpArgs false
set_option linter.unusedVariables false
theorem sum_nn {L : List Int} (h : ∀ x ∈ L, 0 ≤ x) : 0 ≤ L.sum := by
 cases L with
 | nil => exact Int.le_refl _
 | cons y r =>
   have h1 := mem_le_sum h y (by simp)
   have h2 := h y (by simp)
   omega
theorem take_sum {L : List Int} (h : ∀ x ∈ L, 0 ≤ x) (k : Nat) : 0 ≤ (L.take k).sum ∧ (L.take k).sum ≤ L.sum := by
 have h1 := sum_nn (L := L.take k) (fun x hx => h x (List.mem_of_mem_take hx))
 have h2 := sum_nn (L := L.drop k) (fun x hx => h x (List.mem_of_mem_drop hx))
 have h3 : (L.take k).sum + (L.drop k).sum = L.sum := by rw [← List.sum_append, List.take_append_drop]
 omega
theorem take_snoc {L : List Int} {j : Nat} {x : Int} (h : L[j]? = some x) : (L.take (j + 1)).sum = (L.take j).sum + x := by
 obtain ⟨hl, rfl⟩ := List.getElem?_eq_some_iff.1 h
 rw [List.take_succ_eq_append_getElem hl, List.sum_append]
 simp
structure SumsIs (C M S : List Int) (T : List Nat) (o h : Int) : Prop where
 len : S.length = C.length
 nn : ∀ x ∈ S, 0 ≤ x
 sum : S.sum + o = h
 low : ∀ (i : Nat) (x m : Int), S[i]? = some x → M[i]? = some m → m ≤ x
 asc : T.Pairwise (· < ·)
 lt : ∀ t ∈ T, t < C.length
 people : ∀ (t : Nat) (p : Int), t ∈ T → C[t]? = some p → 0 < p
 left : (T = [] ∧ o = 0) ∨ (1 ≤ o ∧ o < T.length)
theorem sumsIs {k h : Int} {C M : List Int} {A : Aw} (hq : QuoOk (atI C) (atI M) (List.range C.length) (List.replicate C.length 0) h A) (hM : ∀ x ∈ M, 0 ≤ x) (hml : M.length = C.length) : SumsIs C M A.seats A.tied A.left h := by
 have hl : A.seats.length = C.length := by rw [hq.len]; simp
 have h0 : (List.replicate C.length (0 : Int)).sum = 0 := by
  have h1 := (lowIs_nil (n := C.length) (L := []) (s := 0) (Int.le_refl _)).2.2.1
  have h2 := sum_nn (L := List.replicate C.length (0 : Int)) (fun x hx => by rw [(List.mem_replicate.1 hx).2]; exact Int.le_refl _)
  omega
 refine ⟨hl, fun x hx => ?_, by have := hq.sum; omega, fun i x m hx hm => ?_, List.pairwise_lt_range.sublist hq.tied, fun t ht => List.mem_range.1 (hq.tied.subset ht), fun t p ht hp => ?_, hq.left⟩
 ·obtain ⟨i, hi, rfl⟩ := List.getElem_of_mem hx
  have h1 := hq.low i (List.mem_range.2 (by omega))
  rw [atI_of (List.getElem?_eq_getElem hi)] at h1
  have := atI_nonneg hM i
  omega
 ·have h1 := hq.low i (List.mem_range.2 (by have := (List.getElem?_eq_some_iff.1 hx).1; omega))
  rw [atI_of hx, atI_of hm] at h1
  exact h1
 ·have := hq.people t ht
  rw [atI_of hp] at this
  exact this
end Go.Proofs.YtbgngmamnonlbaaGreat
