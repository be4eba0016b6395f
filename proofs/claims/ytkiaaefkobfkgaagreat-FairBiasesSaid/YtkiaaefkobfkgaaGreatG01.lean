/- Several texts in one: FbA, FbC, FbB. -/
import Derived.Test.YtkiaaefkobfkgaaGreatF06
import Derived.Test.YtkiaaefkobfkgaaGreatF07
import Derived.Deep.DeepCutAuto

/- FairBiases: the plain law: the region with the fewest people is the last one in the order. -/
namespace Go.Proofs.YtkiaaefkobfkgaaGreat
open Go.RowKit

section
variable {α : Type} {lt : α → α → Bool}
theorem posR_app (b : α) (T R : List α) : ∀ k, k ≤ T.length → posR lt b (T ++ R) k = posR lt b T k
  | 0, _ => rfl
  | k + 1, h => by
    rw [posR, posR, List.getElem?_append_left (by omega)]
    cases T[k]? with
    | none => rfl
    | some y => simp only [posR_app b T R k (by omega)]
theorem posR_le (b : α) (T : List α) : ∀ k, posR lt b T k ≤ k
  | 0 => Nat.le_refl _
  | k + 1 => by
    rw [posR]
    cases T[k]? with
    | none => exact Nat.le_refl _
    | some y =>
      simp only
      split
      · have := posR_le b T k; omega
      · exact Nat.le_refl _
theorem insR_last {T : List α} {x b : α} (h : lt b x = true) : insR lt (T ++ [x]) b = insR lt T b ++ [x] := by
  have e : posR lt b (T ++ [x]) (T ++ [x]).length = posR lt b T T.length := by
    rw [List.length_append, List.length_singleton, posR, List.getElem?_append_right (Nat.le_refl _), Nat.sub_self]
    simp only [List.getElem?_cons_zero, h, if_true]
    exact posR_app b T [x] _ (Nat.le_refl _)
  have hl := posR_le (lt := lt) b T T.length
  unfold insR
  rw [e, List.take_append_of_le_length hl, List.drop_append_of_le_length hl]
  simp
theorem foldR_last {x : α} : ∀ {B T : List α}, (∀ b ∈ B, lt b x = true) → B.foldl (insR lt) (T ++ [x]) = B.foldl (insR lt) T ++ [x]
  | [], _, _ => rfl
  | b :: B, T, h => by
    rw [List.foldl_cons, List.foldl_cons, insR_last (h b (by simp)), foldR_last (fun c hc => h c (by simp [hc]))]
theorem insR_end {S : List α} {x : α} (h : ∀ y ∈ S, lt x y = false) : insR lt S x = S ++ [x] := by
  have e : posR lt x S S.length = S.length := by
    cases hS : S.length with
    | zero => rfl
    | succ k =>
      have hk : k < S.length := by omega
      rw [posR, List.getElem?_eq_getElem hk]
      simp only [h _ (List.getElem_mem hk)]
      simp
  rw [insR, e]; simp
theorem sort_last {A B : List α} {x : α} (hA : ∀ a ∈ A, lt x a = false) (hB : ∀ b ∈ B, lt b x = true) : sortR lt (A ++ x :: B) = sortR lt (A ++ B) ++ [x] := by
  unfold sortR
  rw [List.foldl_append, List.foldl_cons, List.foldl_append, insR_end (fun y hy => hA y (by rcases foldR_mem.1 hy with h | h; cases h; exact h)), foldR_last hB]
end

def diag (l : List Int) : List (Int × Int) := l.map fun p => (p, p)
theorem diag_s {l : List (Int × Int)} (h : ∀ x ∈ l, x.1 = x.2) : s1 l = s2 l := by
  induction l with
  | nil => rfl
  | cons y r ih =>
    have h1 := ih (fun x hx => h x (by simp [hx]))
    have h2 := h y (by simp)
    simp only [s1, s2, List.map_cons, List.sum_cons] at h1 ⊢
    omega
theorem s1_pos {l : List (Int × Int)} (h : ∀ x ∈ l, 1 ≤ x.1) : (l.length : Int) ≤ s1 l := by
  induction l with
  | nil => simp [s1]
  | cons y r ih =>
    have h1 := ih (fun x hx => h x (by simp [hx]))
    have h2 := h y (by simp)
    simp only [s1, List.map_cons, List.sum_cons, List.length_cons] at h1 ⊢
    omega
theorem s1_le {l : List (Int × Int)} (h : ∀ x ∈ l, x.1 ≤ 100) : s1 l ≤ 100 * l.length := by
  induction l with
  | nil => simp [s1]
  | cons y r ih =>
    have h1 := ih (fun x hx => h x (by simp [hx]))
    have h2 := h y (by simp)
    simp only [s1, List.map_cons, List.sum_cons, List.length_cons] at h1 ⊢
    omega
theorem s_app (l r : List (Int × Int)) : s1 (l ++ r) = s1 l + s1 r ∧ s2 (l ++ r) = s2 l + s2 r := by
  simp [s1, s2]
/-- What the bias is where all have as many seats as people. -/
theorem bias_even {ys : List (Int × Int)} {k : Nat} (h1 : 1 ≤ k) (h2 : k ≤ ys.length / 2) (hd : ∀ x ∈ ys, x.1 = x.2 ∧ 1 ≤ x.1) : biasNum ys k = 0 ∧ 0 < biasDen ys k := by
  have a1 := diag_s (l := ys.take k) (fun x hx => (hd x (List.mem_of_mem_take hx)).1)
  have a2 := diag_s (l := ys.drop (ys.length - k)) (fun x hx => (hd x (List.mem_of_mem_drop hx)).1)
  have b1 := s1_pos (l := ys.take k) (fun x hx => (hd x (List.mem_of_mem_take hx)).2)
  have b2 := s1_pos (l := ys.drop (ys.length - k)) (fun x hx => (hd x (List.mem_of_mem_drop hx)).2)
  rw [List.length_take] at b1
  rw [List.length_drop] at b2
  unfold biasNum biasDen
  rw [← a1, ← a2]
  exact ⟨by omega, Int.mul_pos (by omega) (by omega)⟩
/-- .. and where the last one has a seat less. -/
theorem bias_less {T : List (Int × Int)} {m : Int} {k : Nat} (h1 : 1 ≤ k) (h2 : k ≤ (T.length + 1) / 2) (hd : ∀ x ∈ T, x.1 = x.2 ∧ 1 ≤ x.1) (hm : 2 ≤ m) :
    0 < biasNum (T ++ [(m, m - 1)]) k ∧ biasNum (T ++ [(m, m - 1)]) k = s1 (T.take k) ∧ 0 < biasDen (T ++ [(m, m - 1)]) k ∧ biasDen (T ++ [(m, m - 1)]) k = s1 (T.take k) * (s1 (T.drop (T.length + 1 - k)) + (m - 1)) := by
  have a1 := diag_s (l := T.take k) (fun x hx => (hd x (List.mem_of_mem_take hx)).1)
  have a2 := diag_s (l := T.drop (T.length + 1 - k)) (fun x hx => (hd x (List.mem_of_mem_drop hx)).1)
  have b1 := s1_pos (l := T.take k) (fun x hx => (hd x (List.mem_of_mem_take hx)).2)
  have b2 := s1_pos (l := T.drop (T.length + 1 - k)) (fun x hx => (hd x (List.mem_of_mem_drop hx)).2)
  rw [List.length_take] at b1
  have e1 : (T ++ [(m, m - 1)]).take k = T.take k := List.take_append_of_le_length (by omega)
  have e2 : (T ++ [(m, m - 1)]).drop ((T ++ [(m, m - 1)]).length - k) = T.drop (T.length + 1 - k) ++ [(m, m - 1)] := by
    rw [List.length_append, List.length_singleton]
    exact List.drop_append_of_le_length (by omega)
  unfold biasNum biasDen
  rw [e1, e2, (s_app _ _).1, (s_app _ _).2, ← a1, ← a2]
  have e3 : s1 [(m, m - 1)] = m := by simp [s1]
  have e4 : s2 [(m, m - 1)] = m - 1 := by simp [s2]
  rw [e3, e4]
  obtain ⟨M, hM⟩ : ∃ M, s1 (T.take k) = M := ⟨_, rfl⟩
  obtain ⟨R, hR⟩ : ∃ R, s1 (T.drop (T.length + 1 - k)) = R := ⟨_, rfl⟩
  rw [hM] at b1 ⊢
  rw [hR] at b2 ⊢
  have hM1 : 1 ≤ M := by omega
  have hR0 : 0 ≤ R := by omega
  have hN : M * (R + m) - M * (R + (m - 1)) = M := by
    rw [← Int.mul_sub]
    have : R + m - (R + (m - 1)) = 1 := by omega
    rw [this, Int.mul_one]
  exact ⟨by rw [hN]; omega, hN, Int.mul_pos (by omega) (by omega), rfl⟩
end Go.Proofs.YtkiaaefkobfkgaaGreat

/- FairBiases: what Bias answers for a census and its own seats, and with a seat less. -/
namespace Go.Proofs.YtkiaaefkobfkgaaGreat
open Go.RowKit

/-- What the walk asks of the census. -/
structure BiasC (C : List Int) : Prop where
  l2 : 2 ≤ C.length
  l8 : C.length ≤ 8
  rng : ∀ x ∈ C, 1 ≤ x ∧ x ≤ 100
/-- Where the fewest are, among the first j: the last of them. -/
def LeastIs (C : List Int) (j l : Nat) : Prop := l < C.length ∧ (∀ a, a < l → atI C l ≤ atI C a) ∧ ∀ b, l < b → b < j → atI C l < atI C b
theorem least_start {C : List Int} (h : 0 < C.length) : LeastIs C 0 0 := ⟨h, fun a ha => by omega, fun b h1 h2 => by omega⟩
theorem least_new {C : List Int} {j l : Nat} (h : LeastIs C j l) (hj : j < C.length) (hl : j = 0 ∨ l < j) (hc : atI C j ≤ atI C l) : LeastIs C (j + 1) j := by
  refine ⟨hj, fun a ha => ?_, fun b h1 h2 => by omega⟩
  rcases Nat.lt_trichotomy a l with h1 | h1 | h1
  · have := h.2.1 a h1; omega
  · subst h1; exact hc
  · have := h.2.2 a h1 ha; omega
theorem least_old {C : List Int} {j l : Nat} (h : LeastIs C j l) (hc : ¬ atI C j ≤ atI C l) : LeastIs C (j + 1) l := by
  refine ⟨h.1, h.2.1, fun b h1 h2 => ?_⟩
  rcases Nat.lt_or_ge b j with h3 | h3
  · exact h.2.2 b h1 h3
  · have : b = j := by omega
    subst this
    omega
theorem sum_rng {C : List Int} (h : ∀ x ∈ C, 1 ≤ x ∧ x ≤ 100) : (C.length : Int) ≤ C.sum ∧ C.sum ≤ 100 * C.length := by
  induction C with
  | nil => simp
  | cons y r ih =>
    have h1 := ih (fun x hx => h x (by simp [hx]))
    have h2 := h y (by simp)
    simp only [List.sum_cons, List.length_cons]
    omega
theorem zip_self (C : List Int) : C.zip C = diag C := by
  induction C with
  | nil => rfl
  | cons y r ih => rw [List.zip_cons_cons, ih]; rfl
theorem keep_all {l : List (Int × Int)} (h : ∀ x ∈ l, 1 ≤ x.1) : bKeep l = l := by
  unfold bKeep
  rw [List.filter_eq_self]
  intro x hx
  have := h x hx
  have : (x.1 == 0) = false := by rw [beq_eq_false_iff_ne]; omega
  rw [this]; rfl
theorem diag_mem {l : List Int} {x : Int × Int} (h : x ∈ diag l) : ∃ p ∈ l, x = (p, p) := by
  unfold diag at h
  obtain ⟨p, hp, rfl⟩ := List.mem_map.1 h
  exact ⟨p, hp, rfl⟩
theorem atI_get {l : List Int} {i : Nat} (h : i < l.length) : atI l i = l[i] := by simp [atI, h]
theorem hall_is {C S : List Int} (h : BiasC C) (hl : S.length = C.length) (h0 : ∀ x ∈ S, 0 ≤ x ∧ x ≤ 1000) (h1 : 1 ≤ S.sum) (h2 : S.sum ≤ 1000) : hallE C S = 0 := by
  have hs := sum_rng h.rng
  have hl2 := h.l2
  have hl8 := h.l8
  have hc : censusB C = true := census_iff.2 ⟨by omega, fun x hx => by have := h.rng x hx; omega, by omega⟩
  rw [hallE, if_pos hc, if_pos ⟨hl, inAll_iff.2 h0, h1, h2⟩]
theorem own_hall {C : List Int} (h : BiasC C) : hallE C C = 0 := by
  have hs := sum_rng h.rng
  have hl2 := h.l2
  have hl8 := h.l8
  exact hall_is h rfl (fun x hx => by have := h.rng x hx; omega) (by omega) (by omega)
/-- The census with its own seats. -/
theorem bias_own {C : List Int} (h : BiasC C) (k : Int) (k1 : 1 ≤ k) (k2 : k ≤ (C.length / 2 : Nat)) : biasX C C k = shA 0 1 ∧ biasE C C k = 0 := by
  have hE := own_hall h
  have hS : ∀ x ∈ bSort (C.zip C), x.1 = x.2 ∧ 1 ≤ x.1 := by
    intro x hx
    rw [bSort, zip_self] at hx
    have h2 := sortR_mem.1 hx
    obtain ⟨p, hp, rfl⟩ := diag_mem (List.mem_filter.1 h2).1
    exact ⟨rfl, (h.rng p hp).1⟩
  have hlen : (bSort (C.zip C)).length = C.length := by
    rw [bSort_len, keep_all (fun x hx => by rw [zip_self] at hx; obtain ⟨p, hp, rfl⟩ := diag_mem hx; exact (h.rng p hp).1), List.length_zip]
    omega
  obtain ⟨kn, rfl⟩ : ∃ kn : Nat, k = kn := ⟨k.toNat, by omega⟩
  have hok : bOk (bSort (C.zip C)) (kn : Int) = true := by
    unfold bOk
    rw [hlen]
    exact decide_eq_true ⟨k1, k2⟩
  have hb := bias_even (ys := bSort (C.zip C)) (k := kn) (by omega) (by rw [hlen]; omega) hS
  rw [biasX, biasE, if_pos ⟨hE, hok⟩, if_pos hE, if_pos hok, Int.toNat_natCast, hb.1, if_neg (by omega), gapX_yes (by omega)]
  exact ⟨shA_congr hb.2 (by decide) (by omega), rfl⟩
/-- The census where the last of the smallest regions has a seat less. -/
theorem bias_won {C : List Int} (h : BiasC C) {l : Nat} (hl : LeastIs C C.length l) (hm : 2 ≤ atI C l) (k : Int) (k1 : 1 ≤ k) (k2 : k ≤ (C.length / 2 : Nat)) :
    ∃ N D, Fits N D ∧ 0 < N ∧ biasX C (C.set l (atI C l - 1)) k = shA N D ∧ biasE C (C.set l (atI C l - 1)) k = 0 := by
  obtain ⟨h0, hA, hB⟩ := hl
  have hl2 := h.l2
  have hl8 := h.l8
  obtain ⟨m, hme⟩ : ∃ m, atI C l = m := ⟨_, rfl⟩
  rw [hme] at hm hA hB ⊢
  have hCl : C[l] = m := by rw [← hme, atI_get h0]
  have hC : C = C.take l ++ m :: C.drop (l + 1) := by
    have := (List.take_append_drop l C).symm
    rw [List.drop_eq_getElem_cons h0, hCl] at this
    exact this
  have hS : C.set l (m - 1) = C.take l ++ (m - 1) :: C.drop (l + 1) := by
    rw [List.set_eq_take_append_cons_drop, if_pos h0]
  obtain ⟨A, hAe⟩ : ∃ A, C.take l = A := ⟨_, rfl⟩
  obtain ⟨B, hBe⟩ : ∃ B, C.drop (l + 1) = B := ⟨_, rfl⟩
  have hAm : ∀ a ∈ A, m ≤ a := by
    intro a ha
    rw [← hAe] at ha
    obtain ⟨i, hi, rfl⟩ := List.getElem_of_mem ha
    rw [List.length_take] at hi
    have := hA i (by omega)
    rw [atI_get (by omega)] at this
    rwa [List.getElem_take]
  have hBm : ∀ b ∈ B, m < b := by
    intro b hb
    rw [← hBe] at hb
    obtain ⟨i, hi, rfl⟩ := List.getElem_of_mem hb
    rw [List.length_drop] at hi
    have := hB (l + 1 + i) (by omega) (by omega)
    rw [atI_get (by omega)] at this
    rwa [List.getElem_drop]
  have hA1 : ∀ a ∈ A, 1 ≤ a ∧ a ≤ 100 := fun a ha => h.rng a (by rw [← hAe] at ha; exact List.mem_of_mem_take ha)
  have hB1 : ∀ b ∈ B, 1 ≤ b ∧ b ≤ 100 := fun b hb => h.rng b (by rw [← hBe] at hb; exact List.mem_of_mem_drop hb)
  have hm100 : m ≤ 100 := by rw [← hCl]; exact (h.rng _ (List.getElem_mem h0)).2
  rw [hAe, hBe] at hC hS
  have hz : C.zip (C.set l (m - 1)) = diag A ++ (m, m - 1) :: diag B := by
    rw [hS]
    conv => lhs; arg 1; rw [hC]
    rw [List.zip_append rfl, List.zip_cons_cons, zip_self, zip_self]
  have hlen : A.length + 1 + B.length = C.length := by
    have := congrArg List.length hC
    simp at this
    omega
  have hkeep : bKeep (C.zip (C.set l (m - 1))) = diag A ++ (m, m - 1) :: diag B := by
    rw [hz]
    refine keep_all (fun x hx => ?_)
    rw [List.mem_append, List.mem_cons] at hx
    rcases hx with hx | rfl | hx
    · obtain ⟨p, hp, rfl⟩ := diag_mem hx; exact (hA1 p hp).1
    · show 1 ≤ m; omega
    · obtain ⟨p, hp, rfl⟩ := diag_mem hx; exact (hB1 p hp).1
  have hsort : bSort (C.zip (C.set l (m - 1))) = sortR bLt (diag A ++ diag B) ++ [(m, m - 1)] := by
    rw [bSort, hkeep]
    refine sort_last (fun x hx => ?_) (fun x hx => ?_)
    · obtain ⟨p, hp, rfl⟩ := diag_mem hx
      have := hAm p hp
      unfold bLt
      rw [decide_eq_false_iff_not]
      show ¬ p - m < 0
      omega
    · obtain ⟨p, hp, rfl⟩ := diag_mem hx
      have := hBm p hp
      unfold bLt
      rw [decide_eq_true_iff]
      show m - p < 0
      omega
  obtain ⟨T, hT⟩ : ∃ T, sortR bLt (diag A ++ diag B) = T := ⟨_, rfl⟩
  have hTl : T.length + 1 = C.length := by
    rw [← hT, sortR_length, List.length_append, diag, diag, List.length_map, List.length_map]
    omega
  have hTd : ∀ x ∈ T, x.1 = x.2 ∧ 1 ≤ x.1 ∧ x.1 ≤ 100 := by
    intro x hx
    rw [← hT] at hx
    have h2 := sortR_mem.1 hx
    rw [List.mem_append] at h2
    rcases h2 with h2 | h2
    · obtain ⟨p, hp, rfl⟩ := diag_mem h2; exact ⟨rfl, hA1 p hp⟩
    · obtain ⟨p, hp, rfl⟩ := diag_mem h2; exact ⟨rfl, hB1 p hp⟩
  rw [hT] at hsort
  obtain ⟨kn, rfl⟩ : ∃ kn : Nat, k = kn := ⟨k.toNat, by omega⟩
  have hbl := bias_less (T := T) (m := m) (k := kn) (by omega) (by omega) (fun x hx => ⟨(hTd x hx).1, (hTd x hx).2.1⟩) hm
  have b1 := s1_le (l := T.take kn) (fun x hx => (hTd x (List.mem_of_mem_take hx)).2.2)
  have b2 := s1_le (l := T.drop (T.length + 1 - kn)) (fun x hx => (hTd x (List.mem_of_mem_drop hx)).2.2)
  rw [List.length_take] at b1
  rw [List.length_drop] at b2
  obtain ⟨N, hN⟩ : ∃ N, biasNum (T ++ [(m, m - 1)]) kn = N := ⟨_, rfl⟩
  obtain ⟨D, hD⟩ : ∃ D, biasDen (T ++ [(m, m - 1)]) kn = D := ⟨_, rfl⟩
  rw [hN, hD] at hbl
  obtain ⟨n0, n1, d0, d1⟩ := hbl
  have d2 : D ≤ 800 * 1000 := by
    rw [d1]
    have s0 := s1_pos (l := T.drop (T.length + 1 - kn)) (fun x hx => (hTd x (List.mem_of_mem_drop hx)).2.1)
    exact (mul_bound' (by omega) (by omega) (by omega) (by omega)).2
  have hok : bOk (T ++ [(m, m - 1)]) (kn : Int) = true := by
    unfold bOk
    rw [List.length_append, List.length_singleton, hTl]
    exact decide_eq_true ⟨k1, k2⟩
  have hsumC := sum_rng h.rng
  have hE : hallE C (C.set l (m - 1)) = 0 := by
    have hsum : (C.set l (m - 1)).sum = C.sum - 1 := by
      rw [hS]
      conv => rhs; rw [hC]
      simp only [List.sum_append, List.sum_cons]
      omega
    refine hall_is h (by simp) (fun x hx => ?_) (by omega) (by omega)
    rw [hS, List.mem_append, List.mem_cons] at hx
    rcases hx with hx | rfl | hx
    · have := hA1 x hx; omega
    · omega
    · have := hB1 x hx; omega
  refine ⟨N, D, fits_small d0 (by omega) (by omega) (by omega), n0, ?_, ?_⟩
  · rw [biasX, if_pos ⟨hE, by rw [hsort]; exact hok⟩, hsort, Int.toNat_natCast, hN, hD, gapX_yes (by omega)]
  · rw [biasE, if_pos hE, hsort, if_pos hok, Int.toNat_natCast, hD, if_neg (by omega)]
end Go.Proofs.YtkiaaefkobfkgaaGreat

/- FairBiases: the walk. -/
namespace Go.Proofs.YtkiaaefkobfkgaaGreat
open Go.RowKit Go.Shelf
set_option linter.unusedSimpArgs false

/-- A slice with elements lies at a plain address. -/
theorem sl_plain {w : World} {A : Option Addr} {n : Nat} {xs : List Int} (h : Sl w .i64 A n xs) (hn : 0 < n) : ∃ b o, A = some ⟨b, o, none⟩ ∧ ∀ j, j < xs.length → w.cell? ⟨b, o + j, none⟩ = some (.int .i64 (xs.getD j 0)) := by
  obtain ⟨a, e, hb, hc⟩ := h.2 hn
  obtain ⟨b, o, sp⟩ := a
  have h0 := hc 0 _ (List.getElem?_eq_getElem (by have := h.1; omega))
  have hsp : sp = none := by
    cases sp with
    | none => rfl
    | some x =>
      unfold World.cell? at h0
      simp only [Addr.add, if_true] at h0
      split at h0
      · simp at h0
      · cases h0
  subst hsp
  refine ⟨b, o, e, fun j hj => ?_⟩
  have h1 := hc j _ (List.getElem?_eq_getElem hj)
  have ea : (⟨b, o, none⟩ : Addr).add j = ⟨b, o + j, none⟩ := by unfold Addr.add; split <;> simp_all
  rw [ea] at h1
  rw [h1, List.getD_eq_getElem?_getD, List.getElem?_eq_getElem hj]
  rfl
/-- A block whose first n cells are the numbers xs. -/
def RowI (W : World) (g n : Nat) (xs : List Int) : Prop := ∃ cur, Blk W g 3 cur ∧ cur.toList.take n = xs.map (Value.int .i64) ∧ xs.length = n ∧ n ≤ cur.size
theorem RowI.cell {W : World} {g n : Nat} {xs : List Int} (h : RowI W g n xs) {i : Nat} {x : Int} (hx : xs[i]? = some x) : W.cell? ⟨g, i, none⟩ = some (.int .i64 x) := by
  obtain ⟨cur, h1, h2, h3, h4⟩ := h
  rw [h1.cell i]
  have hi : i < xs.length := (List.getElem?_eq_some_iff.1 hx).1
  have : (cur.toList.take n)[i]? = some (.int .i64 x) := by rw [h2]; simp [hx]
  rw [List.getElem?_take] at this
  split at this
  · simpa using this
  · cases this
theorem RowI.set {W : World} {g n : Nat} {xs : List Int} (h : RowI W g n xs) (i : Nat) (x : Int) : RowI (W.setCell ⟨g, i, none⟩ (.int .i64 x)) g n (xs.set i x) := by
  obtain ⟨cur, h1, h2, h3, h4⟩ := h
  refine ⟨_, h1.set i _, ?_, by simpa using h3, by simpa using h4⟩
  rw [Array.toList_setIfInBounds, List.take_set, h2, List.map_set]
theorem RowI.sl {W : World} {g n : Nat} {xs : List Int} (h : RowI W g n xs) : Sl W .i64 (some ⟨g, 0, none⟩) n xs := by
  obtain ⟨cur, h1, h2, h3, h4⟩ := h
  refine ⟨h3, fun _ => ⟨_, rfl, h1.lt, fun i x hx => ?_⟩⟩
  have e : (⟨g, 0, none⟩ : Addr).add i = ⟨g, i, none⟩ := by unfold Addr.add; split <;> simp_all
  rw [e]
  exact RowI.cell ⟨cur, h1, h2, h3, h4⟩ hx
theorem RowI.lt {W : World} {g n : Nat} {xs : List Int} (h : RowI W g n xs) : g < W.heap.size := by obtain ⟨_, h1, _⟩ := h; exact h1.lt
theorem RowI.frozen {W : World} {g n : Nat} {xs : List Int} (h : RowI W g n xs) (i : Nat) : W.frozen? ⟨g, i, none⟩ = false := by obtain ⟨_, h1, _⟩ := h; exact h1.frozen i
theorem clone9_any (A : Option Addr) (n c : Nat) (xs : List Int) (w : World) (hs : Sl w .i64 A n xs) (hn : 0 < n) (hn2 : n ≤ 17000000000000) :
    Calls Tryz.prog 23 #[.slice A n c] w (fun e w' => ∃ g c', e = .returned (.slice (some ⟨g, 0, none⟩) n c') ∧ RowI w' g n xs ∧ w.heap.size ≤ g ∧ Lat w w') := by
  obtain ⟨b, o, rfl, hc⟩ := sl_plain hs hn
  have hl := hs.1
  refine (Tryz.slices_Clone_int b o n c xs w (by omega) (by omega) hc).mono ?_
  rintro e w' ⟨v, rfl, ⟨h1, h2⟩, hne, hb⟩
  rcases h2 with ⟨rfl, _⟩ | ⟨g, cap, cur, rfl, hB, hg, hnc, _, hcs, ht⟩
  · exact absurd rfl hne
  · refine ⟨g, cap, rfl, ⟨cur, hg, ?_, hl, by omega⟩, hB, hb⟩
    rw [Nat.mul_one, List.take_of_length_le (by omega : xs.length ≤ n)] at ht
    exact ht

theorem rem9 (a h r : Int) (h0 : ¬ h = 0) (hr : Int.tmod a h = r) : ∀ (o : Oper) (ev : Operand → Value) (w : World) (x y : Operand), o.op = .binOp .rem 3 x y 3 → ev x = .int .i64 a → ev y = .int .i64 h → (execOp ev o).run Tryz.prog w = .ok (.value (.int .i64 r)) w := by
  intro o ev w x y ho hx hy
  obtain ⟨d, op, ty, p, af, g⟩ := o
  simp only at ho
  subst ho
  unfold execOp
  simp only [hx, hy]
  go_simp
structure BiasK (n H : Nat) (u r kk : Int) : Prop where
  hH : n / 2 = H
  q0 : ¬ (H : Int) = 0
  q1 : Int.tdiv (n : Int) 2 = (H : Int)
  q1' : (n : Int) / 2 = (H : Int)
  q2 : wrap64 (H : Int) = (H : Int)
  q3 : IntKind.i64.wrap (H : Int) = (H : Int)
  hr : u % (H : Int) = r
  q4 : Int.tmod u (H : Int) = r
  q5 : wrap64 r = r
  q6 : IntKind.i64.wrap r = r
  hkk : 1 + r = kk
  q7 : wrap64 kk = kk
  q8 : IntKind.i64.wrap kk = kk
  hk : 1 ≤ kk ∧ kk ≤ (H : Int)
theorem biasK_ex {n : Nat} (h2 : 2 ≤ n) (h8 : n ≤ 8) {u : Int} (u0 : 0 ≤ u) : ∃ (H : Nat) (r kk : Int), BiasK n H u r kk := by
  obtain ⟨H, hH⟩ : ∃ H : Nat, n / 2 = H := ⟨_, rfl⟩
  have hH1 : 1 ≤ H ∧ H ≤ 4 := by omega
  have q0 : ¬ (H : Int) = 0 := by omega
  obtain ⟨r, hr⟩ : ∃ r : Int, u % (H : Int) = r := ⟨_, rfl⟩
  have hr0 : 0 ≤ r := by rw [← hr]; exact Int.emod_nonneg _ q0
  have hr1 : r < H := by rw [← hr]; exact Int.emod_lt_of_pos _ (by omega)
  refine ⟨H, r, 1 + r, hH, q0, ?_, by omega, IntWalk.wrap64_in _ (by omega), IntWalk.i64_in _ (by omega), hr, ?_, IntWalk.wrap64_in _ (by omega), IntWalk.i64_in _ (by omega), rfl, IntWalk.wrap64_in _ (by omega), IntWalk.i64_in _ (by omega), by omega, by omega⟩
  · rw [Int.tdiv_eq_ediv_of_nonneg (by omega)]; omega
  · rw [Int.tmod_eq_emod_of_nonneg u0]; exact hr

set_option maxRecDepth 100000 in
set_option maxHeartbeats 8000000 in
/-- From the census on. -/
theorem dBiases_any (Ap : Option Addr) (np cp : Nat) (ps : List Int) (u : Int) (w : World) (hp : Sl w .u8 Ap np ps) (hnp : np ≤ 9223372036854775807) (hrp : ∀ x ∈ ps, 0 ≤ x ∧ x ≤ 255) (hcp : np ≤ cp) (u0 : 0 ≤ u) (u1 : u < 256) :
    Calls Tryz.prog 5 #[.slice Ap np cp, .int .u8 u] w (Yes9 w) := by
  have HRP := Lib.hid hrp
  clear hrp
  have HF := fun w => l9_of 0 1 w (by decide) (by decide) (by decide) (by decide)
  have GX := shA_good 0 1
  obtain ⟨Y1, hX1⟩ : ∃ Y : List Value, shA 0 1 = Y.toArray := ⟨(shA 0 1).toList, by simp⟩
  rw [hX1] at HF GX
  have NP := fun w => GX.neq w
  have z1 := Lib.hid GX.1
  have c1 := Lib.hid GX.2.1
  have i1 := Lib.hid GX.info
  have J9 : (Tryz.prog.info? 35).map (·.size) = some Y1.length := by have := i1.out; simpa using this
  have hgd := Lib.hid shGuard
  have HX1 := Lib.hid hX1
  clear GX hX1
  go_enter Tryz.func5, Tryz.ntmps5
  go_wp2_with fail
  refine (wakes9_any w).mono ?_
  rintro e W2 ⟨rfl, l2⟩
  have hp2 := hp.later l2
  obtain ⟨mr, Rr, hmr, hRr, hsub, hmn, hm8⟩ : ∃ (mr : Nat) (Rr : List Int), min (np : Int) 8 = mr ∧ Sl W2 .u8 Ap mr Rr ∧ (∀ x ∈ Rr, x ∈ ps) ∧ mr ≤ np ∧ mr ≤ 8 :=
    ⟨min np 8, ps.take (min np 8), by omega, hp2.take (by omega), fun x hx => List.mem_of_mem_take hx, by omega, by omega⟩
  have hmc : (mr : Int) ≤ (cp : Int) := by omega
  have HSub := Lib.hid hsub
  have hRl := hRr.1
  clear hp hp2 hnp hsub
  go_wp2_with fail
  go_loopw [5, 27] (fun v t wr => ∃ (j : Nat) (C : List Int), j ≤ mr ∧ t = .int .i64 j ∧ Own wr W2.heap.size 3 .i64 v C ∧ C.length = j ∧ Hid (∀ x ∈ C, 1 ≤ x ∧ x ≤ 100) ∧ Lat W2 wr) (fun _ t _ => mr - (intOf t).toNat)
  case atStart => exact ⟨0, [], Nat.zero_le _, rfl, Own.nil _ _ _ _, rfl, (fun x hx => by cases hx), Lat.refl _⟩
  case round =>
      obtain ⟨j, C, hj, rfl, hown, hCl, hCr, hlr⟩ := hrel
      have hRr' := hRr.later hlr
      by_cases hlt : j < mr
      · obtain ⟨ap, x, rfl, hap, hxk, hcx⟩ := hRr'.at hlt
        have hxr := HRP.out x (HSub.out x (List.mem_of_getElem? hxk))
        have x0 := hxr.1
        have x1 : x < 256 := by have := hxr.2; omega
        have hji : (j : Int) < (mr : Int) := by omega
        obtain ⟨y, hy⟩ : ∃ y, 1 + x % 100 = y := ⟨_, rfl⟩
        have hyr : 1 ≤ y ∧ y ≤ 100 := by omega
        have HYR := Lib.hid hyr
        have hol : C.length + 1 ≤ 17000000000000 := by omega
        have hB := hlr.size
        clear hxr hxk hyr
        go_wp2_with (at_builtin; refine wpList_push rfl _ _ 46 rfl W2.heap.size 3 3 .i64 8 Tryz.underlying46 infoI64 (by decide) _ C [y] _ rfl wr (by rfl) hown 1 rfl (by decide) (by rfl) hol hB ?_; intro v' w1 hown1 hlat1)
        go_roundw
        case rel => exact ⟨j + 1, C ++ [y], by omega, by go_num, hown1, by simp [hCl], (fun z hz => by rw [List.mem_append, List.mem_singleton] at hz; rcases hz with hz | rfl; exact hCr.out z hz; exact HYR.out), hlat1 _ hlr (Nat.le_refl _)⟩
        case measure => simp [intOf]; omega
      · obtain rfl : j = mr := by omega
        obtain ⟨A, c, rfl, hsl, hcap, _⟩ := hown.form
        by_cases h2 : C.length < 2
        · have h2I : (C.length : Int) < 2 := by omega
          go_upto_region 11 with (fail)
          generalize hV : wr.alloc _ = V9
          have kb : Blk V9 wr.heap.size 3 #[.int .i64 3, .int .i64 2] := by rw [← hV]; exact Blk.new _ _ _
          have L9 : Lat wr V9 := by rw [← hV]; exact Lat.alloc _ _
          clear hV
          obtain ⟨A, hA'⟩ : ∃ A', some (⟨wr.heap.size, 0, none⟩ : Addr) = A' := ⟨_, rfl⟩
          have hsl' : Sl V9 .i64 A 2 [3, 2] := by rw [← hA']; exact Sl.of_blk' (t := 3) kb rfl
          have HC' : Hid (BiasC [3, 2]) := (⟨by decide, by decide, fun x hx => by simp at hx; omega⟩ : BiasC [3, 2])
          have hL := hlr.trans L9
          rw [hA']
          clear hA' kb L9 hsl hown hlr hcap hCr h2I h2 hCl
          obtain ⟨C, hC'⟩ : ∃ C', ([3, 2] : List Int) = C' := ⟨_, rfl⟩
          rw [hC'] at hsl' HC'
          have HC := HC'
          clear hC' HC'
          obtain ⟨n, c, e5, hn2, hc2⟩ : ∃ n c : Nat, Value.slice A 2 2 = Value.slice A n c ∧ n = 2 ∧ c = 2 := ⟨2, 2, rfl, rfl, rfl⟩
          rw [e5]
          have hsl : Sl V9 .i64 A n C := by rw [hn2]; exact hsl'
          have hn : C.length = n := hsl.1
          clear e5 hc2 hsl' hn2
          have hB := HC.out
          have hB2 := hB.l2
          have hB8 := hB.l8
          rw [hn] at hB2 hB8
          obtain ⟨H, r, kk, BK⟩ := biasK_ex hB2 hB8 u0
          have q0 := Lib.hid BK.q0
          have q1 := BK.q1
          have q1' := BK.q1'
          have q2 := BK.q2
          have q3 := BK.q3
          have hr := BK.hr
          have q4 := Lib.hid BK.q4
          have q5 := BK.q5
          have q6 := BK.q6
          have hkk := BK.hkk
          have q7 := BK.q7
          have q8 := BK.q8
          have hkn := BK.hk
          have hH := BK.hH
          clear BK
          have hb1 := bias_own hB kk hkn.1 (by rw [hn, hH]; exact hkn.2)
          have HB1 := fun w (h : Sl w .i64 A n C) => fBias_few A n c C A n c C kk w h h (Nat.le_trans hB8 (by decide)) (Nat.le_trans hB8 (by decide)) (Nat.lt_of_le_of_lt (Nat.le_trans (Nat.le_of_eq hn) hB8) (by decide))
          rw [hb1.1, hb1.2, HX1.out] at HB1
          have HK := Lib.hid (show 1 ≤ kk ∧ kk ≤ (C.length / 2 : Nat) by rw [hn, hH]; exact hkn)
          clear hb1 hkn hH hB
          clear hr q1'
          go_wp2_with (refine wpList_val rfl (.int .i64 r) (rem9 _ _ _ q0.out q4.out _ _ _ _ _ (by rfl) (by rfl) (by rfl)) ?_)
          refine (HB1 V9 hsl).mono ?_
          rintro e V0 ⟨rfl, lv⟩
          clear HB1 hkk q0 q1 q2 q3 q4 q5 q6 q7 q8
          have K0 := Blk.new V0 35 #[.int .u64 W8.zero.a0, .int .u64 W8.zero.a1, .int .u64 W8.zero.a2, .int .u64 W8.zero.a3, .int .u64 W8.zero.a4, .int .u64 W8.zero.a5, .int .u64 W8.zero.a6, .int .u64 W8.zero.a7, .int .u64 W8.zero.a0, .int .u64 W8.zero.a1, .int .u64 W8.zero.a2, .int .u64 W8.zero.a3, .int .u64 W8.zero.a4, .int .u64 W8.zero.a5, .int .u64 W8.zero.a6, .int .u64 W8.zero.a7]
          go_wp2_with (refine wpList_put rfl 35 (.tmp 9) (.tmp 55) (by rfl) (by rfl) V0.heap.size (by rfl) Y1.toArray (by rfl) K0 (by rw [z1.out]; rfl) i1.out c1.out ?_; intro U0 hput; have B1 := hput.blk; have m1 := hput.lat V9 (lv.trans (Lat.alloc _ _)) (by have := lv.size; omega))
          have hsl := hsl.later m1
          have hL := hL.trans m1
          clear K0 hput lv m1
          have R9 : ∀ w', Lat U0 w' → w'.rangeAt V0.heap.size 0 Y1 := fun w' hl => (B1.later hl).rangeAll
          have L0 := Lat.drew U0
          refine wp_region_held_drew (S := fun w' => Lat U0 w') (by kernel_rfl) L0 (fun hHeld => ?_)
          generalize U0.drew = T0 at L0 hHeld ⊢
          refine wpAnyH_take (i := 0) (v := .int .i64 0) rfl (by kernel_rfl) (by kernel_rfl) (by kernel_rfl) (fun _ _ _ h => h) (Or.inl ⟨by rfl, by intro w' hS; go_simp⟩) hHeld ?_
          simp only [Act.put, List.getElem_toArray, List.getElem_cons_succ, List.getElem_cons_zero, List.setIfInBounds_toArray, List.set_cons_zero, List.set_cons_succ]
          refine wpAnyH_take (i := 1) (v := .bool false) rfl (by kernel_rfl) (by kernel_rfl) (by kernel_rfl) (fun _ _ _ h => h) (Or.inl ⟨by rfl, by intro w' hS; go_simp⟩) hHeld ?_
          simp only [Act.put, List.getElem_toArray, List.getElem_cons_succ, List.getElem_cons_zero, List.setIfInBounds_toArray, List.set_cons_zero, List.set_cons_succ]
          refine wpAnyH_take (i := 2) (v := .bool false) rfl (by kernel_rfl) (by kernel_rfl) (by kernel_rfl) (fun _ _ _ h => h) (Or.inl ⟨by rfl, by intro w' hS; go_simp⟩) hHeld ?_
          simp only [Act.put, List.getElem_toArray, List.getElem_cons_succ, List.getElem_cons_zero, List.setIfInBounds_toArray, List.set_cons_zero, List.set_cons_succ]
          refine wpAnyH_take (i := 3) (v := .agg Y1.toArray) rfl (by kernel_rfl) (by kernel_rfl) (by kernel_rfl) (fun _ _ _ h => h) (Or.inl ⟨by rfl, fun w' hS => yv_load (S := Lat U0) (by rfl) R9 Tryz.underlying35 rfl J9 _ w' rfl hS⟩) hHeld ?_
          simp only [Act.put, List.getElem_toArray, List.getElem_cons_succ, List.getElem_cons_zero, List.setIfInBounds_toArray, List.set_cons_zero, List.set_cons_succ]
          refine wpAnyH_ready (rs := [4]) (by kernel_rfl) (by simp) (AllReadyH.cons rfl (fun K hK => ?_) AllReadyH.nil)
          rw [if_pos (by rfl)]
          go_simp
          refine (HF _).mono ?_
          rintro e T1 ⟨rfl, lg⟩
          have L1 := L0.trans lg
          refine hK.out _ _ L1 (fun hHeld1 => ?_)
          clear hK K
          try simp only [Act.put, List.getElem_toArray, List.getElem_cons_succ, List.getElem_cons_zero, List.setIfInBounds_toArray, List.set_cons_zero, List.set_cons_succ]
          refine wpAnyH_take (i := 5) (v := .bool false) rfl (by kernel_rfl) (by kernel_rfl) (by kernel_rfl) (fun _ _ _ h => h) (Or.inl ⟨by rfl, fun w' hS => yv_bin (S := fun _ => True) (by rfl) (by rfl) hgd.out NP _ w' rfl trivial⟩) hHeld1 ?_
          simp only [Act.put, List.getElem_toArray, List.getElem_cons_succ, List.getElem_cons_zero, List.setIfInBounds_toArray, List.set_cons_zero, List.set_cons_succ]
          refine wpAnyH_take (i := 6) (v := .bool false) rfl (by kernel_rfl) (by kernel_rfl) (by kernel_rfl) (fun _ _ _ h => h) (Or.inl ⟨by rfl, by intro w' hS; go_simp⟩) hHeld1 ?_
          simp only [Act.put, List.getElem_toArray, List.getElem_cons_succ, List.getElem_cons_zero, List.setIfInBounds_toArray, List.set_cons_zero, List.set_cons_succ]
          refine wpAnyH_done (by kernel_rfl) ?_ _
          go_upto_region 17 with (fail)
          have hL := hL.trans L1
          have hsl := hsl.later L1
          clear hHeld hHeld1 R9 B1 L0
          have hnI : (n : Int) ≤ 8 := by omega
          go_loopw [11, 66] (fun v t wr => ∃ (j l : Nat), j ≤ n ∧ t = .int .i64 j ∧ v = .int .i64 l ∧ Hid (LeastIs C j l) ∧ (l < j ∨ (j = 0 ∧ l = 0)) ∧ l < n ∧ wr = T1) (fun _ t _ => n - (intOf t).toNat)
          case atStart => exact ⟨0, 0, Nat.zero_le _, rfl, rfl, least_start (by omega), .inr ⟨rfl, rfl⟩, by omega, rfl⟩
          case round =>
            obtain ⟨j, l, hj, rfl, rfl, hLe, hlj, hln, rfl⟩ := hrel
            by_cases hlt : j < n
            · obtain ⟨ap, x, rfl, hap, hxk, hcx⟩ := hsl.at hlt
              obtain ⟨ap2, y, hapE, _, hyk, hcy⟩ := hsl.at hln
              cases hapE
              have hji : (j : Int) < (n : Int) := by omega
              have hli : (l : Int) < (n : Int) := by omega
              have ex : atI C j = x := by simp [atI, hxk]
              have ey : atI C l = y := by simp [atI, hyk]
              by_cases hle : x ≤ y
              · have HN := Lib.hid (least_new hLe.out (by rw [hn]; exact hlt) (hlj.elim .inr (fun h => .inl h.1)) (by rw [ex, ey]; exact hle))
                clear hxk hyk ex ey hsl hB2 hB8 HK hLe
                go_wp2
                go_roundw
                case rel => exact ⟨j + 1, j, by omega, by go_num, rfl, HN.out, .inl (by omega), by omega, trivial⟩
                case measure => simp [intOf]; omega
              · have HN := Lib.hid (least_old hLe.out (by rw [ex, ey]; exact hle))
                clear hxk hyk ex ey hsl hB2 hB8 HK hLe
                go_wp2
                go_roundw
                case rel => exact ⟨j + 1, l, by omega, by go_num, rfl, HN.out, .inl (by omega), by omega, trivial⟩
                case measure => simp [intOf]; omega
            · obtain rfl : j = n := by omega
              obtain ⟨m, hm⟩ : ∃ m, atI C l = m := ⟨_, rfl⟩
              have hml : C[l]? = some m := by
                have h1 : l < C.length := by rw [hn]; exact hln
                rw [← hm, atI_get h1]; exact List.getElem?_eq_getElem h1
              have hmr := HC.out.rng m (List.mem_of_getElem? hml)
              have HLe : Hid (LeastIs C C.length l) := by show LeastIs _ _ _; rw [hn]; exact hLe.out
              have HCl := fun w (h : Sl w .i64 A j C) => clone9_any A j c C w h (by omega) (Nat.le_trans hB8 (by decide))
              have HM := Lib.hid hm
              have HML := Lib.hid hml
              have m0 := hmr.1
              have m9 := hmr.2
              have hli : (l : Int) < (j : Int) := by omega
              clear hj hlt hlj hLe hm hml hmr hB2 hnI
              go_wp2_with fail
              refine (HCl wr hsl).mono ?_
              rintro e V3 ⟨g, c', rfl, row, hg, lv⟩
              have e0 := row.cell HML.out
              have f0 := row.frozen l
              clear HCl
              have L3 := hL.trans lv
              have hgl := hg
              have hm2 : wrap64 (m - 1) = m - 1 := IntWalk.wrap64_in _ ⟨by omega, by omega⟩
              go_upto_region 24 with (fail)
              generalize hV4 : V3.setCell _ _ = V4
              have row4 : RowI V4 g j (C.set l (m - 1)) := by rw [← hV4]; exact row.set l (m - 1)
              have hlC : l < C.length := by rw [hn]; exact hln
              have e4 : V4.cell? ⟨g, l, none⟩ = some (.int .i64 (m - 1)) := row4.cell (by rw [List.getElem?_set_self hlC])
              have L34 : Lat wr V4 := by rw [← hV4]; exact Lat.setCell lv hg _
              have hsl := hsl.later L34
              clear hV4 row e0 f0 L3 lv hm2
              by_cases hm1 : m = 1
              · have hz : (m - 1 == 0) = true := by simp [hm1]
                go_wp2
                go_ret
                exact ⟨rfl, (l2.trans hL).trans L34⟩
              · have hz : (m - 1 == 0) = false := by rw [beq_eq_false_iff_ne]; omega
                have hbw := bias_won HC.out (l := l) HLe.out (by rw [HM.out]; omega) kk HK.out.1 HK.out.2
                rw [HM.out] at hbw
                obtain ⟨N, Dd, hF, hN0, hX2, hE2⟩ := hbw
                have HB2 := fun w (h : Sl w .i64 A j C) (h' : Sl w .i64 (some ⟨g, 0, none⟩) j (C.set l (m - 1))) => fBias_few A j c C (some ⟨g, 0, none⟩) j c' (C.set l (m - 1)) kk w h h' (Nat.le_trans hB8 (by decide)) (Nat.le_trans hB8 (by decide)) (Nat.lt_of_le_of_lt (Nat.le_trans (Nat.le_of_eq hn) hB8) (by decide))
                rw [hX2, hE2] at HB2
                have HS := fun w => shSignX hF w
                have hsd : sideOf N = 1 := by unfold sideOf; rw [if_neg (by omega), if_neg (by omega)]
                rw [hsd] at HS
                have GZ := shA_good N Dd
                obtain ⟨Z, hZ⟩ : ∃ Z, shA N Dd = Z := ⟨_, rfl⟩
                rw [hZ] at HB2 HS GZ
                have z2 := Lib.hid GZ.1
                have c2 := Lib.hid GZ.2.1
                have i2 := Lib.hid GZ.info
                clear GZ hZ hF hX2 hE2 hsd hm1
                go_wp2_with fail
                refine (HB2 V4 hsl row4.sl).mono ?_
                rintro e V5 ⟨rfl, lv⟩
                clear HB2
                have K0 := Blk.new V5 35 #[.int .u64 W8.zero.a0, .int .u64 W8.zero.a1, .int .u64 W8.zero.a2, .int .u64 W8.zero.a3, .int .u64 W8.zero.a4, .int .u64 W8.zero.a5, .int .u64 W8.zero.a6, .int .u64 W8.zero.a7, .int .u64 W8.zero.a0, .int .u64 W8.zero.a1, .int .u64 W8.zero.a2, .int .u64 W8.zero.a3, .int .u64 W8.zero.a4, .int .u64 W8.zero.a5, .int .u64 W8.zero.a6, .int .u64 W8.zero.a7]
                go_wp2_with (first
                  | (refine wpList_put rfl 35 (.tmp 15) (.tmp 97) (by rfl) (by rfl) V5.heap.size (by rfl) Z (by rfl) K0 (by rw [z2.out]; rfl) i2.out c2.out ?_; intro U5 hput; have B5 := hput.blk; have m5 := hput.lat V4 (lv.trans (Lat.alloc _ _)) (by have := lv.size; omega))
                  | (refine wpList_get (by rfl) 35 (.tmp 15) (by rfl) _ (by rfl) B5 _ Tryz.underlying35 rfl i2.out ?_))
                refine (HS U5).mono ?_
                rintro e U6 ⟨rfl, ls⟩
                go_wp2
                go_ret
                exact ⟨rfl, (((l2.trans hL).trans L34).trans m5).trans ls⟩
        · have h2I : ¬ (C.length : Int) < 2 := by omega
          have HC : Hid (BiasC C) := (⟨by omega, by omega, hCr.out⟩ : BiasC C)
          obtain ⟨n, hn⟩ : ∃ n, C.length = n := ⟨_, rfl⟩
          go_upto_region 11 with (fail)
          rw [hn] at hsl hcap h2I ⊢
          have V9 := wr
          obtain ⟨V9, hV9⟩ : ∃ V, V = wr := ⟨_, rfl⟩
          rw [← hV9] at hsl ⊢
          have hL : Lat W2 V9 := by rw [hV9]; exact hlr
          clear hown hV9 hlr hcap
          have hB := HC.out
          have hB2 := hB.l2
          have hB8 := hB.l8
          rw [hn] at hB2 hB8
          obtain ⟨H, r, kk, BK⟩ := biasK_ex hB2 hB8 u0
          have q0 := Lib.hid BK.q0
          have q1 := BK.q1
          have q1' := BK.q1'
          have q2 := BK.q2
          have q3 := BK.q3
          have hr := BK.hr
          have q4 := Lib.hid BK.q4
          have q5 := BK.q5
          have q6 := BK.q6
          have hkk := BK.hkk
          have q7 := BK.q7
          have q8 := BK.q8
          have hkn := BK.hk
          have hH := BK.hH
          clear BK
          have hb1 := bias_own hB kk hkn.1 (by rw [hn, hH]; exact hkn.2)
          have HB1 := fun w (h : Sl w .i64 A n C) => fBias_few A n c C A n c C kk w h h (Nat.le_trans hB8 (by decide)) (Nat.le_trans hB8 (by decide)) (Nat.lt_of_le_of_lt (Nat.le_trans (Nat.le_of_eq hn) hB8) (by decide))
          rw [hb1.1, hb1.2, HX1.out] at HB1
          have HK := Lib.hid (show 1 ≤ kk ∧ kk ≤ (C.length / 2 : Nat) by rw [hn, hH]; exact hkn)
          clear hb1 hkn hH hB
          clear hr q1'
          go_wp2_with (refine wpList_val rfl (.int .i64 r) (rem9 _ _ _ q0.out q4.out _ _ _ _ _ (by rfl) (by rfl) (by rfl)) ?_)
          refine (HB1 V9 hsl).mono ?_
          rintro e V0 ⟨rfl, lv⟩
          clear HB1 hkk q0 q1 q2 q3 q4 q5 q6 q7 q8
          have K0 := Blk.new V0 35 #[.int .u64 W8.zero.a0, .int .u64 W8.zero.a1, .int .u64 W8.zero.a2, .int .u64 W8.zero.a3, .int .u64 W8.zero.a4, .int .u64 W8.zero.a5, .int .u64 W8.zero.a6, .int .u64 W8.zero.a7, .int .u64 W8.zero.a0, .int .u64 W8.zero.a1, .int .u64 W8.zero.a2, .int .u64 W8.zero.a3, .int .u64 W8.zero.a4, .int .u64 W8.zero.a5, .int .u64 W8.zero.a6, .int .u64 W8.zero.a7]
          go_wp2_with (refine wpList_put rfl 35 (.tmp 9) (.tmp 55) (by rfl) (by rfl) V0.heap.size (by rfl) Y1.toArray (by rfl) K0 (by rw [z1.out]; rfl) i1.out c1.out ?_; intro U0 hput; have B1 := hput.blk; have m1 := hput.lat V9 (lv.trans (Lat.alloc _ _)) (by have := lv.size; omega))
          have hsl := hsl.later m1
          have hL := hL.trans m1
          clear K0 hput lv m1
          have R9 : ∀ w', Lat U0 w' → w'.rangeAt V0.heap.size 0 Y1 := fun w' hl => (B1.later hl).rangeAll
          have L0 := Lat.drew U0
          refine wp_region_held_drew (S := fun w' => Lat U0 w') (by kernel_rfl) L0 (fun hHeld => ?_)
          generalize U0.drew = T0 at L0 hHeld ⊢
          refine wpAnyH_take (i := 0) (v := .int .i64 0) rfl (by kernel_rfl) (by kernel_rfl) (by kernel_rfl) (fun _ _ _ h => h) (Or.inl ⟨by rfl, by intro w' hS; go_simp⟩) hHeld ?_
          simp only [Act.put, List.getElem_toArray, List.getElem_cons_succ, List.getElem_cons_zero, List.setIfInBounds_toArray, List.set_cons_zero, List.set_cons_succ]
          refine wpAnyH_take (i := 1) (v := .bool false) rfl (by kernel_rfl) (by kernel_rfl) (by kernel_rfl) (fun _ _ _ h => h) (Or.inl ⟨by rfl, by intro w' hS; go_simp⟩) hHeld ?_
          simp only [Act.put, List.getElem_toArray, List.getElem_cons_succ, List.getElem_cons_zero, List.setIfInBounds_toArray, List.set_cons_zero, List.set_cons_succ]
          refine wpAnyH_take (i := 2) (v := .bool false) rfl (by kernel_rfl) (by kernel_rfl) (by kernel_rfl) (fun _ _ _ h => h) (Or.inl ⟨by rfl, by intro w' hS; go_simp⟩) hHeld ?_
          simp only [Act.put, List.getElem_toArray, List.getElem_cons_succ, List.getElem_cons_zero, List.setIfInBounds_toArray, List.set_cons_zero, List.set_cons_succ]
          refine wpAnyH_take (i := 3) (v := .agg Y1.toArray) rfl (by kernel_rfl) (by kernel_rfl) (by kernel_rfl) (fun _ _ _ h => h) (Or.inl ⟨by rfl, fun w' hS => yv_load (S := Lat U0) (by rfl) R9 Tryz.underlying35 rfl J9 _ w' rfl hS⟩) hHeld ?_
          simp only [Act.put, List.getElem_toArray, List.getElem_cons_succ, List.getElem_cons_zero, List.setIfInBounds_toArray, List.set_cons_zero, List.set_cons_succ]
          refine wpAnyH_ready (rs := [4]) (by kernel_rfl) (by simp) (AllReadyH.cons rfl (fun K hK => ?_) AllReadyH.nil)
          rw [if_pos (by rfl)]
          go_simp
          refine (HF _).mono ?_
          rintro e T1 ⟨rfl, lg⟩
          have L1 := L0.trans lg
          refine hK.out _ _ L1 (fun hHeld1 => ?_)
          clear hK K
          try simp only [Act.put, List.getElem_toArray, List.getElem_cons_succ, List.getElem_cons_zero, List.setIfInBounds_toArray, List.set_cons_zero, List.set_cons_succ]
          refine wpAnyH_take (i := 5) (v := .bool false) rfl (by kernel_rfl) (by kernel_rfl) (by kernel_rfl) (fun _ _ _ h => h) (Or.inl ⟨by rfl, fun w' hS => yv_bin (S := fun _ => True) (by rfl) (by rfl) hgd.out NP _ w' rfl trivial⟩) hHeld1 ?_
          simp only [Act.put, List.getElem_toArray, List.getElem_cons_succ, List.getElem_cons_zero, List.setIfInBounds_toArray, List.set_cons_zero, List.set_cons_succ]
          refine wpAnyH_take (i := 6) (v := .bool false) rfl (by kernel_rfl) (by kernel_rfl) (by kernel_rfl) (fun _ _ _ h => h) (Or.inl ⟨by rfl, by intro w' hS; go_simp⟩) hHeld1 ?_
          simp only [Act.put, List.getElem_toArray, List.getElem_cons_succ, List.getElem_cons_zero, List.setIfInBounds_toArray, List.set_cons_zero, List.set_cons_succ]
          refine wpAnyH_done (by kernel_rfl) ?_ _
          go_upto_region 17 with (fail)
          have hL := hL.trans L1
          have hsl := hsl.later L1
          clear hHeld hHeld1 R9 B1 L0
          have hnI : (n : Int) ≤ 8 := by omega
          go_loopw [11, 66] (fun v t wr => ∃ (j l : Nat), j ≤ n ∧ t = .int .i64 j ∧ v = .int .i64 l ∧ Hid (LeastIs C j l) ∧ (l < j ∨ (j = 0 ∧ l = 0)) ∧ l < n ∧ wr = T1) (fun _ t _ => n - (intOf t).toNat)
          case atStart => exact ⟨0, 0, Nat.zero_le _, rfl, rfl, least_start (by omega), .inr ⟨rfl, rfl⟩, by omega, rfl⟩
          case round =>
            obtain ⟨j, l, hj, rfl, rfl, hLe, hlj, hln, rfl⟩ := hrel
            by_cases hlt : j < n
            · obtain ⟨ap, x, rfl, hap, hxk, hcx⟩ := hsl.at hlt
              obtain ⟨ap2, y, hapE, _, hyk, hcy⟩ := hsl.at hln
              cases hapE
              have hji : (j : Int) < (n : Int) := by omega
              have hli : (l : Int) < (n : Int) := by omega
              have ex : atI C j = x := by simp [atI, hxk]
              have ey : atI C l = y := by simp [atI, hyk]
              by_cases hle : x ≤ y
              · have HN := Lib.hid (least_new hLe.out (by rw [hn]; exact hlt) (hlj.elim .inr (fun h => .inl h.1)) (by rw [ex, ey]; exact hle))
                clear hxk hyk ex ey hsl hB2 hB8 HK hLe
                go_wp2
                go_roundw
                case rel => exact ⟨j + 1, j, by omega, by go_num, rfl, HN.out, .inl (by omega), by omega, trivial⟩
                case measure => simp [intOf]; omega
              · have HN := Lib.hid (least_old hLe.out (by rw [ex, ey]; exact hle))
                clear hxk hyk ex ey hsl hB2 hB8 HK hLe
                go_wp2
                go_roundw
                case rel => exact ⟨j + 1, l, by omega, by go_num, rfl, HN.out, .inl (by omega), by omega, trivial⟩
                case measure => simp [intOf]; omega
            · obtain rfl : j = n := by omega
              obtain ⟨m, hm⟩ : ∃ m, atI C l = m := ⟨_, rfl⟩
              have hml : C[l]? = some m := by
                have h1 : l < C.length := by rw [hn]; exact hln
                rw [← hm, atI_get h1]; exact List.getElem?_eq_getElem h1
              have hmr := HC.out.rng m (List.mem_of_getElem? hml)
              have HLe : Hid (LeastIs C C.length l) := by show LeastIs _ _ _; rw [hn]; exact hLe.out
              have HCl := fun w (h : Sl w .i64 A j C) => clone9_any A j c C w h (by omega) (Nat.le_trans hB8 (by decide))
              have HM := Lib.hid hm
              have HML := Lib.hid hml
              have m0 := hmr.1
              have m9 := hmr.2
              have hli : (l : Int) < (j : Int) := by omega
              clear hj hlt hlj hLe hm hml hmr hB2 hnI
              go_wp2_with fail
              refine (HCl wr hsl).mono ?_
              rintro e V3 ⟨g, c', rfl, row, hg, lv⟩
              have e0 := row.cell HML.out
              have f0 := row.frozen l
              clear HCl
              have L3 := hL.trans lv
              have hgl := hg
              have hm2 : wrap64 (m - 1) = m - 1 := IntWalk.wrap64_in _ ⟨by omega, by omega⟩
              go_upto_region 24 with (fail)
              generalize hV4 : V3.setCell _ _ = V4
              have row4 : RowI V4 g j (C.set l (m - 1)) := by rw [← hV4]; exact row.set l (m - 1)
              have hlC : l < C.length := by rw [hn]; exact hln
              have e4 : V4.cell? ⟨g, l, none⟩ = some (.int .i64 (m - 1)) := row4.cell (by rw [List.getElem?_set_self hlC])
              have L34 : Lat wr V4 := by rw [← hV4]; exact Lat.setCell lv hg _
              have hsl := hsl.later L34
              clear hV4 row e0 f0 L3 lv hm2
              by_cases hm1 : m = 1
              · have hz : (m - 1 == 0) = true := by simp [hm1]
                go_wp2
                go_ret
                exact ⟨rfl, (l2.trans hL).trans L34⟩
              · have hz : (m - 1 == 0) = false := by rw [beq_eq_false_iff_ne]; omega
                have hbw := bias_won HC.out (l := l) HLe.out (by rw [HM.out]; omega) kk HK.out.1 HK.out.2
                rw [HM.out] at hbw
                obtain ⟨N, Dd, hF, hN0, hX2, hE2⟩ := hbw
                have HB2 := fun w (h : Sl w .i64 A j C) (h' : Sl w .i64 (some ⟨g, 0, none⟩) j (C.set l (m - 1))) => fBias_few A j c C (some ⟨g, 0, none⟩) j c' (C.set l (m - 1)) kk w h h' (Nat.le_trans hB8 (by decide)) (Nat.le_trans hB8 (by decide)) (Nat.lt_of_le_of_lt (Nat.le_trans (Nat.le_of_eq hn) hB8) (by decide))
                rw [hX2, hE2] at HB2
                have HS := fun w => shSignX hF w
                have hsd : sideOf N = 1 := by unfold sideOf; rw [if_neg (by omega), if_neg (by omega)]
                rw [hsd] at HS
                have GZ := shA_good N Dd
                obtain ⟨Z, hZ⟩ : ∃ Z, shA N Dd = Z := ⟨_, rfl⟩
                rw [hZ] at HB2 HS GZ
                have z2 := Lib.hid GZ.1
                have c2 := Lib.hid GZ.2.1
                have i2 := Lib.hid GZ.info
                clear GZ hZ hF hX2 hE2 hsd hm1
                go_wp2_with fail
                refine (HB2 V4 hsl row4.sl).mono ?_
                rintro e V5 ⟨rfl, lv⟩
                clear HB2
                have K0 := Blk.new V5 35 #[.int .u64 W8.zero.a0, .int .u64 W8.zero.a1, .int .u64 W8.zero.a2, .int .u64 W8.zero.a3, .int .u64 W8.zero.a4, .int .u64 W8.zero.a5, .int .u64 W8.zero.a6, .int .u64 W8.zero.a7, .int .u64 W8.zero.a0, .int .u64 W8.zero.a1, .int .u64 W8.zero.a2, .int .u64 W8.zero.a3, .int .u64 W8.zero.a4, .int .u64 W8.zero.a5, .int .u64 W8.zero.a6, .int .u64 W8.zero.a7]
                go_wp2_with (first
                  | (refine wpList_put rfl 35 (.tmp 15) (.tmp 97) (by rfl) (by rfl) V5.heap.size (by rfl) Z (by rfl) K0 (by rw [z2.out]; rfl) i2.out c2.out ?_; intro U5 hput; have B5 := hput.blk; have m5 := hput.lat V4 (lv.trans (Lat.alloc _ _)) (by have := lv.size; omega))
                  | (refine wpList_get (by rfl) 35 (.tmp 15) (by rfl) _ (by rfl) B5 _ Tryz.underlying35 rfl i2.out ?_))
                refine (HS U5).mono ?_
                rintro e U6 ⟨rfl, ls⟩
                go_wp2
                go_ret
                exact ⟨rfl, (((l2.trans hL).trans L34).trans m5).trans ls⟩
end Go.Proofs.YtkiaaefkobfkgaaGreat
