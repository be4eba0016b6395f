/- Several texts in one: LotsA, LotsB, LotsC, LotsD, LotsE, LotsF, LotsG, LotsH, LotsI, LotsJ, LotsK. -/
import Derived.Test.YteocdndanehpnaaGreatH16
namespace Go.Proofs.YteocdndanehpnaaGreat
def geC (l : List Int) (r : Int) : Nat := l.countP (fun x => decide (r ≤ x))
def gtC (l : List Int) (r : Int) : Nat := l.countP (fun x => decide (r < x))
def sureR (l : List Int) (k : Nat) (r : Int) : Prop := geC l r ≤ k
def tiedR (l : List Int) (k : Nat) (r : Int) : Prop := gtC l r < k ∧ k < geC l r
theorem geC_perm {l m : List Int} (h : l.Perm m) (r : Int) : geC l r = geC m r := h.countP_eq _
theorem gtC_perm {l m : List Int} (h : l.Perm m) (r : Int) : gtC l r = gtC m r := h.countP_eq _
theorem le_count {p : Int → Bool} : ∀ {l : List Int} {a : Nat}, a ≤ l.length → (∀ j (hj : j < l.length), j < a → p l[j] = true) → a ≤ l.countP p
 | _, 0, _, _ => Nat.zero_le _
 | x :: l, a + 1, ha, h => by
   have h0 := h 0 (by simp) (by omega)
   have h1 := le_count (p := p) (l := l) (a := a) (by simpa using ha) (fun j hj hja => h (j + 1) (by simpa using hj) (by omega))
   simp only [List.getElem_cons_zero] at h0
   rw [List.countP_cons, if_pos h0]
   omega
theorem count_le {p : Int → Bool} : ∀ {l : List Int} {a : Nat}, (∀ j (hj : j < l.length), a ≤ j → p l[j] = false) → l.countP p ≤ a
 | [], _, _ => by simp
 | x :: l, 0, h => by
   have h0 := h 0 (by simp) (by omega)
   have h1 := count_le (p := p) (l := l) (a := 0) (fun j hj _ => h (j + 1) (by simpa using hj) (by omega))
   simp only [List.getElem_cons_zero] at h0
   rw [List.countP_cons, if_neg (by rw [h0]; decide)]
   omega
 | x :: l, a + 1, h => by
   have h1 := count_le (p := p) (l := l) (a := a) (fun j hj hja => h (j + 1) (by simpa using hj) (by omega))
   rw [List.countP_cons]
   split <;> omega
theorem desc_le {l : List Int} (hs : l.Pairwise (fun a b => b ≤ a)) {i j : Nat} (hi : i < l.length) (hj : j < l.length) (h : i ≤ j) : l[j] ≤ l[i] := by
 rcases Nat.lt_or_eq_of_le h with h1 | h1
 ·exact List.pairwise_iff_getElem.1 hs i j hi hj h1
 ·subst h1; exact Int.le_refl _
theorem sorted_cut {l : List Int} (hs : l.Pairwise (fun a b => b ≤ a)) {k : Nat} (hk : k ≤ l.length)
  (hn : ∀ h : k < l.length, ∀ h0 : 0 < k, l[k] ≠ l[k - 1]) (j : Nat) (hj : j < l.length) :
  (sureR l k l[j] ↔ j < k) ∧ ¬ tiedR l k l[j] := by
 unfold sureR tiedR
 rcases Nat.lt_or_ge j k with h | h
 ·have h1 : geC l l[j] ≤ k := by
   refine count_le fun i hi hki => ?_
   have hkl : k < l.length := by omega
   have a1 := desc_le hs hkl hi hki
   have a2 := desc_le hs hj (show k - 1 < l.length by omega) (by omega)
   have a3 := desc_le hs (show k - 1 < l.length by omega) hkl (by omega)
   have a4 := hn hkl (by omega)
   simp only [decide_eq_false_iff_not]
   omega
  exact ⟨⟨fun _ => h, fun _ => h1⟩, by omega⟩
 ·have h1 : j + 1 ≤ geC l l[j] := by
   refine le_count (by omega) fun i hi hij => ?_
   have := desc_le hs hi hj (by omega)
   simpa using this
  have h2 : k ≤ gtC l l[j] := by
   refine le_count hk fun i hi hik => ?_
   have hkl : k < l.length := by omega
   have a1 := desc_le hs hkl hj h
   have a2 := desc_le hs hi (show k - 1 < l.length by omega) (by omega)
   have a3 := desc_le hs (show k - 1 < l.length by omega) hkl (by omega)
   have a4 := hn hkl (by omega)
   simp only [decide_eq_true_iff]
   omega
  exact ⟨⟨fun h3 => by omega, fun h3 => by omega⟩, by omega⟩
theorem sorted_tie {l : List Int} (hs : l.Pairwise (fun a b => b ≤ a)) {k f : Nat} (hk : k < l.length) (h0 : 0 < k) (he : l[k] = l[k - 1])
  (hf : f < l.length) (hft : l[f] = l[k]) (hfm : ∀ i (hi : i < l.length), i < f → l[i] ≠ l[k]) :
  f < k ∧ gtC l l[k] = f ∧ ∀ j (hj : j < l.length), (sureR l k l[j] ↔ j < f) ∧ (tiedR l k l[j] ↔ l[j] = l[k]) := by
 have hfk : f < k := by
  rcases Nat.lt_or_ge f k with h | h
  ·exact h
  ·exact absurd he.symm (hfm (k - 1) (by omega) (by omega))
 have ge_k : k + 1 ≤ geC l l[k] := by
  refine le_count (by omega) fun i hi hik => ?_
  have := desc_le hs hi hk (by omega)
  simpa using this
 have before : ∀ i (hi : i < l.length), i < f → l[k] < l[i] := by
  intro i hi hif
  have a1 := desc_le hs hi hf (by omega)
  have a2 := hfm i hi hif
  omega
 have behind : ∀ i (hi : i < l.length), f ≤ i → l[i] ≤ l[k] := by
  intro i hi hif
  have a1 := desc_le hs hf hi hif
  omega
 have gt_k : gtC l l[k] = f := by
  refine Nat.le_antisymm (count_le fun i hi hfi => ?_) (le_count (by omega) fun i hi hif => ?_)
  ·have := behind i hi hfi
   simp only [decide_eq_false_iff_not]
   omega
  ·have := before i hi hif
   simpa using this
 refine ⟨hfk, gt_k, fun j hj => ?_⟩
 unfold sureR tiedR
 rcases Int.lt_trichotomy l[j] l[k] with h | h | h
 ·have hjf : ¬ j < f := fun hjf => by have := before j hj hjf; omega
  have h1 : k + 1 ≤ gtC l l[j] := by
   refine le_count (by omega) fun i hi hik => ?_
   have := desc_le hs hi hk (by omega)
   simp only [decide_eq_true_iff]
   omega
  have h2 : gtC l l[j] ≤ geC l l[j] := List.countP_mono_left fun x _ hx => by simp only [decide_eq_true_iff] at hx ⊢; omega
  exact ⟨⟨fun h3 => by omega, fun h3 => absurd h3 hjf⟩, ⟨fun h3 => by omega, fun h3 => by omega⟩⟩
 ·have hjf : ¬ j < f := fun hjf => by have := before j hj hjf; omega
  rw [h, gt_k]
  exact ⟨⟨fun h3 => by omega, fun h3 => absurd h3 hjf⟩, ⟨fun _ => rfl, fun _ => ⟨hfk, by omega⟩⟩⟩
 ·have hjf : j < f := by
   rcases Nat.lt_or_ge j f with h1 | h1
   ·exact h1
   ·have := behind j hj h1
    omega
  have h1 : geC l l[j] ≤ f := by
   refine count_le fun i hi hfi => ?_
   have := behind i hi hfi
   simp only [decide_eq_false_iff_not]
   omega
  exact ⟨⟨fun _ => hjf, fun _ => by omega⟩, ⟨fun h3 => by omega, fun h3 => by omega⟩⟩
end Go.Proofs.YteocdndanehpnaaGreat
namespace Go.Proofs.YteocdndanehpnaaGreat
def topR (R : Nat → Int) (l : List Nat) : Int := l.foldl (fun b i => max b (R i)) (-1)
theorem foldl_max (R : Nat → Int) (l : List Nat) : ∀ b : Int, b ≤ l.foldl (fun b i => max b (R i)) b ∧ (∀ i ∈ l, R i ≤ l.foldl (fun b i => max b (R i)) b) ∧
  (l.foldl (fun b i => max b (R i)) b = b ∨ ∃ i ∈ l, l.foldl (fun b i => max b (R i)) b = R i) := by
 induction l with
 | nil => intro b; simp
 | cons x r ih =>
   intro b
   obtain ⟨h1, h2, h3⟩ := ih (max b (R x))
   simp only [List.foldl_cons]
   refine ⟨by omega, ?_, ?_⟩
   ·intro i hi
    rcases List.mem_cons.1 hi with rfl | hi
    ·omega
    ·exact h2 i hi
   ·rcases h3 with h3 | ⟨i, hi, h3⟩
    ·rcases Int.le_total b (R x) with h4 | h4
     ·exact .inr ⟨x, by simp, by rw [h3]; omega⟩
     ·exact .inl (by rw [h3]; omega)
    ·exact .inr ⟨i, by simp [hi], h3⟩
theorem topR_ge {R : Nat → Int} {l : List Nat} {i : Nat} (h : i ∈ l) : R i ≤ topR R l := (foldl_max R l (-1)).2.1 i h
theorem topR_mem {R : Nat → Int} {l : List Nat} (hl : l ≠ []) (h0 : ∀ i ∈ l, 0 ≤ R i) : ∃ i ∈ l, topR R l = R i := by
 rcases (foldl_max R l (-1)).2.2 with h | h
 ·cases l with
  | nil => exact absurd rfl hl
  | cons x r =>
    have h1 := topR_ge (R := R) (l := x :: r) (i := x) (by simp)
    have h2 := h0 x (by simp)
    change topR R (x :: r) = -1 at h
    omega
 ·exact h
def lots (R : Nat → Int) : Nat → List Nat → Nat → List Nat × List Nat × Nat
 | 0, _, _ => ([], [], 0)
 | fuel + 1, l, k =>
   if k = 0 then ([], [], 0)
   else
    let same := l.filter (fun i => decide (R i = topR R l))
    if k < same.length then ([], same, k)
    else
     let r := lots R fuel (l.filter (fun i => decide (R i ≠ topR R l))) (k - same.length)
     (same ++ r.1, r.2.1, r.2.2)
theorem count_split (R : Nat → Int) (l : List Nat) (T : Int) (p : Int → Bool) :
  (l.map R).countP p = ((l.filter (fun i => decide (R i = T))).map R).countP p + ((l.filter (fun i => decide (R i ≠ T))).map R).countP p := by
 induction l with
 | nil => rfl
 | cons x r ih =>
   by_cases h : R x = T
   ·simp only [List.filter_cons, h, ne_eq, not_true, decide_true, decide_false, if_true, List.map_cons, List.countP_cons] at ih ⊢
    simp at ih ⊢
    omega
   ·simp only [List.filter_cons, h, ne_eq, not_false_iff, decide_true, decide_false, if_true, List.map_cons, List.countP_cons] at ih ⊢
    simp at ih ⊢
    omega
theorem count_same (R : Nat → Int) (l : List Nat) (T : Int) (p : Int → Bool) :
  ((l.filter (fun i => decide (R i = T))).map R).countP p = if p T then (l.filter (fun i => decide (R i = T))).length else 0 := by
 have h : ∀ x ∈ (l.filter (fun i => decide (R i = T))).map R, x = T := by
  intro x hx
  obtain ⟨i, hi, rfl⟩ := List.mem_map.1 hx
  simpa using (List.mem_filter.1 hi).2
 split
 ·rename_i hp
  rw [← List.length_map (f := R), List.countP_eq_length]
  intro x hx
  rw [h x hx]; exact hp
 ·rename_i hp
  rw [List.countP_eq_zero]
  intro x hx
  rw [h x hx]; exact hp
theorem lots_ok (R : Nat → Int) : ∀ (fuel : Nat) (l : List Nat) (k : Nat), l.length ≤ fuel → k ≤ l.length → (∀ i ∈ l, 0 ≤ R i) →
  (∀ i ∈ l, (i ∈ (lots R fuel l k).1 ↔ sureR (l.map R) k (R i)) ∧ (i ∈ (lots R fuel l k).2.1 ↔ tiedR (l.map R) k (R i)) ∧
    (tiedR (l.map R) k (R i) → (lots R fuel l k).2.2 = k - gtC (l.map R) (R i))) ∧
  (∀ i ∈ (lots R fuel l k).1, i ∈ l) ∧ (lots R fuel l k).2.1.Sublist l ∧ ((lots R fuel l k).2.1 = [] → (lots R fuel l k).2.2 = 0) := by
 intro fuel
 induction fuel with
 | zero =>
   intro l k hl hk h0
   have : l = [] := List.eq_nil_of_length_eq_zero (by omega)
   subst this
   simp [lots]
 | succ fuel ih =>
   intro l k hl hk h0
   by_cases hk0 : k = 0
   ·subst hk0
    have e : lots R (fuel + 1) l 0 = ([], [], 0) := by simp [lots]
    rw [e]
    refine ⟨fun i hi => ⟨⟨fun h => by simp at h, fun h => ?_⟩, ⟨fun h => by simp at h, fun h => ?_⟩, fun h => ?_⟩, by simp, by simp, fun _ => rfl⟩
    ·exfalso
     have : 0 < geC (l.map R) (R i) := List.countP_pos_iff.2 ⟨R i, List.mem_map_of_mem hi, by simp⟩
     unfold sureR at h
     omega
    ·unfold tiedR at h; omega
    ·unfold tiedR at h; omega
   have hne : l ≠ [] := by intro e; subst e; simp at hk; omega
   obtain ⟨m, hm, hmT⟩ := topR_mem hne h0
   have hT : ∀ i ∈ l, R i ≤ topR R l := fun i hi => topR_ge hi
   have e : lots R (fuel + 1) l k = if k < (l.filter (fun i => decide (R i = topR R l))).length then ([], l.filter (fun i => decide (R i = topR R l)), k)
     else (l.filter (fun i => decide (R i = topR R l)) ++ (lots R fuel (l.filter (fun i => decide (R i ≠ topR R l))) (k - (l.filter (fun i => decide (R i = topR R l))).length)).1,
      (lots R fuel (l.filter (fun i => decide (R i ≠ topR R l))) (k - (l.filter (fun i => decide (R i = topR R l))).length)).2) := by
    rw [lots, if_neg hk0]
   rw [e]
   clear e
   revert hmT hT
   generalize topR R l = T
   intro hmT hT
   have hsplit := count_split R l T
   have hsame := count_same R l T
   have hlen : (l.filter (fun i => decide (R i = T))).length + (l.filter (fun i => decide (R i ≠ T))).length = l.length := by
    have h := hsplit (fun _ => true)
    have ct : ∀ m : List Int, m.countP (fun _ => true) = m.length := fun m => List.countP_eq_length.2 (fun _ _ => rfl)
    rw [ct, ct, ct, List.length_map, List.length_map, List.length_map] at h
    exact h.symm
   have hpos : 0 < (l.filter (fun i => decide (R i = T))).length := List.length_pos_iff_exists_mem.2 ⟨m, List.mem_filter.2 ⟨hm, by simp [hmT]⟩⟩
   have memS : ∀ i ∈ l, (i ∈ l.filter (fun i => decide (R i = T)) ↔ R i = T) := by intro i hi; simp [hi]
   have memO : ∀ i ∈ l, (i ∈ l.filter (fun i => decide (R i ≠ T)) ↔ R i ≠ T) := by intro i hi; simp [hi]
   have subO : ∀ i ∈ l.filter (fun i => decide (R i ≠ T)), i ∈ l := fun i hi => (List.mem_filter.1 hi).1
   have zero : ∀ (p : Int → Bool), (∀ x, x < T → p x = false) → ((l.filter (fun i => decide (R i ≠ T))).map R).countP p = 0 := by
    intro p hp
    rw [List.countP_eq_zero]
    intro x hx
    obtain ⟨i, hi, rfl⟩ := List.mem_map.1 hx
    have h1 := hT i (subO i hi)
    have h2 := (memO i (subO i hi)).1 hi
    rw [hp (R i) (by omega)]
    decide
   have geT : geC (l.map R) T = (l.filter (fun i => decide (R i = T))).length := by
    have h := hsplit (fun x => decide (T ≤ x))
    rw [hsame, if_pos (by simp), zero _ (fun x hx => by simp only [decide_eq_false_iff_not]; omega)] at h
    exact h
   have gtT : gtC (l.map R) T = 0 := by
    have h := hsplit (fun x => decide (T < x))
    rw [hsame, if_neg (by simp), zero _ (fun x hx => by simp only [decide_eq_false_iff_not]; omega)] at h
    exact h
   have geO : ∀ r, r < T → geC (l.map R) r = (l.filter (fun i => decide (R i = T))).length + geC ((l.filter (fun i => decide (R i ≠ T))).map R) r := by
    intro r hr
    have h := hsplit (fun x => decide (r ≤ x))
    rw [hsame, if_pos (by simp only [decide_eq_true_iff]; omega)] at h
    exact h
   have gtO : ∀ r, r < T → gtC (l.map R) r = (l.filter (fun i => decide (R i = T))).length + gtC ((l.filter (fun i => decide (R i ≠ T))).map R) r := by
    intro r hr
    have h := hsplit (fun x => decide (r < x))
    rw [hsame, if_pos (by simp only [decide_eq_true_iff]; omega)] at h
    exact h
   have hsub : (l.filter (fun i => decide (R i = T))).Sublist l := List.filter_sublist
   have hsubO : (l.filter (fun i => decide (R i ≠ T))).Sublist l := List.filter_sublist
   have ih' := ih (l.filter (fun i => decide (R i ≠ T))) (k - (l.filter (fun i => decide (R i = T))).length)
   revert hlen hpos memS memO subO geT gtT geO gtO hsub hsubO ih'
   clear hsplit hsame zero
   generalize l.filter (fun i => decide (R i = T)) = A
   generalize l.filter (fun i => decide (R i ≠ T)) = B
   intro hlen hpos memS memO subO geT gtT geO gtO hsub hsubO ih'
   by_cases hkA : k < A.length
   ·rw [if_pos hkA]
    refine ⟨fun i hi => ?_, by simp, hsub, fun h => by simp only at h; rw [h] at hpos; simp at hpos⟩
    have h1 := hT i hi
    unfold sureR tiedR
    by_cases hR : R i = T
    ·rw [hR, geT, gtT]
     refine ⟨⟨fun h => by simp at h, fun h => by omega⟩, ⟨fun _ => by omega, fun _ => (memS i hi).2 hR⟩, fun _ => rfl⟩
    ·have h2 := geO (R i) (by omega)
     have h3 := gtO (R i) (by omega)
     refine ⟨⟨fun h => by simp at h, fun h => by omega⟩, ⟨fun h => absurd ((memS i hi).1 h) hR, fun h => by omega⟩, fun h => by omega⟩
   ·rw [if_neg hkA]
    obtain ⟨j1, j2, j3, j4⟩ := ih' (by omega) (by omega) (fun i hi => h0 i (subO i hi))
    refine ⟨fun i hi => ?_, ?_, j3.trans hsubO, j4⟩
    ·have h1 := hT i hi
     by_cases hR : R i = T
     ·unfold sureR tiedR
      rw [hR, geT, gtT]
      refine ⟨⟨fun _ => by omega, fun _ => List.mem_append_left _ ((memS i hi).2 hR)⟩, ⟨fun h => ?_, fun h => by omega⟩, fun h => by omega⟩
      exact absurd hR ((memO i hi).1 (j3.subset h))
     ·have hB := (memO i hi).2 hR
      obtain ⟨g1, g2, g3⟩ := j1 i hB
      have h2 := geO (R i) (by omega)
      have h3 := gtO (R i) (by omega)
      unfold sureR tiedR at *
      refine ⟨⟨fun h => ?_, fun h => List.mem_append_right _ (g1.2 (by omega))⟩, ⟨fun h => ?_, fun h => g2.2 (by omega)⟩, fun h => ?_⟩
      ·rcases List.mem_append.1 h with h | h
       ·exact absurd ((memS i hi).1 h) hR
       ·have := g1.1 h
        omega
      ·have := g2.1 h
       omega
      ·have := g3 (by omega)
       show (lots R fuel B (k - A.length)).2.2 = _
       omega
    ·intro i hi
     rcases List.mem_append.1 hi with hi | hi
     ·exact hsub.subset hi
     ·exact subO i (j2 i hi)
end Go.Proofs.YteocdndanehpnaaGreat
namespace Go.Proofs.YteocdndanehpnaaGreat
theorem bump_comm (s : List Int) (i j : Nat) : (s.set i (atI s i + 1)).set j (atI (s.set i (atI s i + 1)) j + 1) = (s.set j (atI s j + 1)).set i (atI (s.set j (atI s j + 1)) i + 1) := by
 by_cases h : i = j
 ·subst h; rfl
 ·rw [atI_set_ne h, atI_set_ne (Ne.symm h), List.set_comm _ _ h]
theorem bump_perm {l m : List Nat} (h : l.Perm m) : ∀ S : List Int, bump S l = bump S m := by
 induction h with
 | nil => intro S; rfl
 | cons x _ ih => intro S; exact ih _
 | swap x y l =>
   intro S
   show bump _ l = bump _ l
   congr 1
   exact bump_comm S y x
 | trans _ _ h1 h2 => intro S; rw [h1, h2]
theorem bump_same {l m : List Nat} (hl : l.Nodup) (hm : m.Nodup) (h : ∀ i, i ∈ l ↔ i ∈ m) (S : List Int) : bump S l = bump S m :=
 bump_perm ((List.perm_ext_iff_of_nodup hl hm).2 h) S
theorem asc_unique : ∀ {a b : List Nat}, a.Pairwise (· < ·) → b.Pairwise (· < ·) → (∀ i, i ∈ a ↔ i ∈ b) → a = b
 | [], [], _, _, _ => rfl
 | [], y :: b, _, _, h => by have := (h y).2 (by simp); simp at this
 | x :: a, [], _, _, h => by have := (h x).1 (by simp); simp at this
 | x :: a, y :: b, ha, hb, h => by
   rw [List.pairwise_cons] at ha hb
   have hxy : x = y := by
    have h1 := (h x).1 (by simp)
    have h2 := (h y).2 (by simp)
    rcases List.mem_cons.1 h1 with h1 | h1
    ·exact h1
    ·rcases List.mem_cons.1 h2 with h2 | h2
     ·exact h2.symm
     ·have := hb.1 x h1
      have := ha.1 y h2
      omega
   subst hxy
   congr 1
   refine asc_unique ha.2 hb.2 fun i => ?_
   have h1 := h i
   constructor
   ·intro hi
    rcases List.mem_cons.1 (h1.1 (List.mem_cons_of_mem _ hi)) with rfl | h2
    ·have := ha.1 i hi
     omega
    ·exact h2
   ·intro hi
    rcases List.mem_cons.1 (h1.2 (List.mem_cons_of_mem _ hi)) with rfl | h2
    ·have := hb.1 i hi
     omega
    ·exact h2
theorem lots_nodup (R : Nat → Int) : ∀ (fuel : Nat) (l : List Nat) (k : Nat), l.Nodup → (lots R fuel l k).1.Nodup ∧ (∀ i ∈ (lots R fuel l k).1, i ∈ l) := by
 intro fuel
 induction fuel with
 | zero => intro l k _; simp [lots]
 | succ fuel ih =>
   intro l k hl
   rw [lots]
   split
   ·simp
   ·simp only
    split
    ·simp
    ·obtain ⟨h1, h2⟩ := ih (l.filter (fun i => decide (R i ≠ topR R l))) (k - (l.filter (fun i => decide (R i = topR R l))).length) (hl.filter _)
     refine ⟨List.nodup_append.2 ⟨hl.filter _, h1, ?_⟩, ?_⟩
     ·intro a ha b hb hab
      subst hab
      have h3 := (List.mem_filter.1 ha).2
      have h4 := (List.mem_filter.1 (h2 a hb)).2
      simp at h3 h4
      exact h4 h3
     ·intro i hi
      rcases List.mem_append.1 hi with hi | hi
      ·exact (List.mem_filter.1 hi).1
      ·exact (List.mem_filter.1 (h2 i hi)).1
theorem lots_cut {R : Nat → Int} {l m : List Nat} {k : Nat} (hl : l.Pairwise (· < ·)) (hm : m.Perm l) (hs : m.Pairwise (fun a b => R b ≤ R a)) (h0 : ∀ i ∈ l, 0 ≤ R i)
  (hk : k ≤ l.length) (hn : ∀ a b, m[k]? = some a → 0 < k → m[k - 1]? = some b → R a ≠ R b) (S : List Int) :
  bump S (m.take k) = bump S (lots R l.length l k).1 ∧ (lots R l.length l k).2 = ([], 0) := by
 have hnl : l.Nodup := hl.imp (fun h => by omega)
 have hnm : m.Nodup := hm.nodup_iff.2 hnl
 obtain ⟨h1, h2, h3, h4⟩ := lots_ok R l.length l k (Nat.le_refl _) hk h0
 have hs' : (m.map R).Pairwise (fun a b => b ≤ a) := List.pairwise_map.2 hs
 have hkm : k ≤ (m.map R).length := by rw [List.length_map, hm.length_eq]; exact hk
 have hcut := sorted_cut hs' hkm (fun ha h => by
  have hk1 : k < m.length := by simpa using ha
  have := hn m[k] m[k - 1] (List.getElem?_eq_getElem hk1) h (List.getElem?_eq_getElem (by omega))
  simpa using this)
 have same : ∀ i ∈ l, (sureR (l.map R) k (R i) ↔ i ∈ m.take k) ∧ ¬ tiedR (l.map R) k (R i) := by
  intro i hi
  obtain ⟨j, hj, rfl⟩ := List.mem_iff_getElem.1 (hm.mem_iff.2 hi)
  have h := hcut j (by simpa using hj)
  unfold sureR tiedR at *
  rw [geC_perm (hm.map R), gtC_perm (hm.map R), List.getElem_map] at h
  refine ⟨h.1.trans ?_, h.2⟩
  constructor
  ·intro hjk
   exact List.mem_iff_getElem.2 ⟨j, by rw [List.length_take]; omega, by simp⟩
  ·intro hmem
   obtain ⟨j', hj', he⟩ := List.mem_iff_getElem.1 hmem
   rw [List.getElem_take] at he
   rw [List.length_take] at hj'
   have := (List.getElem_inj hnm).1 he
   omega
 have hT : (lots R l.length l k).2.1 = [] := by
  rw [List.eq_nil_iff_forall_not_mem]
  intro i hi
  have hil := h3.subset hi
  exact (same i hil).2 ((h1 i hil).2.1.1 hi)
 refine ⟨bump_same (hnm.sublist (List.take_sublist _ _)) (lots_nodup R _ _ _ hnl).1 (fun i => ?_) S, Prod.ext hT (h4 hT)⟩
 constructor
 ·intro hi
  have hil := hm.mem_iff.1 (List.mem_of_mem_take hi)
  exact (h1 i hil).1.2 ((same i hil).1.2 hi)
 ·intro hi
  have hil := h2 i hi
  exact (same i hil).1.1 ((h1 i hil).1.1 hi)
theorem lots_tie {R : Nat → Int} {l m t : List Nat} {k f : Nat} {a b c : Nat} (hl : l.Pairwise (· < ·)) (hm : m.Perm l) (hs : m.Pairwise (fun a b => R b ≤ R a)) (h0 : ∀ i ∈ l, 0 ≤ R i)
  (hk : 0 < k) (ha : m[k]? = some a) (hb : m[k - 1]? = some b) (hab : R a = R b) (hc : m[f]? = some c) (hca : R c = R a) (hf : ∀ i x, i < f → m[i]? = some x → R x ≠ R a)
  (ht : t.Pairwise (· < ·)) (htm : ∀ i, i ∈ t ↔ i ∈ m ∧ R i = R a) (S : List Int) :
  f < k ∧ bump S (m.take f) = bump S (lots R l.length l k).1 ∧ (lots R l.length l k).2 = (t, k - f) := by
 have hnl : l.Nodup := hl.imp (fun h => by omega)
 have hnm : m.Nodup := hm.nodup_iff.2 hnl
 obtain ⟨hka, rfl⟩ := List.getElem?_eq_some_iff.1 ha
 obtain ⟨hkb, rfl⟩ := List.getElem?_eq_some_iff.1 hb
 obtain ⟨hfc, rfl⟩ := List.getElem?_eq_some_iff.1 hc
 have hkl : k ≤ l.length := by rw [← hm.length_eq]; omega
 obtain ⟨h1, h2, h3, h4⟩ := lots_ok R l.length l k (Nat.le_refl _) hkl h0
 have hs' : (m.map R).Pairwise (fun a b => b ≤ a) := List.pairwise_map.2 hs
 obtain ⟨g1, g2, g3⟩ := sorted_tie (k := k) (f := f) hs' (by simpa using hka) hk (by simpa using hab) (by simpa using hfc) (by simpa using hca)
  (fun i hi hif => by simpa using hf i m[i] hif (List.getElem?_eq_getElem (by simpa using hi)))
 rw [gtC_perm (hm.map R), List.getElem_map] at g2
 have same : ∀ i ∈ l, (sureR (l.map R) k (R i) ↔ i ∈ m.take f) ∧ (tiedR (l.map R) k (R i) ↔ R i = R m[k]) := by
  intro i hi
  obtain ⟨j, hj, rfl⟩ := List.mem_iff_getElem.1 (hm.mem_iff.2 hi)
  have h := g3 j (by simpa using hj)
  unfold sureR tiedR at *
  rw [geC_perm (hm.map R), gtC_perm (hm.map R), List.getElem_map, List.getElem_map] at h
  refine ⟨h.1.trans ?_, h.2⟩
  constructor
  ·intro hjk
   exact List.mem_iff_getElem.2 ⟨j, by rw [List.length_take]; omega, by simp⟩
  ·intro hmem
   obtain ⟨j', hj', he⟩ := List.mem_iff_getElem.1 hmem
   rw [List.getElem_take] at he
   rw [List.length_take] at hj'
   have := (List.getElem_inj hnm).1 he
   omega
 have hT : (lots R l.length l k).2.1 = t := by
  refine asc_unique (hl.sublist h3) ht fun i => ?_
  rw [htm i]
  constructor
  ·intro hi
   have hil := h3.subset hi
   exact ⟨hm.mem_iff.2 hil, (same i hil).2.1 ((h1 i hil).2.1.1 hi)⟩
  ·rintro ⟨hi, hR⟩
   have hil := hm.mem_iff.1 hi
   exact (h1 i hil).2.1.2 ((same i hil).2.2 hR)
 have hO : (lots R l.length l k).2.2 = k - f := by
  have hml : m[k] ∈ l := hm.mem_iff.1 (List.getElem_mem _)
  rw [(h1 m[k] hml).2.2 ((same m[k] hml).2.2 rfl), g2]
 refine ⟨g1, bump_same (hnm.sublist (List.take_sublist _ _)) (lots_nodup R _ _ _ hnl).1 (fun i => ?_) S, Prod.ext hT hO⟩
 constructor
 ·intro hi
  have hil := hm.mem_iff.1 (List.mem_of_mem_take hi)
  exact (h1 i hil).1.2 ((same i hil).1.2 hi)
 ·intro hi
  have hil := h2 i hi
  exact (same i hil).1.1 ((h1 i hil).1.1 hi)
end Go.Proofs.YteocdndanehpnaaGreat
namespace Go.Proofs.YteocdndanehpnaaGreat
def quoN (k all o : Int) : Int := if k = 2 then all / (o + 1) + 1 else all
def quoD (k o : Int) : Int := if k = 1 then o else if k = 2 then 1 else if k = 3 then o + 1 else o + 2
def putAt (S : List Int) (c : List Nat) (f : Nat → Int) : List Int := c.foldl (fun s i => s.set i (f i)) S
def quoEnd (p : Nat → Int) (c : List Nat) (S : List Int) (o n d : Int) : Option Aw :=
 if o - (c.map (fun i => p i * d / n)).sum < 0 ∨ (c.filter (fun i => decide (0 < p i))).length < o - (c.map (fun i => p i * d / n)).sum then none
 else
  let l := c.filter (fun i => decide (0 < p i))
  let r := lots (fun i => p i * d % n) l.length l (o - (c.map (fun i => p i * d / n)).sum).toNat
  some ⟨bump (putAt S c (fun i => p i * d / n)) r.1, r.2.1, (r.2.2 : Int), []⟩
def quoLow (p least : Nat → Int) (c : List Nat) (n d : Int) : List Nat := c.filter (fun i => decide (p i * d < least i * n))
def quoGo (k : Int) (p least : Nat → Int) : Nat → List Nat → List Int → Int → Option Aw
 | 0, _, S, _ => some ⟨S, [], 0, []⟩
 | fuel + 1, c, S, o =>
   if o ≤ 0 then some ⟨S, [], 0, []⟩
   else if (c.map p).sum = 0 then none
   else if quoLow p least c (quoN k (c.map p).sum o) (quoD k o) = [] then quoEnd p c S o (quoN k (c.map p).sum o) (quoD k o)
   else quoGo k p least fuel (c.filter (fun i => decide (¬ p i * quoD k o < least i * quoN k (c.map p).sum o)))
    (putAt S (quoLow p least c (quoN k (c.map p).sum o) (quoD k o)) least) (o - ((quoLow p least c (quoN k (c.map p).sum o) (quoD k o)).map least).sum)
theorem lots_length (R : Nat → Int) : ∀ (fuel : Nat) (l : List Nat) (k : Nat), l.length ≤ fuel → k ≤ l.length → (∀ i ∈ l, 0 ≤ R i) → (lots R fuel l k).1.length + (lots R fuel l k).2.2 = k := by
 intro fuel
 induction fuel with
 | zero => intro l k hl hk _; simp [lots]; omega
 | succ fuel ih =>
   intro l k hl hk h0
   rw [lots]
   split
   ·rename_i h; simp [h]
   ·rename_i hk0
    simp only
    split
    ·simp
    ·rename_i hs
     have hne : l ≠ [] := by intro e; subst e; simp at hk; omega
     obtain ⟨m, hm, hmT⟩ := topR_mem hne h0
     have hpos : 0 < (l.filter (fun i => decide (R i = topR R l))).length := List.length_pos_iff_exists_mem.2 ⟨m, List.mem_filter.2 ⟨hm, by simp [hmT]⟩⟩
     have hlen : (l.filter (fun i => decide (R i = topR R l))).length + (l.filter (fun i => decide (R i ≠ topR R l))).length = l.length := by
      have h := count_split R l (topR R l) (fun _ => true)
      have ct : ∀ m : List Int, m.countP (fun _ => true) = m.length := fun m => List.countP_eq_length.2 (fun _ _ => rfl)
      rw [ct, ct, ct, List.length_map, List.length_map, List.length_map] at h
      exact h.symm
     have := ih (l.filter (fun i => decide (R i ≠ topR R l))) (k - (l.filter (fun i => decide (R i = topR R l))).length) (by omega) (by omega) (fun i hi => h0 i (List.mem_filter.1 hi).1)
     simp only [List.length_append]
     omega
theorem putAt_length (c : List Nat) (f : Nat → Int) : ∀ S : List Int, (putAt S c f).length = S.length := by
 induction c with
 | nil => intro S; rfl
 | cons x r ih => intro S; rw [putAt, List.foldl_cons, ← putAt, ih]; simp
theorem putAt_other {c : List Nat} {f : Nat → Int} {j : Nat} : ∀ {S : List Int}, j ∉ c → atI (putAt S c f) j = atI S j := by
 induction c with
 | nil => intro S _; rfl
 | cons x r ih =>
   intro S h
   rw [List.mem_cons, not_or] at h
   rw [putAt, List.foldl_cons, ← putAt, ih h.2, atI_set_ne (fun e => h.1 e.symm)]
theorem putAt_mem {c : List Nat} {f : Nat → Int} {j : Nat} : ∀ {S : List Int}, j ∈ c → j < S.length → atI (putAt S c f) j = f j := by
 induction c with
 | nil => intro S h; simp at h
 | cons x r ih =>
   intro S h hl
   rw [putAt, List.foldl_cons, ← putAt]
   by_cases hr : j ∈ r
   ·exact ih hr (by simpa using hl)
   ·rw [putAt_other hr]
    rcases List.mem_cons.1 h with rfl | h
    ·exact atI_set_same hl
    ·exact absurd h hr
theorem putAt_sum {c : List Nat} {f : Nat → Int} : ∀ {S : List Int}, c.Nodup → (∀ i ∈ c, i < S.length ∧ atI S i = 0) → (putAt S c f).sum = S.sum + (c.map f).sum := by
 induction c with
 | nil => intro S _ _; simp [putAt]
 | cons x r ih =>
   intro S hn h
   rw [List.nodup_cons] at hn
   have hx := h x (by simp)
   rw [putAt, List.foldl_cons, ← putAt, ih hn.2 (fun i hi => ?_), sum_set hx.1, hx.2]
   ·simp; omega
   ·have hi' := h i (by simp [hi])
    refine ⟨by simpa using hi'.1, ?_⟩
    rw [atI_set_ne (fun e => hn.1 (by rw [e]; exact hi))]
    exact hi'.2
theorem sum_nonneg {p : Nat → Int} {c : List Nat} (h : ∀ i ∈ c, 0 ≤ p i) : 0 ≤ (c.map p).sum := by
 induction c with
 | nil => simp
 | cons x r ih =>
   have h1 := h x (by simp)
   have h2 := ih (fun i hi => h i (by simp [hi]))
   simp only [List.map_cons, List.sum_cons]
   omega
end Go.Proofs.YteocdndanehpnaaGreat
namespace Go.Proofs.YteocdndanehpnaaGreat
theorem filter_sum (f : Nat → Int) (q : Nat → Prop) [DecidablePred q] (c : List Nat) : (c.map f).sum = ((c.filter (fun i => decide (q i))).map f).sum + ((c.filter (fun i => decide (¬ q i))).map f).sum := by
 induction c with
 | nil => rfl
 | cons x r ih =>
   by_cases h : q x
   ·simp only [List.filter_cons, h, not_true, decide_true, decide_false, if_true, List.map_cons, List.sum_cons] at ih ⊢
    simp at ih ⊢
    omega
   ·simp only [List.filter_cons, h, not_false_iff, decide_true, decide_false, if_true, List.map_cons, List.sum_cons] at ih ⊢
    simp at ih ⊢
    omega
theorem filter_len (q : Nat → Prop) [DecidablePred q] (c : List Nat) : c.length = (c.filter (fun i => decide (q i))).length + (c.filter (fun i => decide (¬ q i))).length := by
 induction c with
 | nil => rfl
 | cons x r ih =>
   by_cases h : q x
   ·simp [h] at ih ⊢
    omega
   ·simp [h] at ih ⊢
    omega
theorem lots_open (R : Nat → Int) : ∀ (fuel : Nat) (l : List Nat) (k : Nat), ((lots R fuel l k).2.1 = [] ∧ (lots R fuel l k).2.2 = 0) ∨ (1 ≤ (lots R fuel l k).2.2 ∧ (lots R fuel l k).2.2 < (lots R fuel l k).2.1.length) := by
 intro fuel
 induction fuel with
 | zero => intro l k; simp [lots]
 | succ fuel ih =>
   intro l k
   rw [lots]
   split
   ·simp
   ·rename_i hk
    simp only
    split
    ·rename_i h
     exact .inr ⟨by simp only; omega, h⟩
    ·exact ih _ _
theorem lots_sub (R : Nat → Int) : ∀ (fuel : Nat) (l : List Nat) (k : Nat), (lots R fuel l k).2.1.Sublist l := by
 intro fuel
 induction fuel with
 | zero => intro l k; simp [lots]
 | succ fuel ih =>
   intro l k
   rw [lots]
   split
   ·simp
   ·simp only
    split
    ·exact List.filter_sublist
    ·exact (ih _ _).trans List.filter_sublist
theorem quoN_pos {k all o : Int} (h : 0 < all) (ho : 0 < o) : 0 < quoN k all o := by
 unfold quoN
 split
 ·have := Int.ediv_nonneg (show 0 ≤ all by omega) (show 0 ≤ o + 1 by omega)
  omega
 ·exact h
structure QuoOk (p least : Nat → Int) (c : List Nat) (S : List Int) (o : Int) (A : Aw) : Prop where
 sum : A.seats.sum + A.left = S.sum + o
 len : A.seats.length = S.length
 low : ∀ i ∈ c, least i ≤ atI A.seats i
 rest : ∀ i, i ∉ c → atI A.seats i = atI S i
 tied : A.tied.Sublist c
 people : ∀ i ∈ A.tied, 0 < p i
 left : (A.tied = [] ∧ A.left = 0) ∨ (1 ≤ A.left ∧ A.left < A.tied.length)
theorem quoEnd_ok {p least : Nat → Int} {c : List Nat} {S : List Int} {o n d : Int} {A : Aw} (hc : c.Nodup) (hS : ∀ i ∈ c, i < S.length ∧ atI S i = 0) (hn : 0 < n)
  (hl : quoLow p least c n d = []) (h : quoEnd p c S o n d = some A) : QuoOk p least c S o A := by
 unfold quoEnd at h
 split at h
 ·cases h
 rename_i hb
 rw [not_or] at hb
 obtain ⟨b1, b2⟩ := hb
 simp only [Option.some.injEq] at h
 have hR : ∀ i ∈ c.filter (fun i => decide (0 < p i)), 0 ≤ p i * d % n := fun i _ => Int.emod_nonneg _ (by omega)
 have hf := lots_length (fun i => p i * d % n) (c.filter (fun i => decide (0 < p i))).length (c.filter (fun i => decide (0 < p i))) (o - (c.map (fun i => p i * d / n)).sum).toNat (Nat.le_refl _) (by omega) hR
 have ho := lots_open (fun i => p i * d % n) (c.filter (fun i => decide (0 < p i))).length (c.filter (fun i => decide (0 < p i))) (o - (c.map (fun i => p i * d / n)).sum).toNat
 have hs := lots_sub (fun i => p i * d % n) (c.filter (fun i => decide (0 < p i))).length (c.filter (fun i => decide (0 < p i))) (o - (c.map (fun i => p i * d / n)).sum).toNat
 have hm := (lots_nodup (fun i => p i * d % n) (c.filter (fun i => decide (0 < p i))).length (c.filter (fun i => decide (0 < p i))) (o - (c.map (fun i => p i * d / n)).sum).toNat (hc.filter _)).2
 revert h hf ho hs hm
 generalize lots (fun i => p i * d % n) (c.filter (fun i => decide (0 < p i))).length (c.filter (fun i => decide (0 < p i))) (o - (c.map (fun i => p i * d / n)).sum).toNat = r
 intro h hf ho hs hm
 subst h
 have hsum := putAt_sum (f := fun i => p i * d / n) hc hS
 have hlen := putAt_length c (fun i => p i * d / n) S
 have hmc : ∀ i ∈ r.1, i ∈ c := fun i hi => (List.mem_filter.1 (hm i hi)).1
 refine ⟨?_, ?_, ?_, ?_, hs.trans List.filter_sublist, ?_, ?_⟩
 ·show (bump _ r.1).sum + (r.2.2 : Int) = _
  rw [bump_sum (fun j hj => by rw [hlen]; exact (hS j (hmc j hj)).1), hsum]
  omega
 ·show (bump _ r.1).length = _
  rw [bump_length, hlen]
 ·intro i hi
  show least i ≤ atI (bump _ r.1) i
  have h1 := bump_le (l := r.1) (S := putAt S c (fun i => p i * d / n)) i
  rw [putAt_mem hi (hS i hi).1] at h1
  have h2 : ¬ p i * d < least i * n := by
   intro h2
   have : i ∈ quoLow p least c n d := List.mem_filter.2 ⟨hi, by simpa using h2⟩
   rw [hl] at this
   simp at this
  have h3 := (Int.le_ediv_iff_mul_le hn).2 (show least i * n ≤ p i * d by omega)
  omega
 ·intro i hi
  show atI (bump _ r.1) i = _
  rw [bump_other (fun h => hi (hmc i h)), putAt_other hi]
 ·intro i hi
  have := (List.mem_filter.1 (hs.subset hi)).2
  simpa using this
 ·show (r.2.1 = [] ∧ (r.2.2 : Int) = 0) ∨ (1 ≤ (r.2.2 : Int) ∧ (r.2.2 : Int) < r.2.1.length)
  rcases ho with ⟨h1, h2⟩ | ⟨h1, h2⟩
  ·exact .inl ⟨h1, by omega⟩
  ·exact .inr ⟨by omega, by omega⟩
theorem quo_ok {k : Int} {p least : Nat → Int} (hL : ∀ i, 0 ≤ least i) : ∀ (fuel : Nat) (c : List Nat) (S : List Int) (o : Int) (A : Aw), c.length < fuel → c.Nodup → (∀ i ∈ c, i < S.length ∧ atI S i = 0) → (∀ i ∈ c, 0 ≤ p i) →
  (c.map least).sum ≤ o → quoGo k p least fuel c S o = some A → QuoOk p least c S o A := by
 intro fuel
 induction fuel with
 | zero => intro c S o A h; omega
 | succ fuel ih =>
   intro c S o A hf hc hS hp ho h
   have hLc := sum_nonneg (p := least) (c := c) (fun i _ => hL i)
   have hPc := sum_nonneg hp
   rw [quoGo] at h
   split at h
   ·rename_i h0
    cases h
    refine ⟨by simp only; omega, rfl, fun i hi => ?_, fun i _ => rfl, by simp, by simp, .inl ⟨rfl, rfl⟩⟩
    rw [(hS i hi).2]
    have h1 : (c.map least).sum = 0 := by omega
    have h2 : ∀ (c : List Nat), i ∈ c → least i ≤ (c.map least).sum := by
     intro c
     induction c with
     | nil => intro h; simp at h
     | cons x r ihr =>
       intro h
       have h3 := sum_nonneg (p := least) (c := r) (fun i _ => hL i)
       have h4 := hL x
       simp only [List.map_cons, List.sum_cons]
       rcases List.mem_cons.1 h with rfl | h
       ·omega
       ·have := ihr h
        omega
    have := h2 c hi
    omega
   ·rename_i h0
    split at h
    ·cases h
    ·rename_i hz
     have hn := quoN_pos (k := k) (show 0 < (c.map p).sum by omega) (show 0 < o by omega)
     split at h
     ·rename_i hl
      exact quoEnd_ok hc hS hn hl h
     ·rename_i hl
      have hsplit := filter_sum least (fun i => p i * quoD k o < least i * quoN k (c.map p).sum o) c
      have hlens := filter_len (fun i => p i * quoD k o < least i * quoN k (c.map p).sum o) c
      change quoLow p least c _ _ ≠ [] at hl
      unfold quoLow at hl h
      have hpos := List.length_pos_iff.2 hl
      revert h hsplit hlens hpos
      have memA : ∀ i, i ∈ c.filter (fun i => decide (p i * quoD k o < least i * quoN k (c.map p).sum o)) ↔ i ∈ c ∧ p i * quoD k o < least i * quoN k (c.map p).sum o := by intro i; simp
      have memB : ∀ i, i ∈ c.filter (fun i => decide (¬ p i * quoD k o < least i * quoN k (c.map p).sum o)) ↔ i ∈ c ∧ ¬ p i * quoD k o < least i * quoN k (c.map p).sum o := by intro i; simp
      have sA : (c.filter (fun i => decide (p i * quoD k o < least i * quoN k (c.map p).sum o))).Sublist c := List.filter_sublist
      have sB : (c.filter (fun i => decide (¬ p i * quoD k o < least i * quoN k (c.map p).sum o))).Sublist c := List.filter_sublist
      revert memA memB sA sB
      clear hl
      generalize c.filter (fun i => decide (p i * quoD k o < least i * quoN k (c.map p).sum o)) = X
      generalize c.filter (fun i => decide (¬ p i * quoD k o < least i * quoN k (c.map p).sum o)) = Y
      intro memA memB sA sB h hsplit hlens hpos
      have nX := hc.sublist sA
      have nY := hc.sublist sB
      have apart : ∀ i, i ∈ X → i ∉ Y := fun i h1 h2 => ((memB i).1 h2).2 ((memA i).1 h1).2
      have hSX : ∀ i ∈ X, i < S.length ∧ atI S i = 0 := fun i hi => hS i (sA.subset hi)
      have hSY : ∀ i ∈ Y, i < (putAt S X least).length ∧ atI (putAt S X least) i = 0 := by
       intro i hi
       have := hS i (sB.subset hi)
       rw [putAt_length, putAt_other (fun h1 => apart i h1 hi)]
       exact this
      have R := ih Y (putAt S X least) (o - (X.map least).sum) A (by omega) nY hSY (fun i hi => hp i (sB.subset hi)) (by omega) h
      refine ⟨?_, ?_, ?_, ?_, R.tied.trans sB, R.people, R.left⟩
      ·have := R.sum
       rw [putAt_sum nX hSX] at this
       omega
      ·rw [R.len, putAt_length]
      ·intro i hi
       by_cases hX : i ∈ X
       ·rw [R.rest i (apart i hX), putAt_mem hX (hS i hi).1]
        exact Int.le_refl _
       ·refine R.low i ((memB i).2 ⟨hi, fun h1 => hX ((memA i).2 ⟨hi, h1⟩)⟩)
      ·intro i hi
       rw [R.rest i (fun h1 => hi (sB.subset h1)), putAt_other (fun h1 => hi (sA.subset h1))]
end Go.Proofs.YteocdndanehpnaaGreat
namespace Go.Proofs.YteocdndanehpnaaGreat
end Go.Proofs.YteocdndanehpnaaGreat
namespace Go.Proofs.YteocdndanehpnaaGreat
end Go.Proofs.YteocdndanehpnaaGreat
namespace Go.Proofs.YteocdndanehpnaaGreat
end Go.Proofs.YteocdndanehpnaaGreat
namespace Go.Proofs.YteocdndanehpnaaGreat
end Go.Proofs.YteocdndanehpnaaGreat
namespace Go.Proofs.YteocdndanehpnaaGreat
end Go.Proofs.YteocdndanehpnaaGreat
namespace Go.Proofs.YteocdndanehpnaaGreat
theorem end_fail {p : Nat → Int} {c : List Nat} {S : List Int} {o n d : Int} (h : o - (c.map (fun i => p i * d / n)).sum < 0 ∨ ((c.filter (fun i => decide (0 < p i))).length : Int) < o - (c.map (fun i => p i * d / n)).sum) :
  quoEnd p c S o n d = none := by
 unfold quoEnd
 rw [if_pos h]
theorem end_cut {p : Nat → Int} {c m : List Nat} {S : List Int} {o n d : Int} {k : Nat} (hc : c.Pairwise (· < ·)) (hn : 0 < n) (hm : m.Perm (c.filter (fun i => decide (0 < p i))))
  (hs : m.Pairwise (fun a b => p b * d % n ≤ p a * d % n)) (hk : o - (c.map (fun i => p i * d / n)).sum = (k : Int)) (hkl : k ≤ m.length)
  (hcut : ∀ a b, m[k]? = some a → 0 < k → m[k - 1]? = some b → p a * d % n ≠ p b * d % n) :
  quoEnd p c S o n d = some ⟨bump (putAt S c (fun i => p i * d / n)) (m.take k), [], 0, []⟩ := by
 have hl := hm.length_eq
 obtain ⟨h1, h2⟩ := lots_cut (R := fun i => p i * d % n) (hc.filter _) hm hs (fun i _ => Int.emod_nonneg _ (by omega)) (by omega) hcut (putAt S c (fun i => p i * d / n))
 unfold quoEnd
 rw [if_neg (by omega), hk]
 simp only [Int.toNat_natCast]
 rw [← h1, h2]
 rfl
theorem end_tie {p : Nat → Int} {c m t : List Nat} {S : List Int} {o n d : Int} {k f a b e : Nat} (hc : c.Pairwise (· < ·)) (hn : 0 < n) (hm : m.Perm (c.filter (fun i => decide (0 < p i))))
  (hs : m.Pairwise (fun a b => p b * d % n ≤ p a * d % n)) (hk : o - (c.map (fun i => p i * d / n)).sum = (k : Int)) (h0 : 0 < k)
  (ha : m[k]? = some a) (hb : m[k - 1]? = some b) (hab : p a * d % n = p b * d % n) (he : m[f]? = some e) (hea : p e * d % n = p a * d % n) (hf : ∀ i x, i < f → m[i]? = some x → p x * d % n ≠ p a * d % n)
  (ht : t.Pairwise (· < ·)) (htm : ∀ i, i ∈ t ↔ i ∈ m ∧ p i * d % n = p a * d % n) :
  f < k ∧ quoEnd p c S o n d = some ⟨bump (putAt S c (fun i => p i * d / n)) (m.take f), t, ((k - f : Nat) : Int), []⟩ := by
 have hl := hm.length_eq
 obtain ⟨hka, _⟩ := List.getElem?_eq_some_iff.1 ha
 obtain ⟨h1, h2, h3⟩ := lots_tie (R := fun i => p i * d % n) (hc.filter _) hm hs (fun i _ => Int.emod_nonneg _ (by omega)) h0 ha hb hab he hea hf ht htm (putAt S c (fun i => p i * d / n))
 refine ⟨h1, ?_⟩
 unfold quoEnd
 rw [if_neg (by omega), hk]
 simp only [Int.toNat_natCast]
 rw [← h2, h3]
theorem whole_below {p d n l : Int} (hn : 0 < n) : p * d / n < l ↔ p * d < l * n := Int.ediv_lt_iff_lt_mul hn
end Go.Proofs.YteocdndanehpnaaGreat
