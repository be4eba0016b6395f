/- Several texts in one: PlainC, ScalesA, Scales. -/
import Derived.Test.YtebbhhdnjflmcaaGreatK06
import Derived.Test.YtebbhhdnjflmcaaGreatJ31
import Derived.Deep.QuietTactic
import Derived.BigQuiet

/- Plain laws of the award: other people by a factor, another order of the regions, more people. -/
namespace Go.Proofs.YtebbhhdnjflmcaaGreat

theorem award_congr {f g : Int → Int → Int → Int → Int} {P Q : List Int} {C : List Nat} (h : ∀ S, vs f P S = vs g Q S) : ∀ (k : Nat) (S : List Int) (left : Int) (o : List Nat), award f P C k S left o = award g Q C k S left o := by
  intro k
  induction k with
  | zero => exact fun _ _ _ => rfl
  | succ k ih =>
    intro S left o
    unfold award
    rw [h S]
    split
    · rfl
    · split
      · rfl
      · exact ih _ _ _
theorem atI_map_mul (P : List Int) (b : Int) (i : Nat) : atI (P.map (· * b)) i = atI P i * b := by
  unfold atI
  rw [List.getElem?_map]
  cases P[i]? with
  | none => simp
  | some x => rfl
theorem topOf_mul (m p b : Int) : topOf m (p * b) = topOf m p * (if m = 13 then b * b else b) := by
  unfold topOf
  split
  · grind
  · rfl
theorem cmpR_scale (m b p s q t : Int) (hb : 1 ≤ b) : cmpR m (p * b) s (q * b) t = cmpR m p s q t := by
  have hk : 0 < (if m = 13 then b * b else b) := by
    split
    · exact Int.mul_pos (by omega) (by omega)
    · omega
  unfold cmpR
  rw [topOf_mul, topOf_mul]
  generalize (if m = 13 then b * b else b) = k at hk ⊢
  split
  · split
    · rw [show p * b - q * b = (p - q) * b by grind]
      exact side_scale (by omega)
    · rfl
  · split
    · rfl
    · rw [show topOf m p * k * postD m s * postN m t - topOf m q * k * postD m t * postN m s = (topOf m p * postD m s * postN m t - topOf m q * postD m t * postN m s) * k by grind]
      exact side_scale hk
theorem full_mul {P : List Int} {b : Int} (hb : 1 ≤ b) : full (P.map (· * b)) = full P := by
  unfold full
  rw [List.length_map]
  refine List.filter_congr fun i _ => ?_
  rw [atI_map_mul, Bool.eq_iff_iff]
  simp only [decide_eq_true_eq]
  constructor
  · intro h
    rcases Int.lt_or_le 0 (atI P i) with h1 | h1
    · exact h1
    · have := Int.mul_le_mul_of_nonneg_right h1 (show 0 ≤ b by omega)
      omega
  · exact fun h => Int.mul_pos h (by omega)
theorem awardOf_mul {m b : Int} (P Z : List Int) (left : Int) (hb : 1 ≤ b) : awardOf (cmpR m) (P.map (· * b)) Z left = awardOf (cmpR m) P Z left := by
  unfold awardOf
  rw [full_mul hb]
  refine award_congr (fun S => ?_) _ _ _ _
  funext i j
  unfold vs
  rw [atI_map_mul, atI_map_mul]
  exact cmpR_scale m b _ _ _ _ hb

theorem nodup_len {l : List Nat} : ∀ {r : List Nat}, l.Nodup → (∀ x ∈ l, x ∈ r) → l.length ≤ r.length := by
  induction l with
  | nil => intro r _ _; simp
  | cons x l ih =>
    intro r hd h
    rw [List.nodup_cons] at hd
    have h1 := ih (r := r.erase x) hd.2 (fun y hy => by
      have hne : y ≠ x := fun e => hd.1 (e ▸ hy)
      exact (List.mem_erase_of_ne hne).2 (h y (by simp [hy])))
    have hx := h x (by simp)
    rw [List.length_erase_of_mem hx] at h1
    have := List.length_pos_of_mem hx
    simp only [List.length_cons]
    omega

/-- The regions in another order. -/
structure Turn (n : Nat) (g : Nat → Nat) : Prop where
  lt : ∀ i, i < n → g i < n
  inj : ∀ i j, i < n → j < n → g i = g j → i = j
  onto : ∀ j, j < n → ∃ i, i < n ∧ g i = j
theorem best_turn {f : Int → Int → Int → Int → Int} (hf : RankF f) {n : Nat} {g : Nat → Nat} (hg : Turn n g) {P P' S S' : List Int} (hP : P.length = n) (hP' : P'.length = n) (e : ∀ i, i < n → atI P' i = atI P (g i)) (eS : ∀ i, i < n → atI S' i = atI S (g i))
    (hS : ∀ i, 0 ≤ atI S i) (hS' : ∀ i, 0 ≤ atI S' i) : (∀ i, i < n → (i ∈ bestL (vs f P' S') (full P') ↔ g i ∈ bestL (vs f P S) (full P))) ∧ (bestL (vs f P' S') (full P')).length = (bestL (vs f P S) (full P)).length := by
  have hC : ∀ i ∈ full P, 1 ≤ atI P i := fun i hi => by have := (mem_full.1 hi).2; omega
  have hC' : ∀ i ∈ full P', 1 ≤ atI P' i := fun i hi => by have := (mem_full.1 hi).2; omega
  have hm : ∀ i, i < n → (i ∈ full P' ↔ g i ∈ full P) := by
    intro i hi
    rw [mem_full, mem_full, hP, hP', e i hi]
    exact ⟨fun h => ⟨hg.lt i hi, h.2⟩, fun h => ⟨hi, h.2⟩⟩
  have hb : ∀ i, i < n → (i ∈ bestL (vs f P' S') (full P') ↔ g i ∈ bestL (vs f P S) (full P)) := by
    intro i hi
    rw [best_mem _ (vs_pre hf hC' hS'), best_mem _ (vs_pre hf hC hS), hm i hi]
    refine and_congr_right fun _ => ⟨fun h z hz => ?_, fun h z hz => ?_⟩
    · have hzn : z < n := by have := (mem_full.1 hz).1; omega
      obtain ⟨j, hj, rfl⟩ := hg.onto z hzn
      have := h j ((hm j hj).2 hz)
      unfold vs at this ⊢
      rwa [e i hi, e j hj, eS i hi, eS j hj] at this
    · have hzn : z < n := by have := (mem_full.1 hz).1; omega
      have := h (g z) ((hm z hzn).1 hz)
      unfold vs at this ⊢
      rwa [e i hi, e z hzn, eS i hi, eS z hzn]
  refine ⟨hb, Nat.le_antisymm ?_ ?_⟩
  · have hd : ((bestL (vs f P' S') (full P')).map g).Nodup := by
      refine List.pairwise_map.2 (((full_nodup P').sublist (bestL_sub _ _)).imp_of_mem fun {a b} ha hb' hne hge => hne ?_)
      have h1 := (mem_full.1 ((bestL_sub _ _).subset ha)).1
      have h2 := (mem_full.1 ((bestL_sub _ _).subset hb')).1
      exact hg.inj a b (by omega) (by omega) hge
    have := nodup_len hd (r := bestL (vs f P S) (full P)) (fun x hx => by
      obtain ⟨i, hi, rfl⟩ := List.mem_map.1 hx
      have h1 := (mem_full.1 ((bestL_sub _ _).subset hi)).1
      exact (hb i (by omega)).1 hi)
    rwa [List.length_map] at this
  · have hd := (full_nodup P).sublist (bestL_sub (vs f P S) (full P))
    have := nodup_len hd (r := (bestL (vs f P' S') (full P')).map g) (fun x hx => by
      have h1 := (mem_full.1 ((bestL_sub _ _).subset hx)).1
      obtain ⟨i, hi, rfl⟩ := hg.onto x (by omega)
      exact List.mem_map.2 ⟨i, (hb i hi).2 hx, rfl⟩)
    rwa [List.length_map] at this
/-- Two awards are one but for the order of the regions. -/
structure Turned (n : Nat) (g : Nat → Nat) (A B : Aw) : Prop where
  left : A.left = B.left
  seats : ∀ i, i < n → atI A.seats i = atI B.seats (g i)
  tied : ∀ i, i < n → (i ∈ A.tied ↔ g i ∈ B.tied)
theorem award_turn {f : Int → Int → Int → Int → Int} (hf : RankF f) {n : Nat} {g : Nat → Nat} (hg : Turn n g) {P P' : List Int} (hP : P.length = n) (hP' : P'.length = n) (e : ∀ i, i < n → atI P' i = atI P (g i)) :
    ∀ (k : Nat) (S S' : List Int) (left : Int) (o o' : List Nat), S.length = n → S'.length = n → (∀ i, i < n → atI S' i = atI S (g i)) → (∀ i, 0 ≤ atI S i) → (∀ i, 0 ≤ atI S' i) →
      Turned n g (award f P' (full P') k S' left o') (award f P (full P) k S left o) := by
  intro k
  induction k with
  | zero => exact fun S S' left o o' _ _ eS _ _ => ⟨rfl, eS, fun i _ => by simp [award]⟩
  | succ k ih =>
    intro S S' left o o' l1 l2 eS hS hS'
    obtain ⟨b1, b2⟩ := best_turn hf hg hP hP' e eS hS hS'
    unfold award
    rw [b2]
    split
    · exact ⟨rfl, eS, fun i _ => by simp⟩
    · split
      · exact ⟨rfl, eS, b1⟩
      · refine ih _ _ _ _ _ (by rw [bump_length]; exact l1) (by rw [bump_length]; exact l2) (fun i hi => ?_) (fun i => Int.le_trans (hS i) (bump_le i)) (fun i => Int.le_trans (hS' i) (bump_le i))
        have d1 := (full_nodup P').sublist (bestL_sub (vs f P' S') (full P'))
        have d2 := (full_nodup P).sublist (bestL_sub (vs f P S) (full P))
        by_cases h : i ∈ bestL (vs f P' S') (full P')
        · rw [bump_mem d1 h (by omega), bump_mem d2 ((b1 i hi).1 h) (by have := hg.lt i hi; omega), eS i hi]
        · rw [bump_other h, bump_other (fun h' => h ((b1 i hi).2 h')), eS i hi]

/-- More people, and as many seats: no smaller a rank. -/
theorem cmpR_more (m : Int) {p q s : Int} (q1 : 1 ≤ q) (h : q ≤ p) (s0 : 0 ≤ s) : 0 ≤ cmpR m p s q s := by
  have n1 := postN_nonneg m s0
  have d1 := postD_pos m s0
  have ht : topOf m q ≤ topOf m p := by
    unfold topOf
    split
    · exact Int.mul_le_mul h h (by omega) (by omega)
    · exact h
  unfold cmpR
  split
  · rw [sideOf_nonneg]; omega
  · rw [sideOf_nonneg]
    rw [show topOf m p * postD m s * postN m s - topOf m q * postD m s * postN m s = (topOf m p - topOf m q) * (postD m s * postN m s) by grind]
    exact Int.mul_nonneg (by omega) (Int.mul_nonneg (by omega) n1)
theorem award_more {m : Int} {P : List Int} {i j : Nat} (hi : i < P.length) (hp : atI P j ≤ atI P i) : ∀ (k : Nat) (S : List Int) (left : Int) (o : List Nat), S.length = P.length → (∀ i, 0 ≤ atI S i) → atI S j ≤ atI S i →
    atI (award (cmpR m) P (full P) k S left o).seats j ≤ atI (award (cmpR m) P (full P) k S left o).seats i := by
  intro k
  induction k with
  | zero => exact fun S left o _ _ h => h
  | succ k ih =>
    intro S left o l1 hS h
    unfold award
    split
    · exact h
    · split
      · exact h
      · refine ih _ _ _ (by rw [bump_length]; exact l1) (fun i => Int.le_trans (hS i) (bump_le i)) ?_
        have d1 := (full_nodup P).sublist (bestL_sub (vs (cmpR m) P S) (full P))
        have hC : ∀ i ∈ full P, 1 ≤ atI P i := fun i hi => by have := (mem_full.1 hi).2; omega
        by_cases hj : j ∈ bestL (vs (cmpR m) P S) (full P)
        · have hjn := (mem_full.1 ((bestL_sub _ _).subset hj)).1
          rw [bump_mem d1 hj (by omega)]
          by_cases hm : i ∈ bestL (vs (cmpR m) P S) (full P)
          · rw [bump_mem d1 hm (by omega)]; omega
          · rw [bump_other hm]
            rcases Int.lt_or_eq_of_le h with h' | h'
            · omega
            · exfalso
              apply hm
              have hb := (best_mem _ (vs_pre (cmpR_rank m) hC hS) j).1 hj
              have hj1 := hC j hb.1
              refine (best_mem _ (vs_pre (cmpR_rank m) hC hS) i).2 ⟨mem_full.2 ⟨hi, by omega⟩, fun z hz => ?_⟩
              have h1 : 0 ≤ cmpR m (atI P i) (atI S i) (atI P j) (atI S j) := by rw [h']; exact cmpR_more m hj1 hp (hS i)
              exact (cmpR_rank m).trans _ _ _ _ _ _ (by omega) (hS i) hj1 (hS j) (hC z hz) (hS z) h1 (hb.2 z hz)
        · rw [bump_other hj]
          exact Int.le_trans h (bump_le i)
end Go.Proofs.YtebbhhdnjflmcaaGreat

/- What DivisorScales calls besides: total, Contains, Clone as a slice of one's own. -/
namespace Go.Proofs.YtebbhhdnjflmcaaGreat
open Go.RowKit Go.Shelf
set_option linter.unusedSimpArgs false
set_option linter.unusedVariables false

set_option maxHeartbeats 1000000 in
theorem total_any (A : Option Addr) (n c : Nat) (xs : List Int) (w : World) (hs : Sl w .i64 A n xs) (hn : n ≤ 1000) (hp : ∀ x ∈ xs, 0 ≤ x) (hb : xs.sum ≤ 1000000) :
    Calls Tryz.prog 27 #[.slice A n c] w (fun e w' => e = .returned (.int .i64 xs.sum) ∧ w = w') := by
  have HP := Lib.hid hp
  have HL := Lib.hid hs.1
  clear hp
  go_enter Tryz.func27, Tryz.ntmps27
  go_wp2
  go_loop [3, 8] (fun sm i => ∃ k : Nat, k ≤ n ∧ i = .int .i64 k ∧ sm = .int .i64 (xs.take k).sum) (fun _ i => n - (intOf i).toNat)
  case atStart => exact ⟨0, by omega, rfl, rfl⟩
  case round =>
    obtain ⟨k, hk, rfl, rfl⟩ := hrel
    have hts := take_sum_le HP.out k
    by_cases hlt : k < n
    · obtain ⟨a, x, rfl, ha, hxk, hcx⟩ := hs.at hlt
      have HT := Lib.hid (take_sum_succ hxk)
      have hts2 := take_sum_le HP.out (k + 1)
      have hx0 := HP.out x (List.mem_of_getElem? hxk)
      have hx1 : x ≤ 1000000 := by have := HT.out; omega
      have hlt' : (k : Int) < n := by omega
      obtain ⟨z, hz⟩ : ∃ z, (xs.take k).sum = z := ⟨_, rfl⟩
      rw [hz] at hts ⊢
      have HZ := Lib.hid hz
      have z0 := hts.1
      have z1 : z ≤ 1000000 := by omega
      clear hxk hts hts2 hz
      go_wp2
      go_round
      case rel => exact ⟨k + 1, by omega, by go_num, by rw [HT.out, HZ.out]⟩
      case measure => simp [intOf]; omega
    · obtain rfl : n = k := by omega
      have hsum : (xs.take n).sum = xs.sum := by rw [List.take_of_length_le (by rw [HL.out]; exact Nat.le_refl _)]
      rw [hsum]
      clear hts hsum
      go_wp2
      go_ret
      exact ⟨rfl, rfl⟩

theorem contains_any (A : Option Addr) (n c : Nat) (xs : List Int) (x : Int) (w : World) (hs : Sl w .i64 A n xs) (hn : n ≤ 9223372036854775807) :
    Calls Tryz.prog 30 #[.slice A n c, .int .i64 x] w (fun e w' => e = .returned (.bool (xs.contains x)) ∧ w = w') := by
  rcases Nat.eq_zero_or_pos n with h0 | h0
  · subst h0
    obtain rfl : xs = [] := List.eq_nil_of_length_eq_zero hs.1
    refine (Tryz.slices_Contains_int_empty A c x w).mono ?_
    rintro e w' ⟨rfl, rfl⟩
    exact ⟨rfl, rfl⟩
  · obtain ⟨b, o, rfl, hc⟩ := hs.plain h0
    refine (Tryz.slices_Contains_int b o n c xs x w (by rw [hs.1]; exact Nat.le_refl _) hn hc).mono ?_
    rintro e w' ⟨rfl, rfl⟩
    refine ⟨?_, rfl⟩
    rw [List.take_of_length_le (by rw [hs.1]; exact Nat.le_refl _)]
theorem cloneOwn_any (A : Option Addr) (n c : Nat) (xs : List Int) (w : World) (hs : Sl w .i64 A n xs) (hn : 0 < n) (hn2 : n ≤ 17000000000000) :
    Calls Tryz.prog 18 #[.slice A n c] w (fun e w' => ∃ v, e = .returned v ∧ Own w' w.heap.size 3 .i64 v xs ∧ Lat w w') := by
  obtain ⟨b, o, rfl, hc⟩ := hs.plain hn
  have hl := hs.1
  refine (Tryz.slices_Clone_int b o n c xs w (by omega) (by omega) hc).mono ?_
  rintro e w' ⟨v, rfl, h1, _, hb⟩
  rw [List.take_of_length_le (by omega)] at h1
  rw [← hl] at h1
  exact ⟨v, rfl, h1, hb⟩
theorem ints_contains (l : List Nat) (i : Nat) : (ints l).contains (i : Int) = decide (i ∈ l) := by
  rw [Bool.eq_iff_iff, List.contains_iff_mem, decide_eq_true_eq]
  constructor
  · intro h
    obtain ⟨j, hj, e⟩ := List.mem_map.1 h
    have : j = i := by omega
    exact this ▸ hj
  · exact fun h => List.mem_map.2 ⟨i, h, rfl⟩

/-- A list turned: from place 'at' on, then what lay ahead of it. -/
def turnL (l : List Int) (k : Nat) : List Int := l.drop k ++ l.take k
theorem turnL_length (l : List Int) {k : Nat} (h : k ≤ l.length) : (turnL l k).length = l.length := by simp [turnL]; omega
theorem turnL_at (l : List Int) {k i : Nat} (h : k < l.length) (hi : i < l.length) : atI (turnL l k) i = atI l ((i + k) % l.length) := by
  unfold turnL atI
  rw [List.getElem?_append, List.length_drop]
  split
  · rename_i h1
    rw [List.getElem?_drop, Nat.mod_eq_of_lt (by omega), Nat.add_comm]
  · rename_i h1
    have e : (i + k) % l.length = i - (l.length - k) := by
      rw [Nat.mod_eq_sub_mod (by omega), Nat.mod_eq_of_lt (by omega)]
      omega
    rw [e, List.getElem?_take_of_lt (by omega)]
theorem turn_turn {n k : Nat} (hk : k < n) : Turn n (fun i => (i + k) % n) where
  lt := fun i _ => Nat.mod_lt _ (by omega)
  inj := by
    intro i j hi hj h
    have hi' : (i + k) % n = if i + k < n then i + k else i + k - n := by
      split
      · exact Nat.mod_eq_of_lt ‹_›
      · rw [Nat.mod_eq_sub_mod (by omega), Nat.mod_eq_of_lt (by omega)]
    have hj' : (j + k) % n = if j + k < n then j + k else j + k - n := by
      split
      · exact Nat.mod_eq_of_lt ‹_›
      · rw [Nat.mod_eq_sub_mod (by omega), Nat.mod_eq_of_lt (by omega)]
    simp only [hi', hj'] at h
    split at h <;> split at h <;> omega
  onto := by
    intro j hj
    by_cases h : k ≤ j
    · exact ⟨j - k, by omega, by show (j - k + k) % n = j; rw [Nat.sub_add_cancel h, Nat.mod_eq_of_lt hj]⟩
    · refine ⟨j + n - k, by omega, ?_⟩
      show (j + n - k + k) % n = j
      rw [Nat.sub_add_cancel (by omega), Nat.add_mod_right, Nat.mod_eq_of_lt hj]
theorem turnL_sum (l : List Int) (k : Nat) : (turnL l k).sum = l.sum := by
  unfold turnL
  rw [List.sum_append, Int.add_comm, ← List.sum_append, List.take_append_drop]
theorem turnL_mem {l : List Int} {k : Nat} {x : Int} : x ∈ turnL l k ↔ x ∈ l := by
  unfold turnL
  rw [List.mem_append, or_comm, ← List.mem_append, List.take_append_drop]
theorem turnL_census {l : List Int} {k : Nat} (hk : k ≤ l.length) (h : censusB l = true) : censusB (turnL l k) = true := by
  obtain ⟨a, b, c⟩ := census_iff.1 h
  exact census_iff.2 ⟨by rw [turnL_length l hk]; exact a, fun x hx => b x (turnL_mem.1 hx), by rw [turnL_sum]; exact c⟩
end Go.Proofs.YtebbhhdnjflmcaaGreat

/- DivisorScales: the walk. -/
namespace Go.Proofs.YtebbhhdnjflmcaaGreat
open Go.RowKit Go.Shelf
set_option linter.unusedSimpArgs false
set_option linter.unusedVariables false

/-- 'append(out, xs...)' at a step of a region that draws its order. -/
theorem step_glue {P : Program} {ops : Array Oper} {o : Oper} {a : Act} {K : Act → World → Prop} {Q : Exit → Act → World → Prop} {E0 : Prop} (hgd : o.guard = none) (s x : Operand) (t : TypeId)
    (ho : o.op = .call { callee := .builtin .append, args := #[s, x], argTypes := #[t, t] })
    (B : Nat) (E : TypeId) (k : IntKind) (by_ : Nat) (ht : P.underlying t = some (.slice E)) (hinfo : (P.info? E).map (fun i => (i.zero, i.size, i.bytes)) = some (some (.int k 0), 1, by_)) (hby : by_ ≤ 8)
    (v : Value) (os xs : List Int) (w : World) (hs : a.eval s = v) (hown : Own w B E k v os)
    (ad : Addr) (n c : Nat) (hx : a.eval x = .slice (some ad) n c) (hxs : Sl w k (some ad) n xs) (hlen : os.length + n ≤ 17000000000000) (hB : B ≤ w.heap.size)
    (h : ∀ v' w', Own w' B E k v' (os ++ xs) → (∀ W0, Lat W0 w → W0.heap.size ≤ B → Lat W0 w') → K (a.put o.dst v') w') :
    if Region.wanted o (yielded ops a.tmps) = true then Oper.wp P o a w K Q else E0 := by
  obtain ⟨i0, hi, hz0, hz1, hz2⟩ := info_parts hinfo
  have hl := hxs.1
  have hw : Region.wanted o (yielded ops a.tmps) = true := by simp [Region.wanted, hgd]
  rw [if_pos hw]
  refine wp_append_own w s x t ho B E i0 (.int k 0) 1 by_ ht hi hz0 hz1 hz2 rfl (by decide) v os.length _ hs hown ad n c (xs.map (Value.int k)) hx (by simp [hl]) ?_ ?_ ?_ ?_ hB ?_
  · intro j u hu
    have hj : j < n := by
      have := (List.getElem?_eq_some_iff.1 hu).1
      simpa [hl] using this
    obtain ⟨a', e, _, hc⟩ := hxs.2 (by omega)
    cases e
    rw [List.getElem?_map] at hu
    cases hxj : xs[j]? with
    | none => rw [hxj] at hu; cases hu
    | some y => rw [hxj] at hu; cases hu; exact hc j y hxj
  · exact ints_oneCell _ _
  · unfold maxLen; omega
  · have := Nat.mul_le_mul_left (os.length + n) hby; omega
  · intro v' w' h1 h2 _
    refine h v' w' ?_ (fun W0 hl' hle => Own.lat hown hl' hle h2)
    unfold Own
    rw [List.length_append, List.map_append, hl]
    exact h1

/-- The minimums may be. -/
structure LowOk (n : Nat) (s : Int) (L : List Int) : Prop where
  len : L.length = n
  pos : ∀ x ∈ L, 0 ≤ x
  sum : L.sum ≤ s
theorem giveE_low {C L : List Int} {s m : Int} (hc : censusB C = true) (s0 : 1 ≤ s) (s1 : s ≤ 1000) (m0 : 11 ≤ m) (m1 : m ≤ 15) (h0 : 0 < C.length) (hL : LowOk C.length s L) : giveE C s m L = 0 ∧ giveF C s m L = awardOf (cmpR m) C L (s - L.sum) := by
  have hne : L ≠ [] := by intro e; have := hL.len; rw [e] at this; simp at this; omega
  have hlo : lowOf C.length L = L := lowOf_of hne
  have hlow : lowB C.length s L = true := by
    simp only [lowB, hlo, Bool.and_eq_true, decide_eq_true_eq, inAll_iff]
    refine ⟨hL.len, fun x hx => ⟨hL.pos x hx, ?_⟩⟩
    obtain ⟨i, hi, rfl⟩ := List.getElem_of_mem hx
    have := (atI_sum_le hL.pos i).2
    rw [atI_of (List.getElem?_eq_getElem hi)] at this
    have := hL.sum
    omega
  have hsum := hL.sum
  have he : giveE C s m L = 0 := by
    rw [giveE, if_neg (by simp [hc]), if_neg (by simp [askB, s0, s1, m0, m1]), if_neg (by simp [hlow]), hlo, if_neg (by omega)]
  exact ⟨he, by rw [giveF, if_pos he, giveA, hlo]⟩
theorem lowOk_turn {n : Nat} {s : Int} {L : List Int} {k : Nat} (hk : k ≤ n) (h : LowOk n s L) : LowOk n s (turnL L k) :=
  ⟨by rw [turnL_length L (by rw [h.len]; exact hk)]; exact h.len, fun x hx => h.pos x (turnL_mem.1 hx), by rw [turnL_sum]; exact h.sum⟩

/-- The first k numbers by a factor. -/
def mulTo (l : List Int) (b : Int) (k : Nat) : List Int := (l.take k).map (· * b) ++ l.drop k
theorem mulTo_zero (l : List Int) (b : Int) : mulTo l b 0 = l := by simp [mulTo]
theorem mulTo_all (l : List Int) (b : Int) : mulTo l b l.length = l.map (· * b) := by simp [mulTo]
theorem mulTo_length (l : List Int) (b : Int) (k : Nat) : (mulTo l b k).length = l.length := by simp [mulTo]; omega
theorem mulTo_at (l : List Int) (b : Int) (k : Nat) : (mulTo l b k)[k]? = l[k]? := by
  unfold mulTo
  rcases Nat.lt_or_ge k l.length with h | h
  · rw [List.getElem?_append_right (by simp; omega)]
    simp [Nat.min_eq_left (Nat.le_of_lt h)]
  · rw [List.getElem?_eq_none h, List.getElem?_eq_none (by simp; omega)]
theorem mulTo_set {l : List Int} {b x : Int} {k : Nat} (h : l[k]? = some x) : (mulTo l b k).set k (x * b) = mulTo l b (k + 1) := by
  obtain ⟨hl, rfl⟩ := List.getElem?_eq_some_iff.1 h
  unfold mulTo
  rw [List.take_succ_eq_append_getElem hl, List.map_append, List.drop_eq_getElem_cons hl, List.set_append_right _ _ (by simp; omega)]
  have : k - ((l.take k).map (· * b)).length = 0 := by simp; omega
  rw [this, List.set_cons_zero, List.append_assoc]
  rfl

set_option maxRecDepth 100000 in
set_option maxHeartbeats 8000000 in
theorem dScales_any (Ap : Option Addr) (np cp : Nat) (ps : List Int) (u : Int) (Al : Option Addr) (nl cl : Nat) (ls : List Int) (s me fb tu : Int) (w : World)
    (hp : Sl w .u16 Ap np ps) (hnp : np ≤ 9223372036854775807) (hrp : ∀ x ∈ ps, 0 ≤ x ∧ x ≤ 65535) (u0 : 0 ≤ u) (u1 : u ≤ 255) (hl : Sl w .u8 Al nl ls) (hnl : nl ≤ 9223372036854775807) (hrl : ∀ x ∈ ls, 0 ≤ x ∧ x ≤ 255) (s0 : 0 ≤ s) (s1 : s ≤ 65535) (a0 : 0 ≤ me) (a1 : me ≤ 255)
    (b0 : 0 ≤ fb) (b1 : fb ≤ 255) (d0 : 0 ≤ tu) (d1 : tu ≤ 255) :
    Calls Tryz.prog 7 #[.agg #[.slice Ap np cp, .int .u8 u, .slice Al nl cl, .int .u16 s], .int .u8 me, .int .u8 fb, .int .u8 tu] w (Yes w) := by
  have HC := fun w (h : Sl w .u16 Ap np ps) => census_any Ap np cp ps u Al nl cl s w h hnp hrp u0 u1
  have HM := fun w (h : Sl w .u16 Ap np ps) (h2 : Sl w .u8 Al nl ls) => draftMin_any Ap np cp ps u Al nl cl ls s w h hnp hrp u0 u1 h2 hnl hrl s0 s1
  have HH := fun w => house_any Ap np cp u Al nl cl s w s0 s1
  have hok := draftC_ok u0 u1 hrp
  have hmk := draftM_ok u s ps ls
  have hcs := draftC_census u0 u1 hrp
  have hhr := @houseN_range s
  obtain ⟨C, hC⟩ : ∃ C, draftC u ps = C := ⟨_, rfl⟩
  obtain ⟨M, hM⟩ : ∃ M, draftM u s ps ls = M := ⟨_, rfl⟩
  obtain ⟨h, hh⟩ : ∃ h, houseN s = h := ⟨_, rfl⟩
  rw [hC] at HC hok hcs hmk
  rw [hM] at HM hmk
  rw [hh] at HH hhr hmk
  have hc0 := hok.2.2.1
  have hc9 := hok.2.2.2
  have HCP := Lib.hid hok.1
  have HCS := Lib.hid hcs
  have HMK := Lib.hid hmk
  have hh0 := hhr.1
  have hh1 := hhr.2
  have HC' := Lib.hid HC
  have HM' := Lib.hid HM
  have HH' := Lib.hid HH
  clear hrp hrl hC hM hh hok hmk HC HM HH hcs hhr
  go_enter Tryz.func7, Tryz.ntmps7
  go_wp2_with fail
  refine name1 (Q := fun W => Calls _ _ _ W _) ?_
  intro W1 L1 hs1 k1
  refine (wakes_any W1).mono ?_
  rintro e W2 ⟨rfl, l1⟩
  have L2 := L1.trans l1
  have k2 := k1.later l1
  have hp2 := hp.later L2
  have hl2 := hl.later L2
  clear l1 k1
  have HX := fun w (h : Lat W2 w) => HC'.out w (hp2.later h)
  have HY := fun w (h : Lat W2 w) => HM'.out w (hp2.later h) (hl2.later h)
  go_upto_region 3 with (fail)
  go_cut [9, 10, 11, 12] from 28 to 38 (fun c l k t wx => ∃ Ac cc Am cm m, c = .slice Ac C.length cc ∧ l = .slice Am C.length cm ∧ k = .int .i64 m ∧ t = .int .i64 (min h 40) ∧ Sl wx .i64 Ac C.length C ∧ C.length ≤ cc ∧ Sl wx .i64 Am C.length M ∧ C.length ≤ cm ∧ 11 ≤ m ∧ m ≤ 15 ∧ Lat W2 wx)
  case first =>
    have hnn : w.heap.size ∉ ([] : List Nat) := by simp
    have b0 := k2.evS hnn 0 rfl
    have b1 := k2.evS hnn 1 rfl
    have b2 := k2.evS hnn 2 rfl
    have b3 := k2.evS hnn 3 rfl
    have L0 := Lat.drew W2
    have M0 := L0.s ([] : List Nat)
    obtain ⟨kk, hkk⟩ : ∃ kk, me.tmod 5 = kk := ⟨_, rfl⟩
    obtain ⟨mm, hmm0, hmm1, hix⟩ := idx61 (k := kk) (by rw [← hkk, Int.tmod_eq_emod_of_nonneg a0]; omega) (by rw [← hkk, Int.tmod_eq_emod_of_nonneg a0]; omega)
    have hml := HMK.out.1
    go_region_held3 (fun w' => LatS W2 ([] : List Nat) w') (first | (with_reducible assumption) | ((repeat refine LatS.set ?_ (by simp) _); (with_reducible assumption)))
      (first
        | (go_at_call 16; (with_reducible refine (HX _ L0).mono ?_); rintro e wc ⟨Ac, cc, rfl, q1, q2, q3, q4⟩; have LC := L0.trans q3; have MC := LC.s ([] : List Nat))
        | (go_at_call 17; (with_reducible refine (HY _ LC).mono ?_); rintro e wd ⟨Am, cm, rfl, p1, p2, p3, p4⟩; have LD := LC.trans p3; have MD := LD.s ([] : List Nat))
        | (go_at_call 26; (with_reducible refine (methods_any _).mono ?_); rintro e wn ⟨rfl, s3⟩; have LN := LD.trans s3; have MN := LN.s ([] : List Nat))
        | (go_at_call 19; (with_reducible refine (HH'.out _).mono ?_); rintro e wm ⟨rfl, r3⟩; have LM := LN.trans r3; have MM := LM.s ([] : List Nat)))
    all_goals
      rw [hml] at p1 p2
      go_wp2_with fail
      go_meet
      exact ⟨Ac, cc, Am, cm, _, rfl, by first | rfl | rw [hml], rfl, rfl, ((q1.later p3).later s3).later r3, q2, (p1.later s3).later r3, p2, hmm0, hmm1, LM⟩
  case rest =>
    obtain ⟨Ac, cc, Am, cm, m, rfl, rfl, rfl, rfl, q1, qc1, r1, rc1, m0, m1, l3⟩ := hcut
    have L3 := L2.trans l3
    obtain ⟨t, ht⟩ : ∃ t, min h 40 = t := ⟨_, rfl⟩
    have t0 : 1 ≤ t := by omega
    have t1 : t ≤ 40 := by omega
    rw [ht]
    have hMp : ∀ x ∈ M, 0 ≤ x := fun x hx => (HMK.out.2.2 x hx).1
    have hMs := HMK.out.2.1
    have HMp := Lib.hid hMp
    have HML := Lib.hid HMK.out.1
    have HTot := fun w (h : Sl w .i64 Am C.length M) => total_any Am C.length cm M w h (by omega) hMp (by omega)
    have hms0 := sum_nonneg hMp
    obtain ⟨sm, hsm⟩ : ∃ sm, M.sum = sm := ⟨_, rfl⟩
    rw [hsm] at HTot hms0
    have HSM := Lib.hid hsm
    clear HX HY k2 l3 hp2 hl2 L2 HC' HM' HH' hh0 hh1 hMp hMs ht hsm
    go_wp2_with fail
    refine (HTot wc r1).mono ?_
    rintro e w4 ⟨rfl, rfl⟩
    obtain ⟨Wa, rfl⟩ : ∃ Wa, Wa = wc := ⟨wc, rfl⟩
    go_upto_if 43 with (fail)
    go_cut [10] from 44 to 46 (fun l wx => ∃ Az cz Lz, l = .slice Az C.length cz ∧ Hid (LowOk C.length t Lz) ∧ Sl wx .i64 Az C.length Lz ∧ C.length ≤ cz ∧ Lat Wa wx)
    case first =>
      by_cases hgt : t < sm
      · have hmk := run_make_nums (P := Tryz.prog) (t := 44) (e := 3) (k := .i64) (by_ := 8) Tryz.underlying44 (by kernel_rfl) (C.length : Int) C.length rfl (by omega) (by omega)
        go_wp2_with fail
        go_meet
        exact ⟨some ⟨Wa.heap.size, 0, none⟩, C.length, List.replicate C.length 0, rfl, ⟨by simp, fun x hx => by rw [List.mem_replicate] at hx; omega, by rw [sum_zeros]; omega⟩, Sl.of_blk' (t := 3) (Blk.new _ _ _) (by simp), Nat.le_refl _, Lat.alloc _ _⟩
      · go_wp2_with fail
        go_meet
        exact ⟨Am, cm, M, rfl, ⟨HML.out, HMp.out, by rw [HSM.out]; omega⟩, r1, rc1, Lat.refl _⟩
    case rest =>
      obtain ⟨Az, cz, Lz, rfl, HLO, z1, zc1, l4⟩ := hcut
      have L4 := L3.trans l4
      have q1 := q1.later l4
      have hgv := giveE_low (m := m) HCS.out t0 (by omega) m0 m1 hc0 HLO.out
      have F1 := fun w (h : Sl w .i64 Ac C.length C) (h2 : Sl w .i64 Az C.length Lz) => dGive_any Ac C.length cc C Az C.length cz Lz t m w h h2 (by omega) (by omega)
      rw [hgv.1, hgv.2] at F1
      have hFA := awardOf_adds (f := cmpR m) (P := C) (Z := Lz) (full_ne (census_iff.1 HCS.out).2.2) HLO.out.len (show 0 ≤ t - Lz.sum by have := HLO.out.sum; omega)
      have hFt := (giveF_len C t m Lz).2.1
      rw [hgv.2] at hFt
      obtain ⟨F, hFF⟩ : ∃ F, awardOf (cmpR m) C Lz (t - Lz.sum) = F := ⟨_, rfl⟩
      rw [hFF] at F1 hFA hFt
      have HFF := Lib.hid hFF
      have HFA := Lib.hid hFA
      have hFl : F.seats.length = C.length := by rw [hFA.seats, bump_length]; exact HLO.out.len
      have HFl := Lib.hid hFl
      clear hgv hFA hFF L3 l4 r1 HTot HSM HMp HML HMK hms0 hFl
      go_wp2_with fail
      refine (F1 wc q1 z1).mono ?_
      rintro e v1 ⟨A1, n1, c1, A2, n2, c2, rfl, f1, f2, x1⟩
      obtain rfl : n1 = C.length := by have := f1.1; have := HFl.out; omega
      have hn2 : n2 ≤ 60 := by have := f2.1; simp only [ints, List.length_map] at this; omega
      have y1 := L4.trans x1
      have q1 := q1.later x1
      have z1 := z1.later x1
      clear F1 x1 L4
      go_upto_region 8 with (fail)
      refine name1 (Q := fun W => Code.wp _ _ _ _ W) ?_
      intro v2 x2 hs2 kb1
      have q1 := q1.later x2
      have z1 := z1.later x2
      have f1 := f1.later x2
      have f2 := f2.later x2
      have y2 := y1.trans x2
      clear x2 y1
      have kb1o := kb1
      have d1_0 := kb1.cell 0
      have d1_1 := kb1.cell 1
      have d1_2 := kb1.cell 2
      go_wp2_with fail
      clear d1_0 d1_1 d1_2
      refine (clone_any Ac C.length cc C v2 q1 hc0 (by omega)).mono ?_
      rintro e v3 ⟨gm, cg, rfl, rowm, hgm, x3⟩
      have kb1 := kb1.later x3
      have q1o := q1
      have z1o := z1
      have f1o := f1
      have f2o := f2
      have hkb1 := kb1o.lt
      have q1 := q1.later x3
      have z1 := z1.later x3
      have f1 := f1.later x3
      have f2 := f2.later x3
      have y3 := y2.trans x3
      have hy2 := y2.size
      have hx3 := x3.size
      clear x3 y2
      obtain ⟨fa, hfa⟩ : ∃ fa, 2 + fb % 40 = fa := ⟨_, rfl⟩
      have fa0 : 2 ≤ fa := by omega
      have fa1 : fa ≤ 41 := by omega
      have htf : fb.tmod 40 = fa - 2 := by rw [Int.tmod_eq_emod_of_nonneg b0]; omega
      clear hfa
      go_wp2
      obtain ⟨v3', hv3⟩ : ∃ v, v = v3 := ⟨_, rfl⟩
      go_loopw [69] (fun i wr => ∃ k : Nat, k ≤ C.length ∧ i = .int .i64 k ∧ RowN wr gm C.length (mulTo C fa k) ∧ LatP (· = gm) v3 wr) (fun i _ => C.length - (intOf i).toNat)
      case atStart => exact ⟨0, by omega, rfl, by rw [mulTo_zero]; exact rowm, LatP.refl _ _⟩
      case round =>
        obtain ⟨k, hk, rfl, hrow, hlr⟩ := hrel
        by_cases hlt : k < C.length
        · obtain ⟨x, hxk⟩ : ∃ x, C[k]? = some x := ⟨_, List.getElem?_eq_getElem hlt⟩
          have hx01 := HCP.out x (List.mem_of_getElem? hxk)
          have hx0 := hx01.1
          have hx1 := hx01.2
          have e1 : wr.cell? ⟨gm, k, none⟩ = some (.int .i64 x) := hrow.cell (by rw [mulTo_at]; exact hxk)
          obtain ⟨cur, hcur, _⟩ := id hrow
          have e2 := hcur.frozen k
          have hw : IntKind.i64.wrap (2 + (fa - 2)) = fa := by rw [IntWalk.i64_in _ (by omega)]; omega
          have hmul0 := Int.mul_nonneg hx0 (show 0 ≤ fa by omega)
          have hmul1 : x * fa ≤ 17000000 * 41 := Int.mul_le_mul hx1 fa1 (by omega) (by omega)
          have hrow2 := hrow.set (i := k) (by rw [mulTo_length]; exact hlt) (x * fa)
          rw [mulTo_set hxk] at hrow2
          have e3 : 2 + (fa - 2) = fa := by omega
          have hlt' : (k : Int) < C.length := by omega
          clear hrow hcur hxk hx01
          go_wp2
          go_roundw
          case rel => exact ⟨k + 1, by omega, by go_num, hrow2, hlr.trans (setP _ _ _ _)⟩
          case measure => simp [intOf]; omega
        · obtain rfl : C.length = k := by omega
          rw [mulTo_all] at hrow
          clear hlt hk
          have y4 : Lat w wr := hlr.lat y3 (fun k h => by have h' : k = gm := h; omega)
          have hgn : ∀ {A : Option Addr} {n : Nat} {xs : List Int}, Sl v2 .i64 A n xs → 0 < n → ∀ a, A = some a → a.block ≠ gm := fun h hn a e => by
            obtain ⟨a', e', hlt', _⟩ := h.2 hn
            rw [e] at e'; cases e'; omega
          have lift : ∀ {A : Option Addr} {n : Nat} {xs : List Int}, Sl v2 .i64 A n xs → Sl v3 .i64 A n xs → Sl wr .i64 A n xs := fun h h' => by
            refine ⟨h'.1, fun hn => ?_⟩
            obtain ⟨a, e, hlt', hc⟩ := h'.2 hn
            refine ⟨a, e, Nat.lt_of_lt_of_le hlt' hlr.size, fun i x hx => ?_⟩
            rw [← hc i x hx]
            exact World.cell?_of_block (by rw [block_add]; exact hlr.block _ hlt' (hgn h hn a e))
          have q4 := lift q1o q1
          have z4 := lift z1o z1
          have g1 := lift f1o f1
          have g2 := lift f2o f2
          have kb4 := kb1.keepP hlr (by omega)
          have hmo := hrow.sl
          obtain ⟨v4, rfl⟩ : ∃ v, v = wr := ⟨_, rfl⟩
          clear lift hgn q1o z1o f1o f2o q1 z1 f1 f2 kb1 hlr y3 hrow rowm
          have HCk := qCheck_any (some ⟨gm, 0, none⟩) C.length cg (C.map (· * fa)) v4 hmo (by omega)
          cases hcm : censusB (C.map (· * fa))
          case' true =>
            rw [cenE_yes hcm] at HCk
            go_wp2_with fail
            refine HCk.mono ?_
            rintro e v5 ⟨rfl, rfl⟩
            have hgv := giveE_low (m := m) hcm t0 (by omega) m0 m1 (by simpa using hc0) (by simpa using HLO.out)
            rw [awardOf_mul _ _ _ (by omega), HFF.out] at hgv
            have HG := gives_any (some ⟨gm, 0, none⟩) C.length cg (C.map (· * fa)) Az C.length cz Lz t m A1 C.length c1 F.seats A2 n2 c2 (ints F.tied) F.left v4 hmo z4 (by omega) (by omega) g1 g2 (by omega) (by omega) hgv.1 (by rw [hgv.2]; have := HFl.out; omega) (by rw [hgv.2]; omega)
            rw [hgv.2, sameB_self] at HG
            have d1_0 := kb4.cell 0
            have d1_1 := kb4.cell 1
            have d1_2 := kb4.cell 2
            clear HCk hcm hgv
            go_wp2_with fail
            refine HG.mono ?_
            rintro e v5 ⟨rfl, x5⟩
            clear d1_0 d1_1 d1_2 HG
          case' false =>
            rw [cenE_no hcm] at HCk
            go_wp2_with fail
            refine HCk.mono ?_
            rintro e v5 ⟨rfl, rfl⟩
            have x5 := Lat.refl v4
            obtain ⟨v5, rfl⟩ : ∃ v, v = v4 := ⟨_, rfl⟩
            clear HCk hcm
          all_goals
            clear hmo
            have q5 := q4.later x5
            have z5 := z4.later x5
            have g3 := g1.later x5
            have g4 := g2.later x5
            have kb5 := kb4.later x5
            have y5 := y4.trans x5
            clear q4 z4 g1 g2 kb4 y4 x5
            obtain ⟨ac, _, hac, _⟩ := q5.at hc0
            obtain ⟨az, _, haz, _⟩ := z5.at hc0
            subst hac haz
            obtain ⟨r, hr⟩ : ∃ r : Nat, tu % (C.length : Int) = r := ⟨(tu % (C.length : Int)).toNat, (Int.toNat_of_nonneg (Int.emod_nonneg _ (by omega))).symm⟩
            have hrl : r < C.length := by have := Int.emod_lt_of_pos tu (show (0 : Int) < C.length by omega); omega
            have htr : tu.tmod (C.length : Int) = r := by rw [Int.tmod_eq_emod_of_nonneg d0]; exact hr
            have hcl1 : (C.length : Int) ≠ 0 := by omega
            clear hr
            obtain ⟨Acd, ccd, hsl1, sd1, _⟩ := run_from (P := Tryz.prog) Tryz.underlying44 infoI64 q5 (lo := r) (by omega) qc1 (r : Int) rfl
            obtain ⟨Azd, czd, hsl2, sd2, _⟩ := run_from (P := Tryz.prog) Tryz.underlying44 infoI64 z5 (lo := r) (by omega) zc1 (r : Int) rfl
            have st1 := q5.take (m := r) (by omega)
            have st2 := z5.take (m := r) (by omega)
            have hl1 : (C.drop r).length = C.length - r := List.length_drop
            have hl2 : (Lz.drop r).length = C.length - r := by rw [List.length_drop, HLO.out.len]
            have K1 := fun w (h : Lat v5 w) => cloneOwn_any Acd (C.length - r) ccd (C.drop r) w (sd1.later h) (by omega) (by omega)
            have K2 := fun w (h : Lat v5 w) => cloneOwn_any Azd (C.length - r) czd (Lz.drop r) w (sd2.later h) (by omega) (by omega)
            have HL1 := Lib.hid hl1
            have HL2 := Lib.hid hl2
            have hrc : r ≤ cc := by omega
            have hrz : r ≤ cz := by omega
            clear hl1 hl2
            go_upto_region 20 with (fail)
            go_cut [20, 21] from 101 to 116 (fun p l wx => ∃ Aq cq Al' cl', p = .slice Aq C.length cq ∧ l = .slice Al' C.length cl' ∧ Sl wx .i64 Aq C.length (turnL C r) ∧ Sl wx .i64 Al' C.length (turnL Lz r) ∧ Lat v5 wx)
            case first =>
              have L0 := Lat.drew v5
              go_region_held3 (fun w' => Lat v5 w') (first | (with_reducible assumption))
                (first
                  | (go_at_call 18; (first | ((with_reducible refine (K1 _ L0).mono ?_); rintro e x1 ⟨o1, rfl, own1, l1⟩; have M1 := L0.trans l1; clear K1) | ((with_reducible refine (K2 _ M2).mono ?_); rintro e x3 ⟨o2, rfl, own2, l3⟩; have M3 := M2.trans l3)))
                  | (refine step_glue rfl _ _ 44 (by rfl) v5.drew.heap.size 3 .i64 8 Tryz.underlying44 infoI64 (by decide) o1 (C.drop r) (C.take r) x1 (by rfl) own1 ac r cc (by rfl) (st1.later M1) (by rw [HL1.out]; omega) l1.size ?_; intro p1 x2 ownp hlat2; have M2 := hlat2 v5 M1 (Nat.le_refl _); clear hlat2)
                  | (refine step_glue rfl _ _ 44 (by rfl) x2.heap.size 3 .i64 8 Tryz.underlying44 infoI64 (by decide) o2 (Lz.drop r) (Lz.take r) x3 (by rfl) own2 az r cz (by rfl) (st2.later M3) (by rw [HL2.out]; omega) l3.size ?_; intro p2 x4 ownq hlat4; have M4 := hlat4 v5 M3 (by have := M2.size; omega); have M5 := hlat4 x2 l3 (Nat.le_refl _); clear hlat4))
              go_wp2_with fail
              go_meet
              obtain ⟨Aq, cq, rfl, sq, _, _⟩ := (ownp.later M5).form
              obtain ⟨Al', cl', rfl, sl, _, _⟩ := ownq.form
              have e1 : (C.drop r ++ C.take r).length = C.length := turnL_length C (by omega)
              have e2 : (Lz.drop r ++ Lz.take r).length = C.length := by have := turnL_length Lz (k := r) (by rw [HLO.out.len]; omega); rw [HLO.out.len] at this; exact this
              rw [e1] at sq
              rw [e2] at sl
              exact ⟨Aq, cq, Al', cl', by rw [e1], by rw [e2], sq, sl, M4⟩
            case rest =>
              obtain ⟨Aq, cq, Ar, cr, rfl, rfl, sq, sl, l6⟩ := hcut
              obtain ⟨v6, rfl⟩ : ∃ v, v = wc := ⟨_, rfl⟩
              have q6 := q5.later l6
              have z6 := z5.later l6
              have g5 := g3.later l6
              have g6 := g4.later l6
              have kb6 := kb5.later l6
              have y6 := y5.trans l6
              have hlt1 := turnL_length C (k := r) (by omega)
              have hlow2 := lowOk_turn (k := r) (by omega) HLO.out
              have hgv := giveE_low (C := turnL C r) (L := turnL Lz r) (m := m) (turnL_census (by omega) HCS.out) t0 (by omega) m0 m1 (by omega) (by rw [hlt1]; exact hlow2)
              have hFt2 := (giveF_len (turnL C r) t m (turnL Lz r)).2.1
              have hGs := awardOf_adds (f := cmpR m) (P := turnL C r) (Z := turnL Lz r) (full_ne (census_iff.1 (turnL_census (k := r) (by omega) HCS.out)).2.2) (by rw [hlt1]; exact hlow2.len) (show 0 ≤ t - (turnL Lz r).sum by have := hlow2.sum; omega)
              have hGT := award_turn (cmpR_rank m) (turn_turn hrl) (P := C) (P' := turnL C r) rfl hlt1 (fun i hi => turnL_at C hrl hi) (t - Lz.sum).toNat Lz (turnL Lz r) (t - Lz.sum) [] [] HLO.out.len hlow2.len (fun i hi => by have := turnL_at Lz (k := r) (i := i) (by rw [HLO.out.len]; exact hrl) (by rw [HLO.out.len]; exact hi); rw [HLO.out.len] at this; exact this)
                (fun i => atI_sum_le' HLO.out.pos i) (fun i => atI_sum_le' hlow2.pos i)
              have F2 := fun w (h : Sl w .i64 Aq C.length (turnL C r)) (h2 : Sl w .i64 Ar C.length (turnL Lz r)) => dGive_any Aq C.length cq (turnL C r) Ar C.length cr (turnL Lz r) t m w h h2 (by omega) (by omega)
              rw [hgv.1, hgv.2] at F2
              rw [hgv.2] at hFt2
              rw [turnL_sum] at F2 hGs hFt2
              have hGT' : Turned C.length (fun i => (i + r) % C.length) (awardOf (cmpR m) (turnL C r) (turnL Lz r) (t - Lz.sum)) F := by rw [← HFF.out]; exact hGT
              obtain ⟨G, hGG⟩ : ∃ G, awardOf (cmpR m) (turnL C r) (turnL Lz r) (t - Lz.sum) = G := ⟨_, rfl⟩
              rw [hGG] at F2 hGs hFt2 hGT'
              have HGT := Lib.hid hGT'
              have hleft : G.left = F.left := hGT'.left
              have hGl : G.seats.length = C.length := by rw [hGs.seats, bump_length]; exact hlow2.len
              have HGl := Lib.hid hGl
              have HGL := Lib.hid hleft
              clear hgv hGs hGT hGT' hGG hlow2 hlt1 hGl hleft K1 K2 hsl1 hsl2 sd1 sd2 st1 st2 l6 q5 z5 g3 g4 kb5 y5
              go_wp2_with fail
              refine (F2 v6 sq sl).mono ?_
              rintro e v7 ⟨A3, n3, c3, A4, n4, c4, rfl, f3, f4, x7⟩
              obtain rfl : n3 = C.length := by have := f3.1; have := HGl.out; omega
              have hn4 : n4 ≤ 60 := by have := f4.1; simp only [ints, List.length_map] at this; omega
              rw [HGL.out]
              clear F2 hFt2
              go_upto_region 22 with (fail)
              refine name1 (Q := fun W => Code.wp _ _ _ _ W) ?_
              intro v8 x8 hs8 kb8
              have q8 := (q6.later x7).later x8
              have z8 := (z6.later x7).later x8
              have g7 := (g5.later x7).later x8
              have g8 := (g6.later x7).later x8
              have kb7 := (kb6.later x7).later x8
              have f3 := f3.later x8
              have f4 := f4.later x8
              have y8 := (y6.trans x7).trans x8
              clear q6 z6 g5 g6 kb6 y6 x7 x8 sq sl
              have d1_0 := kb7.cell 0
              have d1_1 := kb7.cell 1
              have d1_2 := kb7.cell 2
              have d2_0 := kb8.cell 0
              have d2_1 := kb8.cell 1
              have d2_2 := kb8.cell 2
              go_wp2
              clear d1_0 d1_1 d1_2 d2_0 d2_1 d2_2
              have hmo : ∀ i j, i < C.length → atI C j ≤ atI C i → atI Lz j ≤ atI Lz i → atI F.seats j ≤ atI F.seats i := fun i j hi h1 h2 => by
                rw [← HFF.out]
                exact award_more (m := m) (P := C) hi h1 (t - Lz.sum).toNat Lz (t - Lz.sum) [] HLO.out.len (fun i => atI_sum_le' HLO.out.pos i) h2
              have HMO := Lib.hid hmo
              clear hmo
              go_loopw [142] (fun i wr => ∃ k : Nat, k ≤ C.length ∧ i = .int .i64 k ∧ Lat v8 wr) (fun i _ => C.length - (intOf i).toNat)
              case atStart => exact ⟨0, by omega, rfl, Lat.refl _⟩
              case round =>
                obtain ⟨k, hk, rfl, hlr⟩ := hrel
                by_cases hlt : k < C.length
                · obtain ⟨vo, rfl⟩ : ∃ v, v = wr := ⟨_, rfl⟩
                  obtain ⟨j, hj⟩ : ∃ j, (k + r) % C.length = j := ⟨_, rfl⟩
                  have hjl : j < C.length := by rw [← hj]; exact Nat.mod_lt _ hc0
                  have e1 : IntKind.i64.wrap ((k : Int) + (r : Int)) = (k : Int) + r := IntWalk.i64_in _ (by omega)
                  have e2 : ((k : Int) + (r : Int)).tmod (C.length : Int) = (j : Int) := by
                    rw [Int.tmod_eq_emod_of_nonneg (by omega), ← hj]
                    simp
                  have g0 : (0 : Int) ≤ (k : Int) + r := by omega
                  have kbA := (kb7.later hlr).cell 0
                  have kbA1 := (kb7.later hlr).cell 1
                  have kbB := (kb8.later hlr).cell 0
                  have kbB1 := (kb8.later hlr).cell 1
                  have gA := g7.later hlr
                  have gT := g8.later hlr
                  have gB := f3.later hlr
                  have gU := f4.later hlr
                  obtain ⟨a, x, hA3, ha, hxk, hcx⟩ := gB.at hlt
                  subst hA3
                  obtain ⟨b, y, hA1, hb, hyk, hcy⟩ := gA.at hjl
                  subst hA1
                  have hxy := HGT.out.seats k hlt
                  simp only [hj] at hxy
                  rw [atI_of hxk, atI_of hyk] at hxy
                  subst hxy
                  have htd := HGT.out.tied k hlt
                  simp only [hj] at htd
                  obtain ⟨bb, hbb⟩ : ∃ bb, decide (k ∈ G.tied) = bb := ⟨_, rfl⟩
                  have hbb2 : decide (j ∈ F.tied) = bb := by rw [← hbb, Bool.eq_iff_iff, decide_eq_true_eq, decide_eq_true_eq]; exact htd.symm
                  have N1 : ∀ n, Calls Tryz.prog 30 #[.slice A4 n4 c4, .int .i64 (k : Int)] (vo.drewN n) (fun e w' => e = .returned (.bool bb) ∧ w' = vo.drewN n) := fun n => by
                    have := contains_any A4 n4 c4 (ints G.tied) (k : Int) (vo.drewN n) (gU.later (Lat.drewN _ _)) (by omega)
                    rw [ints_contains, hbb] at this
                    exact this.mono fun _ _ ⟨he, hw⟩ => ⟨he, hw.symm⟩
                  have N2 : ∀ n, Calls Tryz.prog 30 #[.slice A2 n2 c2, .int .i64 (j : Int)] (vo.drewN n) (fun e w' => e = .returned (.bool bb) ∧ w' = vo.drewN n) := fun n => by
                    have := contains_any A2 n2 c2 (ints F.tied) (j : Int) (vo.drewN n) (gT.later (Lat.drewN _ _)) (by omega)
                    rw [ints_contains, hbb2] at this
                    exact this.mono fun _ _ ⟨he, hw⟩ => ⟨he, hw.symm⟩
                  have hlt' : (k : Int) < C.length := by omega
                  have hjl' : (j : Int) < C.length := by omega
                  clear hj hxk hyk htd hbb hbb2 gA gT gB gU
                  go_wp2
                  go_quiet ((first | (go_at_call 30; exact Calls.quiet_of_same (N1 _)) | (go_at_call 30; exact Calls.quiet_of_same (N2 _))))
                  clear N1 N2 kbA kbA1 kbB kbB1 hcx hcy ha hb e1 e2 g0
                  have hlr := hlr.trans (Lat.drewN vo nq)
                  go_wp2
                  go_loopw [176] (fun i wr => ∃ j : Nat, j ≤ C.length ∧ i = .int .i64 j ∧ Lat v8 wr) (fun i _ => C.length - (intOf i).toNat)
                  case atStart => exact ⟨0, by omega, rfl, hlr⟩
                  case round =>
                    clear hlr
                    obtain ⟨i, hi, rfl, hlr⟩ := hrel
                    by_cases hil : i < C.length
                    · obtain ⟨vi, rfl⟩ : ∃ v, v = wr := ⟨_, rfl⟩
                      have hil' : (i : Int) < C.length := by omega
                      have kbA := (kb7.later hlr).cell 0
                      obtain ⟨p1, pk, hp1, _, hpk, hcp⟩ := (q8.later hlr).at hlt
                      obtain rfl : ac = p1 := by simpa using hp1
                      obtain ⟨p2, qi, hp2, _, hqi, hcq⟩ := (q8.later hlr).at hil
                      obtain rfl : ac = p2 := by simpa using hp2
                      obtain ⟨p3, lk, hp3, _, hlk, hclk⟩ := (z8.later hlr).at hlt
                      obtain rfl : az = p3 := by simpa using hp3
                      obtain ⟨p4, li, hp4, _, hli, hcli⟩ := (z8.later hlr).at hil
                      obtain rfl : az = p4 := by simpa using hp4
                      obtain ⟨p5, sk, hp5, _, hsk, hcsk⟩ := (g7.later hlr).at hlt
                      obtain rfl : b = p5 := by simpa using hp5
                      obtain ⟨p6, si, hp6, _, hsi, hcsi⟩ := (g7.later hlr).at hil
                      obtain rfl : b = p6 := by simpa using hp6
                      have hm := HMO.out k i hlt
                      rw [atI_of hpk, atI_of hqi, atI_of hlk, atI_of hli, atI_of hsk, atI_of hsi] at hm
                      have HMI := Lib.hid hm
                      clear hm hpk hqi hlk hli hsk hsi hp1 hp2 hp3 hp4 hp5 hp6
                      by_cases hc1 : qi ≤ pk
                      · have hd1 : decide (qi ≤ pk) = true := by simpa using hc1
                        by_cases hc2 : li ≤ lk
                        · have hd2 : decide (li ≤ lk) = true := by simpa using hc2
                          have hc3 : ¬ sk < si := by have := HMI.out hc1 hc2; omega
                          have hd3 : decide (sk < si) = false := by simpa using hc3
                          go_wp2
                          go_quiet (fail)
                          have hlr := hlr.trans (Lat.drewN vi nq)
                          clear hcp hcq hclk hcli hcsk hcsi kbA
                          go_wp2
                          go_roundw
                          case rel => exact ⟨i + 1, by omega, by go_num, hlr⟩
                          case measure => simp [intOf]; omega
                        · have hd2 : decide (li ≤ lk) = false := by simpa using hc2
                          go_wp2
                          go_quiet (fail)
                          have hlr := hlr.trans (Lat.drewN vi nq)
                          clear hcp hcq hclk hcli hcsk hcsi kbA
                          go_wp2
                          go_roundw
                          case rel => exact ⟨i + 1, by omega, by go_num, hlr⟩
                          case measure => simp [intOf]; omega
                      · have hd1 : decide (qi ≤ pk) = false := by simpa using hc1
                        go_wp2
                        go_quiet (fail)
                        have hlr := hlr.trans (Lat.drewN vi nq)
                        clear hcp hcq hclk hcli hcsk hcsi kbA
                        go_wp2
                        go_roundw
                        case rel => exact ⟨i + 1, by omega, by go_num, hlr⟩
                        case measure => simp [intOf]; omega
                    · go_wp2
                      go_roundw
                      case rel => exact ⟨k + 1, by omega, by go_num, hlr⟩
                      case measure => simp [intOf]; omega
                · go_wp2
                  go_ret
                  exact ⟨rfl, y8.trans hlr⟩
end Go.Proofs.YtebbhhdnjflmcaaGreat
