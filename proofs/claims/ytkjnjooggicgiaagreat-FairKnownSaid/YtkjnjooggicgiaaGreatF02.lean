/- Several texts in one: SortP, Skip, FrN, FrO, FrP. -/
import Derived.Test.YtkjnjooggicgiaaGreatJ28
import Derived.Test.YtkjnjooggicgiaaGreatF01
import Derived.Test.YtkjnjooggicgiaaGreatF03
import Derived.Test.YtkjnjooggicgiaaGreatE04

/- Sorting by insertion, each element from the right: plain lists, no program in sight. -/
namespace Go.Proofs.YtkjnjooggicgiaaGreat
section
variable {α : Type}

/-- Where x comes to stand among the first k elements of S, asked from the right. -/
def posR (lt : α → α → Bool) (x : α) (S : List α) : Nat → Nat
  | 0 => 0
  | k + 1 => match S[k]? with
    | some y => if lt x y then posR lt x S k else k + 1
    | none => k + 1
def insR (lt : α → α → Bool) (S : List α) (x : α) : List α := S.take (posR lt x S S.length) ++ x :: S.drop (posR lt x S S.length)
def sortR (lt : α → α → Bool) (xs : List α) : List α := xs.foldl (insR lt) []
theorem insR_length (lt : α → α → Bool) (S : List α) (x : α) : (insR lt S x).length = S.length + 1 := by
  simp only [insR, List.length_append, List.length_cons, List.length_take, List.length_drop]
  omega
theorem foldR_length (lt : α → α → Bool) : ∀ (xs S : List α), (xs.foldl (insR lt) S).length = S.length + xs.length
  | [], S => by simp
  | x :: r, S => by rw [List.foldl_cons, foldR_length lt r, insR_length, List.length_cons]; omega
theorem sortR_length (lt : α → α → Bool) (xs : List α) : (sortR lt xs).length = xs.length := by
  rw [sortR, foldR_length]; simp
theorem sortR_snoc (lt : α → α → Bool) (xs : List α) (x : α) : sortR lt (xs ++ [x]) = insR lt (sortR lt xs) x := by
  simp [sortR, List.foldl_append]
theorem insR_mem {lt : α → α → Bool} {S : List α} {x y : α} : y ∈ insR lt S x ↔ y = x ∨ y ∈ S := by
  unfold insR
  rw [List.mem_append, List.mem_cons]
  constructor
  · rintro (h | h | h)
    · exact .inr (List.mem_of_mem_take h)
    · exact .inl h
    · exact .inr (List.mem_of_mem_drop h)
  · rintro (h | h)
    · exact .inr (.inl h)
    · rw [← List.take_append_drop (posR lt x S S.length) S, List.mem_append] at h
      rcases h with h | h
      · exact .inl h
      · exact .inr (.inr h)
theorem foldR_mem {lt : α → α → Bool} {y : α} : ∀ {xs S : List α}, y ∈ xs.foldl (insR lt) S ↔ y ∈ S ∨ y ∈ xs
  | [], S => by simp
  | x :: r, S => by rw [List.foldl_cons, foldR_mem, insR_mem, List.mem_cons]; grind
theorem sortR_mem {lt : α → α → Bool} {y : α} {xs : List α} : y ∈ sortR lt xs ↔ y ∈ xs := by rw [sortR, foldR_mem]; simp

/-- A block in which x is on its way to the left: k elements of S lie to its left. -/
def onWay (A S R : List α) (x : α) (k : Nat) : List α := A ++ (S.take k ++ x :: (S.drop k ++ R))
theorem onWay_start (A S R : List α) (x : α) : A ++ (S ++ x :: R) = onWay A S R x S.length := by
  simp [onWay]
theorem onWay_len (A S R : List α) (x : α) {k : Nat} : (onWay A S R x k).length = A.length + S.length + 1 + R.length := by
  simp only [onWay, List.length_append, List.length_cons, List.length_take, List.length_drop]
  omega
theorem onWay_x {A S R : List α} {x : α} {k : Nat} (hk : k ≤ S.length) : (onWay A S R x k)[A.length + k]? = some x := by
  unfold onWay
  rw [List.getElem?_append_right (by omega), Nat.add_sub_cancel_left, List.getElem?_append_right (by rw [List.length_take]; omega), List.length_take, Nat.min_eq_left hk, Nat.sub_self]
  rfl
theorem onWay_y {A S R : List α} {x y : α} {k : Nat} (hy : S[k]? = some y) : (onWay A S R x (k + 1))[A.length + k]? = some y := by
  have hk := (List.getElem?_eq_some_iff.1 hy).1
  unfold onWay
  rw [List.getElem?_append_right (by omega), Nat.add_sub_cancel_left, List.getElem?_append_left (by rw [List.length_take]; omega), List.getElem?_take_of_lt (by omega), hy]
theorem set_two (P Q : List α) (u v : α) : ((P ++ u :: v :: Q).set (P.length + 1) u).set P.length v = P ++ v :: u :: Q := by
  rw [List.set_append_right _ _ (by omega), Nat.add_sub_cancel_left, List.set_append_right _ _ (Nat.le_refl _), Nat.sub_self]
  rfl
theorem onWay_swap {A S R : List α} {x y : α} {k : Nat} (hy : S[k]? = some y) : ((onWay A S R x (k + 1)).set (A.length + (k + 1)) y).set (A.length + k) x = onWay A S R x k := by
  obtain ⟨hk, e⟩ := List.getElem?_eq_some_iff.1 hy
  have e1 : onWay A S R x (k + 1) = (A ++ S.take k) ++ (y :: x :: (S.drop (k + 1) ++ R)) := by
    unfold onWay
    rw [List.take_succ_eq_append_getElem hk, e]
    simp
  have e2 : onWay A S R x k = (A ++ S.take k) ++ (x :: y :: (S.drop (k + 1) ++ R)) := by
    unfold onWay
    rw [List.drop_eq_getElem_cons hk, e]
    simp
  have hP : (A ++ S.take k).length = A.length + k := by rw [List.length_append, List.length_take, Nat.min_eq_left (by omega)]
  rw [e1, e2, show A.length + (k + 1) = (A ++ S.take k).length + 1 by omega, show A.length + k = (A ++ S.take k).length by omega]
  exact set_two _ _ _ _
/-- As far as x has come, every element was greater. -/
def way (lt : α → α → Bool) (x : α) (S : List α) (k : Nat) : Prop := posR lt x S S.length = posR lt x S k
theorem way_start (lt : α → α → Bool) (x : α) (S : List α) : way lt x S S.length := rfl
theorem way_step {lt : α → α → Bool} {x y : α} {S : List α} {k : Nat} (h : way lt x S (k + 1)) (hy : S[k]? = some y) (hl : lt x y = true) : way lt x S k := by
  unfold way at h ⊢
  rw [h, posR, hy]
  simp [hl]
theorem way_stop {lt : α → α → Bool} {A S R : List α} {x : α} {k : Nat} (h : way lt x S k) (hs : k = 0 ∨ ∃ j y, k = j + 1 ∧ S[j]? = some y ∧ lt x y = false) : onWay A S R x k = A ++ (insR lt S x ++ R) := by
  have hp : posR lt x S S.length = k := by
    unfold way at h
    rw [h]
    rcases hs with rfl | ⟨j, y, rfl, hy, hl⟩
    · rfl
    · rw [posR, hy]; simp [hl]
  unfold onWay insR
  rw [hp]
  simp
theorem block_next (lt : α → α → Bool) {xs : List α} {a i : Nat} {x : α} (ha : a ≤ i) (hx : xs[i]? = some x) :
    sortR lt ((xs.drop a).take (i + 1 - a)) = insR lt (sortR lt ((xs.drop a).take (i - a))) x ∧ xs.drop i = x :: xs.drop (i + 1) := by
  obtain ⟨hl, e⟩ := List.getElem?_eq_some_iff.1 hx
  have h1 : i - a < (xs.drop a).length := by simp; omega
  refine ⟨?_, by rw [List.drop_eq_getElem_cons hl, e]⟩
  rw [show i + 1 - a = (i - a) + 1 by omega, List.take_succ_eq_append_getElem h1, sortR_snoc]
  congr 1
  rw [List.getElem_drop, ← e]
  congr 1
  omega
end
end Go.Proofs.YtkjnjooggicgiaaGreat

/- In a region that draws its order: an operation whose guard does not hold is passed over. -/
namespace Go.Proofs.YtkjnjooggicgiaaGreat
open Go.RowKit

theorem wpAnyH_skip {P : Program} {md : Region.Mode} {ops : Array Oper} {Q : Exit → Act → World → Prop} {S : World → Prop} (i : Nat) (d : Tmp) {fuel : Nat} {listed : Array Bool} {a : Act} {w : World} (h0 : (ops[i]?).map (·.dst) = some (some d))
    (hs : Region.noSelect ops = true) (hf : Region.free md ops listed i = true) (hr : (Region.ready md ops listed).contains i = true)
    (hQ : ∀ c (a : Act) w, Q (.panic c) (a.put (some d) undef) w → Q (.panic c) a w) (hw : (ops[i]?).map (fun o => Region.wanted o (yielded ops a.tmps)) = some false) (hS : S w)
    (h : wpAnyH P md ops Q S fuel (listed.setIfInBounds i true) (a.put (some d) undef) w) : wpAnyH P md ops Q S (fuel + 1) listed a w := by
  cases ho : ops[i]? with
  | none => rw [ho] at h0; cases h0
  | some o =>
    rw [ho] at h0 hw
    simp only [Option.map_some, Option.some.injEq] at h0 hw
    refine wpAnyH_take (oi := o) (v := undef) ho hs hf hr (by rw [h0]; exact hQ) (.inr ⟨hw, rfl⟩) hS ?_
    rw [h0]
    exact h

/-- A store of a whole element, whatever order. -/
theorem wp_setM {P : Program} {op : Oper} {a : Act} {w : World} {K : Act → World → Prop} {Q : Exit → Act → World → Prop} (ty : TypeId) (x y : Operand) (ho : op.op = .store ty x y)
    {g m i o : Nat} {E : TypeId} {xs : List (List Value)} (hr : RowB w g E m xs) (hi : i < xs.length) (ho' : o = i * m) (hx : a.eval x = .pointer (some ⟨g, o, none⟩)) (c : List Value) (hy : a.eval y = .agg c.toArray) (hc : c.length = m)
    (hinfo : (P.info? ty).map (·.size) = some m) (h1 : ∀ v ∈ c, v.oneCell' = true)
    (h : ∀ w', RowB w' g E m (xs.set i c) → LatP (· = g) w w' → w'.heap.size = w.heap.size → K (a.put op.dst undef) w') : Oper.wp P op a w K Q := by
  subst ho'
  have ht : w.there g (i * m) c.toArray.size := by
    have : (i + 1) * m ≤ xs.length * m := Nat.mul_le_mul_right m hi
    rw [Nat.add_mul] at this
    exact hr.there (by simp; omega)
  refine wp_store_mid ty x y ho g (i * m) c.toArray hx hy ht (by rw [hinfo]; simp [hc]) (by simpa [Array.all_eq_true'] using h1) ?_
  have hw := hr.set hi hc h1
  exact h _ (by simpa using hw) (by simpa using LatP.setCells c w (i * m)) (size_setCells _ _ _)
theorem ins_nums {a q jm n : Nat} (hjm : a + q = jm) (hjn : jm + 1 < n) (hn : n ≤ 1000000) :
    a < jm + 1 ∧ ((jm : Int) + 1).toNat = jm + 1 ∧ IntKind.i64.wrap (jm : Int) = jm ∧ wrap64 (jm : Int) = jm ∧ (jm : Int) + 1 < (n : Int) ∧ (jm : Int) < (n : Int) ∧ (a : Int) < (jm : Int) + 1 ∧ ¬ ((jm : Int) + 1 < 0) :=
  ⟨by omega, by omega, IntWalk.i64_in _ (by omega), IntWalk.wrap64_in _ (by omega), by omega, by omega, by omega, by omega⟩
theorem meas_up {b k : Nat} (h : k < b) : b - (intOf (.int .i64 ((k : Int) + 1))).toNat < b - (intOf (.int .i64 (k : Int))).toNat := by
  show b - ((k : Int) + 1).toNat < b - ((k : Int)).toNat
  omega
theorem meas_down (jm : Nat) : (intOf (.int .i64 (jm : Int))).toNat < (intOf (.int .i64 ((jm : Int) + 1))).toNat := by
  show ((jm : Int)).toNat < ((jm : Int) + 1).toNat
  omega
theorem int_succ (k : Nat) : Value.int .i64 ((k : Int) + 1) = .int .i64 ((k + 1 : Nat) : Int) := by simp
end Go.Proofs.YtkjnjooggicgiaaGreat

/- slices.insertionSortCmpFunc at elements of 2 cells. -/
namespace Go.Proofs.YtkjnjooggicgiaaGreat
open Go.RowKit
set_option linter.unusedSimpArgs false

/-- What a sort leaves. -/
def fRegSortPost (w : World) (g : Nat) (ys : List (List Value)) (e : Ending) (w' : World) : Prop := (∃ v, e = .returned v) ∧ RowB w' g 49 2 ys ∧ LatP (· = g) w w'
theorem fRegSizeS : (Tryz.prog.info? 49).map (·.size) = some 2 := by kernel_rfl
set_option maxRecDepth 100000 in
set_option maxHeartbeats 8000000 in
theorem fRegIns_any (cmp : List Value → List Value → Int) (g n c : Nat) (xs : List (List Value)) (a b : Nat) (hab : a ≤ b) (hbn : b ≤ n) (w : World) (hr : RowB w g 49 2 xs) (hn : xs.length = n) (hn1 : n ≤ 1000000)
    (HCMP : ∀ x ∈ xs, ∀ y ∈ xs, ∀ w', Calls Tryz.prog 20 #[.agg x.toArray, .agg y.toArray] w' (fun e w'' => e = .returned (.int .i64 (cmp x y)) ∧ Lat w' w'')) :
    Calls Tryz.prog 53 #[.slice (some ⟨g, 0, none⟩) n c, .int .i64 a, .int .i64 b, .func (.func 20) #[] #[]] w (fRegSortPost w g (xs.take a ++ (sortR (fun x y => decide (cmp x y < 0)) ((xs.drop a).take (b - a)) ++ xs.drop b))) := by
  have HI := Lib.hid fRegSizeS
  have HC := Lib.hid HCMP
  have HR0 := Lib.hid hr.1
  obtain ⟨lt, hlt⟩ : ∃ lt : List Value → List Value → Bool, (fun x y => decide (cmp x y < 0)) = lt := ⟨_, rfl⟩
  have HLT : Hid (∀ x y, lt x y = decide (cmp x y < 0)) := by intro x y; rw [← hlt]
  rw [hlt]
  clear HCMP hlt
  by_cases hba : a = b
  · subst hba
    have e0 : xs.take a ++ (sortR lt ((xs.drop a).take (a - a)) ++ xs.drop a) = xs := by simp [sortR]
    rw [e0]
    clear e0
    go_enter Tryz.func53, Tryz.ntmps53
    go_wp2
    go_loopw [8, 9] (fun i j wr => i = .int .i64 (a + 1) ∧ wr = w) (fun _ _ _ => 0)
    case atStart => exact ⟨by go_num, rfl⟩
    case round =>
      obtain ⟨rfl, rfl⟩ := hrel
      go_wp2
      refine bodyPost_ret (results_none rfl _ _ _) rfl ?_
      exact ⟨⟨_, rfl⟩, hr, LatP.refl _ _⟩
  · have hlt0 : a < b := by omega
    have hsplit0 : xs = xs.take a ++ (sortR lt ((xs.drop a).take (a + 1 - a)) ++ xs.drop (a + 1)) := by
      have hla : a < xs.length := by omega
      obtain ⟨h1, h2⟩ := block_next lt (Nat.le_refl a) (List.getElem?_eq_getElem hla)
      rw [h1, Nat.sub_self, List.take_zero]
      show xs = xs.take a ++ ([xs[a]] ++ xs.drop (a + 1))
      rw [show [xs[a]] ++ xs.drop (a + 1) = xs.drop a by rw [h2]; rfl, List.take_append_drop]
    have HS0 := Lib.hid hsplit0
    clear hsplit0
    go_enter Tryz.func53, Tryz.ntmps53
    go_wp2
    go_loopw [8] (fun i wr => ∃ k : Nat, a < k ∧ k ≤ b ∧ i = .int .i64 k ∧ RowB wr g 49 2 (xs.take a ++ (sortR lt ((xs.drop a).take (k - a)) ++ xs.drop k)) ∧ LatP (· = g) w wr) (fun i _ => b - (intOf i).toNat)
    case atStart => exact ⟨a + 1, by omega, by omega, by go_num, by rw [← HS0.out]; exact hr, LatP.refl _ _⟩
    case round =>
      obtain ⟨W1, rfl⟩ : ∃ W1, W1 = wr := ⟨wr, rfl⟩
      obtain ⟨k, hak, hkb, rfl, hR, hlr⟩ := hrel
      by_cases hkb' : k < b
      · have hkl : k < xs.length := by omega
        obtain ⟨x, hx⟩ : ∃ x, xs[k]? = some x := ⟨_, List.getElem?_eq_getElem hkl⟩
        have hmx := List.mem_of_getElem? hx
        obtain ⟨A, hA⟩ : ∃ A, xs.take a = A := ⟨_, rfl⟩
        obtain ⟨S, hS⟩ : ∃ S, sortR lt ((xs.drop a).take (k - a)) = S := ⟨_, rfl⟩
        obtain ⟨R, hR'⟩ : ∃ R, xs.drop (k + 1) = R := ⟨_, rfl⟩
        obtain ⟨hn1', hn2⟩ := block_next lt (Nat.le_of_lt hak) hx
        have hAl : A.length = a := by rw [← hA, List.length_take]; omega
        have hSl : S.length = k - a := by rw [← hS, sortR_length, List.length_take, List.length_drop]; omega
        have hSm : ∀ y ∈ S, y ∈ xs := fun y hy => by rw [← hS, sortR_mem] at hy; exact List.mem_of_mem_drop (List.mem_of_mem_take hy)
        rw [hA, hS, hn2, hR', onWay_start, hSl] at hR
        have HN : Hid (sortR lt ((xs.drop a).take (k + 1 - a)) = insR lt S x) := by show _ = _; rw [hn1', hS]
        have HA := Lib.hid hA
        have HR' := Lib.hid hR'
        have HSm := Lib.hid hSm
        have HW0 : Hid (way lt x S (k - a)) := by show way _ _ _ _; rw [← hSl]; exact way_start lt x S
        clear hx hn1' hn2 hA hS hR' hSm
        have hxm := HR0.out x hmx
        go_wp2
        go_loopw [9] (fun j wr => ∃ q : Nat, q ≤ k - a ∧ j = .int .i64 (a + q : Nat) ∧ RowB wr g 49 2 (onWay A S R x q) ∧ Hid (way lt x S q) ∧ LatP (· = g) W1 wr) (fun j _ => (intOf j).toNat)
        case atStart => exact ⟨k - a, Nat.le_refl _, by rw [show a + (k - a) = k by omega], hR, HW0.out, LatP.refl _ _⟩
        case round =>
          rename_i wr
          obtain ⟨q, hqk, rfl, hRq, hway, hlq⟩ := hrel
          clear hR HW0
          cases q with

          | zero =>
            have hfin := way_stop (A := A) (R := R) hway.out (.inl rfl)
            rw [hfin] at hRq
            clear hfin hway
            simp only [Nat.add_zero]
            have L0 := Lat.drew wr
            go_upto_region 4 with (fail)
            refine wp_region_held_drew (S := fun w' => Lat wr w') (by kernel_rfl) L0 (fun hHeld => ?_)
            generalize wr.drew = V0 at L0 hHeld ⊢
            refine wpAnyH_take (i := 0) (v := .int .i64 a) rfl (by kernel_rfl) (by kernel_rfl) (by kernel_rfl) (fun _ _ _ h => h) (Or.inl ⟨by rfl, by intro w' hS; go_simp⟩) hHeld ?_
            simp only [Act.put, List.getElem_toArray, List.getElem_cons_succ, List.getElem_cons_zero, List.setIfInBounds_toArray, List.set_cons_zero, List.set_cons_succ]
            refine wpAnyH_take (i := 1) (v := .int .i64 a) rfl (by kernel_rfl) (by kernel_rfl) (by kernel_rfl) (fun _ _ _ h => h) (Or.inl ⟨by rfl, by intro w' hS; go_simp⟩) hHeld ?_
            simp only [Act.put, List.getElem_toArray, List.getElem_cons_succ, List.getElem_cons_zero, List.setIfInBounds_toArray, List.set_cons_zero, List.set_cons_succ]
            refine wpAnyH_take (i := 2) (v := .bool false) rfl (by kernel_rfl) (by kernel_rfl) (by kernel_rfl) (fun _ _ _ h => h) (Or.inl ⟨by rfl, by intro w' hS; go_simp⟩) hHeld ?_
            simp only [Act.put, List.getElem_toArray, List.getElem_cons_succ, List.getElem_cons_zero, List.setIfInBounds_toArray, List.set_cons_zero, List.set_cons_succ]
            refine wpAnyH_take (i := 3) (v := .bool false) rfl (by kernel_rfl) (by kernel_rfl) (by kernel_rfl) (fun _ _ _ h => h) (Or.inl ⟨by rfl, by intro w' hS; go_simp⟩) hHeld ?_
            simp only [Act.put, List.getElem_toArray, List.getElem_cons_succ, List.getElem_cons_zero, List.setIfInBounds_toArray, List.set_cons_zero, List.set_cons_succ]
            refine wpAnyH_skip 4 22 rfl (by kernel_rfl) (by kernel_rfl) (by kernel_rfl) (fun _ _ _ h => h) (by kernel_rfl) hHeld ?_
            simp only [Act.put, List.getElem_toArray, List.getElem_cons_succ, List.getElem_cons_zero, List.setIfInBounds_toArray, List.set_cons_zero, List.set_cons_succ]
            refine wpAnyH_skip 5 23 rfl (by kernel_rfl) (by kernel_rfl) (by kernel_rfl) (fun _ _ _ h => h) (by kernel_rfl) hHeld ?_
            simp only [Act.put, List.getElem_toArray, List.getElem_cons_succ, List.getElem_cons_zero, List.setIfInBounds_toArray, List.set_cons_zero, List.set_cons_succ]
            refine wpAnyH_skip 6 24 rfl (by kernel_rfl) (by kernel_rfl) (by kernel_rfl) (fun _ _ _ h => h) (by kernel_rfl) hHeld ?_
            simp only [Act.put, List.getElem_toArray, List.getElem_cons_succ, List.getElem_cons_zero, List.setIfInBounds_toArray, List.set_cons_zero, List.set_cons_succ]
            refine wpAnyH_skip 7 25 rfl (by kernel_rfl) (by kernel_rfl) (by kernel_rfl) (fun _ _ _ h => h) (by kernel_rfl) hHeld ?_
            simp only [Act.put, List.getElem_toArray, List.getElem_cons_succ, List.getElem_cons_zero, List.setIfInBounds_toArray, List.set_cons_zero, List.set_cons_succ]
            refine wpAnyH_skip 8 26 rfl (by kernel_rfl) (by kernel_rfl) (by kernel_rfl) (fun _ _ _ h => h) (by kernel_rfl) hHeld ?_
            simp only [Act.put, List.getElem_toArray, List.getElem_cons_succ, List.getElem_cons_zero, List.setIfInBounds_toArray, List.set_cons_zero, List.set_cons_succ]
            refine wpAnyH_skip 9 27 rfl (by kernel_rfl) (by kernel_rfl) (by kernel_rfl) (fun _ _ _ h => h) (by kernel_rfl) hHeld ?_
            simp only [Act.put, List.getElem_toArray, List.getElem_cons_succ, List.getElem_cons_zero, List.setIfInBounds_toArray, List.set_cons_zero, List.set_cons_succ]
            refine wpAnyH_skip 10 28 rfl (by kernel_rfl) (by kernel_rfl) (by kernel_rfl) (fun _ _ _ h => h) (by kernel_rfl) hHeld ?_
            simp only [Act.put, List.getElem_toArray, List.getElem_cons_succ, List.getElem_cons_zero, List.setIfInBounds_toArray, List.set_cons_zero, List.set_cons_succ]
            refine wpAnyH_skip 11 29 rfl (by kernel_rfl) (by kernel_rfl) (by kernel_rfl) (fun _ _ _ h => h) (by kernel_rfl) hHeld ?_
            simp only [Act.put, List.getElem_toArray, List.getElem_cons_succ, List.getElem_cons_zero, List.setIfInBounds_toArray, List.set_cons_zero, List.set_cons_succ]
            refine wpAnyH_skip 12 30 rfl (by kernel_rfl) (by kernel_rfl) (by kernel_rfl) (fun _ _ _ h => h) (by kernel_rfl) hHeld ?_
            simp only [Act.put, List.getElem_toArray, List.getElem_cons_succ, List.getElem_cons_zero, List.setIfInBounds_toArray, List.set_cons_zero, List.set_cons_succ]
            refine wpAnyH_skip 13 31 rfl (by kernel_rfl) (by kernel_rfl) (by kernel_rfl) (fun _ _ _ h => h) (by kernel_rfl) hHeld ?_
            simp only [Act.put, List.getElem_toArray, List.getElem_cons_succ, List.getElem_cons_zero, List.setIfInBounds_toArray, List.set_cons_zero, List.set_cons_succ]
            refine wpAnyH_skip 14 32 rfl (by kernel_rfl) (by kernel_rfl) (by kernel_rfl) (fun _ _ _ h => h) (by kernel_rfl) hHeld ?_
            simp only [Act.put, List.getElem_toArray, List.getElem_cons_succ, List.getElem_cons_zero, List.setIfInBounds_toArray, List.set_cons_zero, List.set_cons_succ]
            refine wpAnyH_skip 15 33 rfl (by kernel_rfl) (by kernel_rfl) (by kernel_rfl) (fun _ _ _ h => h) (by kernel_rfl) hHeld ?_
            simp only [Act.put, List.getElem_toArray, List.getElem_cons_succ, List.getElem_cons_zero, List.setIfInBounds_toArray, List.set_cons_zero, List.set_cons_succ]
            refine wpAnyH_take (i := 16) (v := .bool false) rfl (by kernel_rfl) (by kernel_rfl) (by kernel_rfl) (fun _ _ _ h => h) (Or.inl ⟨by rfl, by intro w' hS; go_simp⟩) hHeld ?_
            simp only [Act.put, List.getElem_toArray, List.getElem_cons_succ, List.getElem_cons_zero, List.setIfInBounds_toArray, List.set_cons_zero, List.set_cons_succ]
            refine wpAnyH_done (by kernel_rfl) ?_ _
            go_wp2
            refine ⟨⟨k + 1, Nat.lt_succ_of_lt hak, hkb', int_succ k, ?_, (hlr.trans hlq).trans (L0.p _)⟩, meas_up hkb'⟩
            rw [HN.out, HA.out, HR'.out]
            exact hRq.later L0
          | succ q =>
            have hqS : q < S.length := by omega
            obtain ⟨y, hy⟩ : ∃ y, S[q]? = some y := ⟨_, List.getElem?_eq_getElem hqS⟩
            have hmy := HSm.out y (List.mem_of_getElem? hy)
            have hym := HR0.out y hmy
            obtain ⟨jm, hjm⟩ : ∃ jm, a + q = jm := ⟨_, rfl⟩
            rw [show ((a + (q + 1) : Nat) : Int) = (jm : Int) + 1 by omega]
            have hX : (onWay A S R x (q + 1))[jm + 1]? = some x := by
              have := onWay_x (A := A) (R := R) (x := x) (S := S) (k := q + 1) (by omega)
              rwa [hAl, show a + (q + 1) = jm + 1 by omega] at this
            have hY : (onWay A S R x (q + 1))[jm]? = some y := by
              have := onWay_y (A := A) (R := R) (x := x) hy
              rwa [hAl, hjm] at this
            have hSw : ((onWay A S R x (q + 1)).set (jm + 1) y).set jm x = onWay A S R x q := by
              have := onWay_swap (A := A) (R := R) (x := x) hy
              rwa [hAl, hjm, show a + (q + 1) = jm + 1 by omega] at this
            have R1 : ∀ w', Lat wr w' → w'.rangeAt g ((jm + 1) * 2) x := fun w' hl => (hRq.later hl).range hX
            have R2 : ∀ w', Lat wr w' → w'.rangeAt g (jm * 2) y := fun w' hl => (hRq.later hl).range hY
            have J1 : (Tryz.prog.info? 49).map (·.size) = some x.length := by rw [hxm.1]; exact HI.out
            have J2 : (Tryz.prog.info? 49).map (·.size) = some y.length := by rw [hym.1]; exact HI.out
            have hjl : jm + 1 < (onWay A S R x (q + 1)).length := (List.getElem?_eq_some_iff.1 hX).1
            have hjn : jm + 1 < n := by omega
            have hjl2 : jm < ((onWay A S R x (q + 1)).set (jm + 1) y).length := by rw [List.length_set]; exact Nat.lt_of_succ_lt hjl
            obtain ⟨t0, t1, t2, t3, t4, t5, t6, t7⟩ := ins_nums hjm hjn hn1
            have HSW := Lib.hid hSw
            have HY := Lib.hid hy
            have hCC := HC.out x hmx y hmy
            have hL := HLT.out x y
            have L0 := Lat.drew wr
            clear hX hY hSw hy hmy
            go_upto_region 4 with (fail)
            refine wp_region_held_drew (S := fun w' => Lat wr w') (by kernel_rfl) L0 (fun hHeld => ?_)
            generalize wr.drew = V0 at L0 hHeld ⊢
            refine wpAnyH_take (i := 0) (v := .int .i64 ((jm : Int) + 1)) rfl (by kernel_rfl) (by kernel_rfl) (by kernel_rfl) (fun _ _ _ h => h) (Or.inl ⟨by rfl, by intro w' hS; go_simp⟩) hHeld ?_
            simp only [Act.put, List.getElem_toArray, List.getElem_cons_succ, List.getElem_cons_zero, List.setIfInBounds_toArray, List.set_cons_zero, List.set_cons_succ]
            refine wpAnyH_take (i := 1) (v := .int .i64 a) rfl (by kernel_rfl) (by kernel_rfl) (by kernel_rfl) (fun _ _ _ h => h) (Or.inl ⟨by rfl, by intro w' hS; go_simp⟩) hHeld ?_
            simp only [Act.put, List.getElem_toArray, List.getElem_cons_succ, List.getElem_cons_zero, List.setIfInBounds_toArray, List.set_cons_zero, List.set_cons_succ]
            refine wpAnyH_take (i := 2) (v := .bool true) rfl (by kernel_rfl) (by kernel_rfl) (by kernel_rfl) (fun _ _ _ h => h) (Or.inl ⟨by rfl, by intro w' hS; go_simp⟩) hHeld ?_
            simp only [Act.put, List.getElem_toArray, List.getElem_cons_succ, List.getElem_cons_zero, List.setIfInBounds_toArray, List.set_cons_zero, List.set_cons_succ]
            refine wpAnyH_take (i := 3) (v := .bool true) rfl (by kernel_rfl) (by kernel_rfl) (by kernel_rfl) (fun _ _ _ h => h) (Or.inl ⟨by rfl, by intro w' hS; go_simp⟩) hHeld ?_
            simp only [Act.put, List.getElem_toArray, List.getElem_cons_succ, List.getElem_cons_zero, List.setIfInBounds_toArray, List.set_cons_zero, List.set_cons_succ]
            refine wpAnyH_take (i := 4) (v := .func (.func 20) #[] #[]) rfl (by kernel_rfl) (by kernel_rfl) (by kernel_rfl) (fun _ _ _ h => h) (Or.inl ⟨by rfl, by intro w' hS; go_simp⟩) hHeld ?_
            simp only [Act.put, List.getElem_toArray, List.getElem_cons_succ, List.getElem_cons_zero, List.setIfInBounds_toArray, List.set_cons_zero, List.set_cons_succ]
            refine wpAnyH_take (i := 5) (v := .slice (some ⟨g, 0, none⟩) n c) rfl (by kernel_rfl) (by kernel_rfl) (by kernel_rfl) (fun _ _ _ h => h) (Or.inl ⟨by rfl, by intro w' hS; go_simp⟩) hHeld ?_
            simp only [Act.put, List.getElem_toArray, List.getElem_cons_succ, List.getElem_cons_zero, List.setIfInBounds_toArray, List.set_cons_zero, List.set_cons_succ]
            refine wpAnyH_take (i := 6) (v := .int .i64 ((jm : Int) + 1)) rfl (by kernel_rfl) (by kernel_rfl) (by kernel_rfl) (fun _ _ _ h => h) (Or.inl ⟨by rfl, by intro w' hS; go_simp⟩) hHeld ?_
            simp only [Act.put, List.getElem_toArray, List.getElem_cons_succ, List.getElem_cons_zero, List.setIfInBounds_toArray, List.set_cons_zero, List.set_cons_succ]
            refine wpAnyH_take (i := 7) (v := .pointer (some ⟨g, ((jm + 1) * 2), none⟩)) rfl (by kernel_rfl) (by kernel_rfl) (by kernel_rfl) (fun _ _ _ h => h) (Or.inl ⟨by rfl, by intro w' hS; go_simp; try (intro h; omega)⟩) hHeld ?_
            simp only [Act.put, List.getElem_toArray, List.getElem_cons_succ, List.getElem_cons_zero, List.setIfInBounds_toArray, List.set_cons_zero, List.set_cons_succ]
            refine' wpAnyH_take (i := 8) rfl (by kernel_rfl) (by kernel_rfl) (by kernel_rfl) (fun _ _ _ h => h) (yieldsIf_load_mid (by rfl) 49 (.tmp 25) rfl g ((jm + 1) * 2) rfl x _ R1 Tryz.underlying49 rfl J1) hHeld ?_
            simp only [Act.put, List.getElem_toArray, List.getElem_cons_succ, List.getElem_cons_zero, List.setIfInBounds_toArray, List.set_cons_zero, List.set_cons_succ]
            refine wpAnyH_take (i := 9) (v := .slice (some ⟨g, 0, none⟩) n c) rfl (by kernel_rfl) (by kernel_rfl) (by kernel_rfl) (fun _ _ _ h => h) (Or.inl ⟨by rfl, by intro w' hS; go_simp⟩) hHeld ?_
            simp only [Act.put, List.getElem_toArray, List.getElem_cons_succ, List.getElem_cons_zero, List.setIfInBounds_toArray, List.set_cons_zero, List.set_cons_succ]
            refine wpAnyH_take (i := 10) (v := .int .i64 ((jm : Int) + 1)) rfl (by kernel_rfl) (by kernel_rfl) (by kernel_rfl) (fun _ _ _ h => h) (Or.inl ⟨by rfl, by intro w' hS; go_simp⟩) hHeld ?_
            simp only [Act.put, List.getElem_toArray, List.getElem_cons_succ, List.getElem_cons_zero, List.setIfInBounds_toArray, List.set_cons_zero, List.set_cons_succ]
            refine wpAnyH_take (i := 11) (v := .int .i64 (jm : Int)) rfl (by kernel_rfl) (by kernel_rfl) (by kernel_rfl) (fun _ _ _ h => h) (Or.inl ⟨by rfl, by intro w' hS; go_simp⟩) hHeld ?_
            simp only [Act.put, List.getElem_toArray, List.getElem_cons_succ, List.getElem_cons_zero, List.setIfInBounds_toArray, List.set_cons_zero, List.set_cons_succ]
            refine wpAnyH_take (i := 12) (v := .pointer (some ⟨g, (jm * 2), none⟩)) rfl (by kernel_rfl) (by kernel_rfl) (by kernel_rfl) (fun _ _ _ h => h) (Or.inl ⟨by rfl, by intro w' hS; go_simp⟩) hHeld ?_
            simp only [Act.put, List.getElem_toArray, List.getElem_cons_succ, List.getElem_cons_zero, List.setIfInBounds_toArray, List.set_cons_zero, List.set_cons_succ]
            refine' wpAnyH_take (i := 13) rfl (by kernel_rfl) (by kernel_rfl) (by kernel_rfl) (fun _ _ _ h => h) (yieldsIf_load_mid (by rfl) 49 (.tmp 30) rfl g (jm * 2) rfl y _ R2 Tryz.underlying49 rfl J2) hHeld ?_
            simp only [Act.put, List.getElem_toArray, List.getElem_cons_succ, List.getElem_cons_zero, List.setIfInBounds_toArray, List.set_cons_zero, List.set_cons_succ]
            refine wpAnyH_ready (rs := [14]) (by kernel_rfl) (by simp) (AllReadyH.cons rfl (fun K hK => ?_) AllReadyH.nil)
            go_simp
            refine (hCC _).mono ?_
            rintro e V1 ⟨rfl, lc⟩
            have L1 := L0.trans lc
            clear lc
            refine hK.out _ _ L1 (fun hHeld1 => ?_)
            clear hK K
            try simp only [Act.put, List.getElem_toArray, List.getElem_cons_succ, List.getElem_cons_zero, List.setIfInBounds_toArray, List.set_cons_zero, List.set_cons_succ]
            obtain ⟨cv, hcv⟩ : ∃ cv, cmp x y = cv := ⟨_, rfl⟩
            rw [hcv] at hL ⊢
            by_cases hc : cv < 0
            · have hd : decide (cv < 0) = true := by simpa using hc
              refine wpAnyH_take (i := 15) (v := .bool true) rfl (by kernel_rfl) (by kernel_rfl) (by kernel_rfl) (fun _ _ _ h => h) (Or.inl ⟨by rfl, by intro w' hS; go_simp⟩) hHeld1 ?_
              simp only [Act.put, List.getElem_toArray, List.getElem_cons_succ, List.getElem_cons_zero, List.setIfInBounds_toArray, List.set_cons_zero, List.set_cons_succ]
              refine wpAnyH_take (i := 16) (v := .bool true) rfl (by kernel_rfl) (by kernel_rfl) (by kernel_rfl) (fun _ _ _ h => h) (Or.inl ⟨by rfl, by intro w' hS; go_simp⟩) hHeld1 ?_
              simp only [Act.put, List.getElem_toArray, List.getElem_cons_succ, List.getElem_cons_zero, List.setIfInBounds_toArray, List.set_cons_zero, List.set_cons_succ]
              refine wpAnyH_done (by kernel_rfl) ?_ _
              have RV := hRq.later L1
              have HW1 := Lib.hid (way_step hway.out HY.out (by rw [hL]; exact hd))
              go_upto_region 6 with (fail)
              refine wp_region_held_drew (S := fun _ => True) (by kernel_rfl) trivial (fun hHeld => ?_)
              have L2 := L1.trans (Lat.drew V1)
              have RV := hRq.later L2
              generalize V1.drew = V2 at L2 RV hHeld ⊢
              refine wpAnyH_take (i := 0) (v := .slice (some ⟨g, 0, none⟩) n c) rfl (by kernel_rfl) (by kernel_rfl) (by kernel_rfl) (fun _ _ _ h => h) (Or.inl ⟨by rfl, by intro w' hS; go_simp⟩) hHeld ?_
              simp only [Act.put, List.getElem_toArray, List.getElem_cons_succ, List.getElem_cons_zero, List.setIfInBounds_toArray, List.set_cons_zero, List.set_cons_succ]
              refine wpAnyH_take (i := 1) (v := .int .i64 ((jm : Int) + 1)) rfl (by kernel_rfl) (by kernel_rfl) (by kernel_rfl) (fun _ _ _ h => h) (Or.inl ⟨by rfl, by intro w' hS; go_simp⟩) hHeld ?_
              simp only [Act.put, List.getElem_toArray, List.getElem_cons_succ, List.getElem_cons_zero, List.setIfInBounds_toArray, List.set_cons_zero, List.set_cons_succ]
              refine wpAnyH_take (i := 2) (v := .slice (some ⟨g, 0, none⟩) n c) rfl (by kernel_rfl) (by kernel_rfl) (by kernel_rfl) (fun _ _ _ h => h) (Or.inl ⟨by rfl, by intro w' hS; go_simp⟩) hHeld ?_
              simp only [Act.put, List.getElem_toArray, List.getElem_cons_succ, List.getElem_cons_zero, List.setIfInBounds_toArray, List.set_cons_zero, List.set_cons_succ]
              refine wpAnyH_take (i := 3) (v := .int .i64 ((jm : Int) + 1)) rfl (by kernel_rfl) (by kernel_rfl) (by kernel_rfl) (fun _ _ _ h => h) (Or.inl ⟨by rfl, by intro w' hS; go_simp⟩) hHeld ?_
              simp only [Act.put, List.getElem_toArray, List.getElem_cons_succ, List.getElem_cons_zero, List.setIfInBounds_toArray, List.set_cons_zero, List.set_cons_succ]
              refine wpAnyH_take (i := 4) (v := .int .i64 (jm : Int)) rfl (by kernel_rfl) (by kernel_rfl) (by kernel_rfl) (fun _ _ _ h => h) (Or.inl ⟨by rfl, by intro w' hS; go_simp⟩) hHeld ?_
              simp only [Act.put, List.getElem_toArray, List.getElem_cons_succ, List.getElem_cons_zero, List.setIfInBounds_toArray, List.set_cons_zero, List.set_cons_succ]
              refine wpAnyH_take (i := 5) (v := .slice (some ⟨g, 0, none⟩) n c) rfl (by kernel_rfl) (by kernel_rfl) (by kernel_rfl) (fun _ _ _ h => h) (Or.inl ⟨by rfl, by intro w' hS; go_simp⟩) hHeld ?_
              simp only [Act.put, List.getElem_toArray, List.getElem_cons_succ, List.getElem_cons_zero, List.setIfInBounds_toArray, List.set_cons_zero, List.set_cons_succ]
              refine wpAnyH_take (i := 6) (v := .int .i64 ((jm : Int) + 1)) rfl (by kernel_rfl) (by kernel_rfl) (by kernel_rfl) (fun _ _ _ h => h) (Or.inl ⟨by rfl, by intro w' hS; go_simp⟩) hHeld ?_
              simp only [Act.put, List.getElem_toArray, List.getElem_cons_succ, List.getElem_cons_zero, List.setIfInBounds_toArray, List.set_cons_zero, List.set_cons_succ]
              refine wpAnyH_take (i := 7) (v := .int .i64 (jm : Int)) rfl (by kernel_rfl) (by kernel_rfl) (by kernel_rfl) (fun _ _ _ h => h) (Or.inl ⟨by rfl, by intro w' hS; go_simp⟩) hHeld ?_
              simp only [Act.put, List.getElem_toArray, List.getElem_cons_succ, List.getElem_cons_zero, List.setIfInBounds_toArray, List.set_cons_zero, List.set_cons_succ]
              refine wpAnyH_take (i := 8) (v := .pointer (some ⟨g, (jm * 2), none⟩)) rfl (by kernel_rfl) (by kernel_rfl) (by kernel_rfl) (fun _ _ _ h => h) (Or.inl ⟨by rfl, by intro w' hS; go_simp⟩) hHeld ?_
              simp only [Act.put, List.getElem_toArray, List.getElem_cons_succ, List.getElem_cons_zero, List.setIfInBounds_toArray, List.set_cons_zero, List.set_cons_succ]
              refine wpAnyH_take (i := 10) (v := .slice (some ⟨g, 0, none⟩) n c) rfl (by kernel_rfl) (by kernel_rfl) (by kernel_rfl) (fun _ _ _ h => h) (Or.inl ⟨by rfl, by intro w' hS; go_simp⟩) hHeld ?_
              simp only [Act.put, List.getElem_toArray, List.getElem_cons_succ, List.getElem_cons_zero, List.setIfInBounds_toArray, List.set_cons_zero, List.set_cons_succ]
              refine wpAnyH_take (i := 11) (v := .int .i64 ((jm : Int) + 1)) rfl (by kernel_rfl) (by kernel_rfl) (by kernel_rfl) (fun _ _ _ h => h) (Or.inl ⟨by rfl, by intro w' hS; go_simp⟩) hHeld ?_
              simp only [Act.put, List.getElem_toArray, List.getElem_cons_succ, List.getElem_cons_zero, List.setIfInBounds_toArray, List.set_cons_zero, List.set_cons_succ]
              refine wpAnyH_take (i := 12) (v := .pointer (some ⟨g, ((jm + 1) * 2), none⟩)) rfl (by kernel_rfl) (by kernel_rfl) (by kernel_rfl) (fun _ _ _ h => h) (Or.inl ⟨by rfl, by intro w' hS; go_simp; try (intro h; omega)⟩) hHeld ?_
              simp only [Act.put, List.getElem_toArray, List.getElem_cons_succ, List.getElem_cons_zero, List.setIfInBounds_toArray, List.set_cons_zero, List.set_cons_succ]
              refine wpAnyH_ready (rs := [9, 13]) (by kernel_rfl) (by simp) (AllReadyH.cons rfl (fun K hK => ?_) (AllReadyH.cons rfl (fun K hK => ?_) AllReadyH.nil))
              · skip
                rw [if_pos (by rfl)]
                refine wp_load_mid 49 (.tmp 45) rfl g ((jm * 2)) rfl y _ (R2 _ L2) Tryz.underlying49 rfl J2 ?_
                refine hK.out _ _ trivial (fun hHeld1 => ?_)
                clear hK K
                try simp only [Act.put, List.getElem_toArray, List.getElem_cons_succ, List.getElem_cons_zero, List.setIfInBounds_toArray, List.set_cons_zero, List.set_cons_succ]
                refine wpAnyH_ready (rs := [13]) (by kernel_rfl) (by simp) (AllReadyH.cons rfl (fun K hK => ?_) AllReadyH.nil)
                rw [if_pos (by rfl)]
                refine wp_load_mid 49 (.tmp 49) rfl g (((jm + 1) * 2)) rfl x _ (R1 _ L2) Tryz.underlying49 rfl J1 ?_
                refine hK.out _ _ trivial (fun hHeld2 => ?_)
                clear hK K
                try simp only [Act.put, List.getElem_toArray, List.getElem_cons_succ, List.getElem_cons_zero, List.setIfInBounds_toArray, List.set_cons_zero, List.set_cons_succ]
                refine wpAnyH_take (i := 14) (v := .pointer (some ⟨g, ((jm + 1) * 2), none⟩)) rfl (by kernel_rfl) (by kernel_rfl) (by kernel_rfl) (fun _ _ _ h => h) (Or.inl ⟨by rfl, by intro w' hS; go_simp; try (intro h; omega)⟩) hHeld2 ?_
                simp only [Act.put, List.getElem_toArray, List.getElem_cons_succ, List.getElem_cons_zero, List.setIfInBounds_toArray, List.set_cons_zero, List.set_cons_succ]
                refine wpAnyH_ready (rs := [15]) (by kernel_rfl) (by simp) (AllReadyH.cons rfl (fun K hK => ?_) AllReadyH.nil)
                rw [if_pos (by rfl)]
                refine wp_setM 49 (.tmp 51) (.tmp 46) rfl RV hjl (o := ((jm + 1) * 2)) rfl rfl y rfl hym.1 HI.out hym.2 ?_
                intro V3 R3 P3 s3
                refine hK.out _ _ trivial (fun hHeld3 => ?_)
                clear hK K
                try simp only [Act.put, List.getElem_toArray, List.getElem_cons_succ, List.getElem_cons_zero, List.setIfInBounds_toArray, List.set_cons_zero, List.set_cons_succ]
                refine wpAnyH_take (i := 16) (v := .pointer (some ⟨g, (jm * 2), none⟩)) rfl (by kernel_rfl) (by kernel_rfl) (by kernel_rfl) (fun _ _ _ h => h) (Or.inl ⟨by rfl, by intro w' hS; go_simp⟩) hHeld3 ?_
                simp only [Act.put, List.getElem_toArray, List.getElem_cons_succ, List.getElem_cons_zero, List.setIfInBounds_toArray, List.set_cons_zero, List.set_cons_succ]
                refine wpAnyH_ready (rs := [17]) (by kernel_rfl) (by simp) (AllReadyH.cons rfl (fun K hK => ?_) AllReadyH.nil)
                rw [if_pos (by rfl)]
                refine wp_setM 49 (.tmp 52) (.tmp 50) rfl R3 (i := jm) hjl2 (o := (jm * 2)) rfl rfl x rfl hxm.1 HI.out hxm.2 ?_
                intro V4 R4 P4 s4
                rw [HSW.out] at R4
                refine hK.out _ _ trivial (fun hHeld4 => ?_)
                clear hK K
                try simp only [Act.put, List.getElem_toArray, List.getElem_cons_succ, List.getElem_cons_zero, List.setIfInBounds_toArray, List.set_cons_zero, List.set_cons_succ]
                refine wpAnyH_done (by kernel_rfl) ?_ _
                have LP4 := ((hlq.trans (L2.p _)).trans P3).trans P4
                go_wp2
                exact ⟨⟨q, Nat.le_of_succ_le hqk, by rw [hjm], R4, HW1.out, LP4⟩, meas_down jm⟩
              · skip
                rw [if_pos (by rfl)]
                refine wp_load_mid 49 (.tmp 49) rfl g (((jm + 1) * 2)) rfl x _ (R1 _ L2) Tryz.underlying49 rfl J1 ?_
                refine hK.out _ _ trivial (fun hHeld1 => ?_)
                clear hK K
                try simp only [Act.put, List.getElem_toArray, List.getElem_cons_succ, List.getElem_cons_zero, List.setIfInBounds_toArray, List.set_cons_zero, List.set_cons_succ]
                refine wpAnyH_ready (rs := [9]) (by kernel_rfl) (by simp) (AllReadyH.cons rfl (fun K hK => ?_) AllReadyH.nil)
                rw [if_pos (by rfl)]
                refine wp_load_mid 49 (.tmp 45) rfl g ((jm * 2)) rfl y _ (R2 _ L2) Tryz.underlying49 rfl J2 ?_
                refine hK.out _ _ trivial (fun hHeld2 => ?_)
                clear hK K
                try simp only [Act.put, List.getElem_toArray, List.getElem_cons_succ, List.getElem_cons_zero, List.setIfInBounds_toArray, List.set_cons_zero, List.set_cons_succ]
                refine wpAnyH_take (i := 14) (v := .pointer (some ⟨g, ((jm + 1) * 2), none⟩)) rfl (by kernel_rfl) (by kernel_rfl) (by kernel_rfl) (fun _ _ _ h => h) (Or.inl ⟨by rfl, by intro w' hS; go_simp; try (intro h; omega)⟩) hHeld2 ?_
                simp only [Act.put, List.getElem_toArray, List.getElem_cons_succ, List.getElem_cons_zero, List.setIfInBounds_toArray, List.set_cons_zero, List.set_cons_succ]
                refine wpAnyH_ready (rs := [15]) (by kernel_rfl) (by simp) (AllReadyH.cons rfl (fun K hK => ?_) AllReadyH.nil)
                rw [if_pos (by rfl)]
                refine wp_setM 49 (.tmp 51) (.tmp 46) rfl RV hjl (o := ((jm + 1) * 2)) rfl rfl y rfl hym.1 HI.out hym.2 ?_
                intro V3 R3 P3 s3
                refine hK.out _ _ trivial (fun hHeld3 => ?_)
                clear hK K
                try simp only [Act.put, List.getElem_toArray, List.getElem_cons_succ, List.getElem_cons_zero, List.setIfInBounds_toArray, List.set_cons_zero, List.set_cons_succ]
                refine wpAnyH_take (i := 16) (v := .pointer (some ⟨g, (jm * 2), none⟩)) rfl (by kernel_rfl) (by kernel_rfl) (by kernel_rfl) (fun _ _ _ h => h) (Or.inl ⟨by rfl, by intro w' hS; go_simp⟩) hHeld3 ?_
                simp only [Act.put, List.getElem_toArray, List.getElem_cons_succ, List.getElem_cons_zero, List.setIfInBounds_toArray, List.set_cons_zero, List.set_cons_succ]
                refine wpAnyH_ready (rs := [17]) (by kernel_rfl) (by simp) (AllReadyH.cons rfl (fun K hK => ?_) AllReadyH.nil)
                rw [if_pos (by rfl)]
                refine wp_setM 49 (.tmp 52) (.tmp 50) rfl R3 (i := jm) hjl2 (o := (jm * 2)) rfl rfl x rfl hxm.1 HI.out hxm.2 ?_
                intro V4 R4 P4 s4
                rw [HSW.out] at R4
                refine hK.out _ _ trivial (fun hHeld4 => ?_)
                clear hK K
                try simp only [Act.put, List.getElem_toArray, List.getElem_cons_succ, List.getElem_cons_zero, List.setIfInBounds_toArray, List.set_cons_zero, List.set_cons_succ]
                refine wpAnyH_done (by kernel_rfl) ?_ _
                have LP4 := ((hlq.trans (L2.p _)).trans P3).trans P4
                go_wp2
                exact ⟨⟨q, Nat.le_of_succ_le hqk, by rw [hjm], R4, HW1.out, LP4⟩, meas_down jm⟩
            · have hd : decide (cv < 0) = false := by simpa using hc
              have hc2 : 0 ≤ cv := by omega
              refine wpAnyH_take (i := 15) (v := .bool false) rfl (by kernel_rfl) (by kernel_rfl) (by kernel_rfl) (fun _ _ _ h => h) (Or.inl ⟨by rfl, by intro w' hS; go_simp⟩) hHeld1 ?_
              simp only [Act.put, List.getElem_toArray, List.getElem_cons_succ, List.getElem_cons_zero, List.setIfInBounds_toArray, List.set_cons_zero, List.set_cons_succ]
              refine wpAnyH_take (i := 16) (v := .bool false) rfl (by kernel_rfl) (by kernel_rfl) (by kernel_rfl) (fun _ _ _ h => h) (Or.inl ⟨by rfl, by intro w' hS; go_simp⟩) hHeld1 ?_
              simp only [Act.put, List.getElem_toArray, List.getElem_cons_succ, List.getElem_cons_zero, List.setIfInBounds_toArray, List.set_cons_zero, List.set_cons_succ]
              refine wpAnyH_done (by kernel_rfl) ?_ _
              have hfin := way_stop (A := A) (R := R) hway.out (.inr ⟨q, y, rfl, HY.out, by rw [hL]; exact hd⟩)
              rw [hfin] at hRq
              go_wp2
              refine ⟨⟨k + 1, Nat.lt_succ_of_lt hak, hkb', int_succ k, ?_, (hlr.trans hlq).trans (L1.p _)⟩, meas_up hkb'⟩
              rw [HN.out, HA.out, HR'.out]
              exact hRq.later L1
      · obtain rfl : k = b := by omega
        go_wp2
        refine bodyPost_ret (results_none rfl _ _ _) rfl ?_
        exact ⟨⟨_, rfl⟩, hR, hlr⟩
end Go.Proofs.YtkjnjooggicgiaaGreat

/- slices.SortStableFunc below 20 elements. -/
namespace Go.Proofs.YtkjnjooggicgiaaGreat
open Go.RowKit
set_option linter.unusedSimpArgs false

set_option maxRecDepth 100000 in
set_option maxHeartbeats 2000000 in
theorem fRegStable_few (cmp : List Value → List Value → Int) (g n c : Nat) (xs : List (List Value)) (w : World) (hr : RowB w g 49 2 xs) (hn : xs.length = n) (hn1 : n < 20)
    (HCMP : ∀ x ∈ xs, ∀ y ∈ xs, ∀ w', Calls Tryz.prog 20 #[.agg x.toArray, .agg y.toArray] w' (fun e w'' => e = .returned (.int .i64 (cmp x y)) ∧ Lat w' w'')) :
    Calls Tryz.prog 33 #[.slice (some ⟨g, 0, none⟩) n c, .int .i64 n, .func (.func 20) #[] #[]] w (fRegSortPost w g (sortR (fun x y => decide (cmp x y < 0)) xs)) := by
  have HI := fRegIns_any cmp g n c xs 0 n (Nat.zero_le _) (Nat.le_refl _) w hr hn (by omega) HCMP
  have e0 : xs.take 0 ++ (sortR (fun x y => decide (cmp x y < 0)) ((xs.drop 0).take (n - 0)) ++ xs.drop n) = sortR (fun x y => decide (cmp x y < 0)) xs := by
    have h1 : (xs.drop 0).take (n - 0) = xs := by rw [List.drop_zero, Nat.sub_zero]; exact List.take_of_length_le (by omega)
    have h2 : xs.drop n = [] := List.drop_eq_nil_of_le (by omega)
    rw [h1, h2]
    simp
  rw [e0] at HI
  obtain ⟨ys, hys⟩ : ∃ ys, sortR (fun x y => decide (cmp x y < 0)) xs = ys := ⟨_, rfl⟩
  rw [hys] at HI ⊢
  have h20 : ¬ (20 : Int) ≤ (n : Int) := by omega
  have h20' : (n : Int) < 20 := by omega
  clear hr hn hys e0 HCMP
  go_enter Tryz.func33, Tryz.ntmps33
  go_wp2
  go_loopw [7, 8] (fun a b wr => a = .int .i64 0 ∧ b = .int .i64 20 ∧ wr = w) (fun _ _ _ => 0)
  case atStart => exact ⟨rfl, rfl, rfl⟩
  case round =>
    obtain ⟨rfl, rfl, rfl⟩ := hrel
    go_wp2_with fail
    refine HI.mono ?_
    rintro e w1 ⟨⟨v, rfl⟩, h1, h2⟩
    go_wp2
    go_loopw [6] (fun b wr => b = .int .i64 20 ∧ wr = w1) (fun _ _ => 0)
    case atStart => exact ⟨rfl, rfl⟩
    case round =>
      obtain ⟨rfl, rfl⟩ := hrel
      go_wp2
      refine bodyPost_ret (results_none rfl _ _ _) rfl ?_
      exact ⟨⟨_, rfl⟩, h1, h2⟩
theorem fRegSort_few (cmp : List Value → List Value → Int) (g n c : Nat) (xs : List (List Value)) (w : World) (hr : RowB w g 49 2 xs) (hn : xs.length = n) (hn1 : n < 20)
    (HCMP : ∀ x ∈ xs, ∀ y ∈ xs, ∀ w', Calls Tryz.prog 20 #[.agg x.toArray, .agg y.toArray] w' (fun e w'' => e = .returned (.int .i64 (cmp x y)) ∧ Lat w' w'')) :
    Calls Tryz.prog 19 #[.slice (some ⟨g, 0, none⟩) n c, .func (.func 20) #[] #[]] w (fRegSortPost w g (sortR (fun x y => decide (cmp x y < 0)) xs)) := by
  have HI := fRegStable_few cmp g n c xs w hr hn hn1 HCMP
  obtain ⟨ys, hys⟩ : ∃ ys, sortR (fun x y => decide (cmp x y < 0)) xs = ys := ⟨_, rfl⟩
  rw [hys] at HI ⊢
  clear hr hn hys HCMP
  go_enter Tryz.func19, Tryz.ntmps19
  go_wp2_with fail
  refine HI.mono ?_
  rintro e w1 ⟨⟨v, rfl⟩, h1, h2⟩
  go_wp2
  refine bodyPost_ret (results_none rfl _ _ _) rfl ?_
  exact ⟨⟨_, rfl⟩, h1, h2⟩
end Go.Proofs.YtkjnjooggicgiaaGreat

/- Fair: Bias's own functions, and what it works with. -/
namespace Go.Proofs.YtkjnjooggicgiaaGreat
open Go.RowKit
set_option linter.unusedSimpArgs false

section
variable {α β : Type}
theorem posR_map {lt : α → α → Bool} {lt' : β → β → Bool} {f : α → β} (h : ∀ x y, lt' (f x) (f y) = lt x y) (x : α) (S : List α) : ∀ k, posR lt' (f x) (S.map f) k = posR lt x S k
  | 0 => rfl
  | k + 1 => by
    rw [posR, posR, List.getElem?_map]
    cases S[k]? with
    | none => rfl
    | some y => simp only [Option.map_some, h, posR_map h x S k]
theorem insR_map {lt : α → α → Bool} {lt' : β → β → Bool} {f : α → β} (h : ∀ x y, lt' (f x) (f y) = lt x y) (S : List α) (x : α) : insR lt' (S.map f) (f x) = (insR lt S x).map f := by
  unfold insR
  rw [List.length_map, posR_map h]
  simp
theorem foldR_map {lt : α → α → Bool} {lt' : β → β → Bool} {f : α → β} (h : ∀ x y, lt' (f x) (f y) = lt x y) : ∀ (xs S : List α), (xs.map f).foldl (insR lt') (S.map f) = (xs.foldl (insR lt) S).map f
  | [], S => rfl
  | x :: r, S => by rw [List.map_cons, List.foldl_cons, List.foldl_cons, insR_map h, foldR_map h r]
theorem sortR_map {lt : α → α → Bool} {lt' : β → β → Bool} {f : α → β} (h : ∀ x y, lt' (f x) (f y) = lt x y) (xs : List α) : sortR lt' (xs.map f) = (sortR lt xs).map f := foldR_map h xs []
end

/-- The regions with people, those with the most people first. -/
def bKeep (xs : List (Int × Int)) : List (Int × Int) := xs.filter fun x => !(x.1 == 0)
def bLt (x y : Int × Int) : Bool := decide (y.1 - x.1 < 0)
def bSort (xs : List (Int × Int)) : List (Int × Int) := sortR bLt (bKeep xs)
def pV (x : List Value) : Bool := intOf (x.headD undef) == 0
def cmpB (x y : List Value) : Int := intOf (y.headD undef) - intOf (x.headD undef)
theorem prs_keep (xs : List (Int × Int)) : ((prs xs).filter fun x => !pV x) = prs (bKeep xs) := by
  unfold prs bKeep
  rw [List.filter_map]
  rfl
theorem prs_sort (xs : List (Int × Int)) : sortR (fun x y => decide (cmpB x y < 0)) (prs xs) = prs (sortR bLt xs) := sortR_map (fun _ _ => rfl) xs
theorem prs_len (xs : List (Int × Int)) : (prs xs).length = xs.length := by simp [prs]
theorem prs_mem {xs : List (Int × Int)} {x : List Value} (h : x ∈ prs xs) : ∃ a b, (a, b) ∈ xs ∧ x = [.int .i64 a, .int .i64 b] := by
  unfold prs at h
  obtain ⟨y, hy, rfl⟩ := List.mem_map.1 h
  exact ⟨y.1, y.2, hy, rfl⟩

theorem fBias1_any (a b : Int) (w : World) : Calls Tryz.prog 18 #[.agg #[.int .i64 a, .int .i64 b]] w (fun e w' => e = .returned (.bool (a == 0)) ∧ Lat w w') := by
  go_enter Tryz.func18, Tryz.ntmps18
  go_wp2
  go_ret
  exact ⟨rfl, Lat.alloc _ _⟩
theorem fBias2_any (a b c d : Int) (w : World) (h0 : 0 ≤ a) (h1 : a ≤ 1000000000) (h2 : 0 ≤ c) (h3 : c ≤ 1000000000) : Calls Tryz.prog 20 #[.agg #[.int .i64 a, .int .i64 b], .agg #[.int .i64 c, .int .i64 d]] w (fun e w' => e = .returned (.int .i64 (c - a)) ∧ Lat w w') := by
  go_enter Tryz.func20, Tryz.ntmps20
  go_wp2
  go_ret
  exact ⟨rfl, (Lat.alloc _ _).trans (Lat.alloc _ _)⟩
theorem bDel_any (g n c : Nat) (xs : List (Int × Int)) (w : World) (hr : RowB w g 49 2 (prs xs)) (hn : xs.length = n) (hn1 : n ≤ 1000000) (hc : n ≤ c) :
    Calls Tryz.prog 17 #[.slice (some ⟨g, 0, none⟩) n c, .func (.func 18) #[] #[]] w
      (fun e w' => e = .returned (.slice (some ⟨g, 0, none⟩) (bKeep xs).length c) ∧ RowB w' g 49 2 (prs (bKeep xs)) ∧ LatP (· = g) w w') := by
  have := fRegDel_any pV g n c (prs xs) w hr (by rw [prs_len, hn]) hn1 hc (fun x hx w' => by
    obtain ⟨a, b, _, rfl⟩ := prs_mem hx
    exact fBias1_any a b w')
  unfold fRegDelPost at this
  rw [prs_keep, prs_len] at this
  exact this
theorem bSort_any (g n c : Nat) (xs : List (Int × Int)) (w : World) (hr : RowB w g 49 2 (prs xs)) (hn : xs.length = n) (hn1 : n < 20) (hx : ∀ x ∈ xs, 0 ≤ x.1 ∧ x.1 ≤ 1000000000) :
    Calls Tryz.prog 19 #[.slice (some ⟨g, 0, none⟩) n c, .func (.func 20) #[] #[]] w (fRegSortPost w g (prs (sortR bLt xs))) := by
  have := fRegSort_few cmpB g n c (prs xs) w hr (by rw [prs_len, hn]) hn1 (fun x hx' y hy' w' => by
    obtain ⟨a, b, ha, rfl⟩ := prs_mem hx'
    obtain ⟨c, d, hc, rfl⟩ := prs_mem hy'
    exact fBias2_any a b c d w' (hx _ ha).1 (hx _ ha).2 (hx _ hc).1 (hx _ hc).2)
  rw [prs_sort] at this
  exact this
end Go.Proofs.YtkjnjooggicgiaaGreat
