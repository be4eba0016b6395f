/- Several texts in one: RGivA, RGivB. -/
import Derived.Test.YtebbhhdnjflmcaaGreatJ18
import Derived.Test.YtebbhhdnjflmcaaGreatJ30
import Derived.Test.YtebbhhdnjflmcaaGreatJ37
import Derived.Test.YtebbhhdnjflmcaaGreatJ41
import Derived.Test.YtebbhhdnjflmcaaGreatK01
import Derived.Test.YtebbhhdnjflmcaaGreatK02

/- The reference's give, over contracts of its callees. -/
namespace Go.Proofs.YtebbhhdnjflmcaaGreat
open Go.RowKit Go.Shelf
set_option linter.unusedSimpArgs false

theorem Own.rowN {w : World} {B : Nat} {v : Value} {xs : List Int} (h : Own w B 3 .i64 v xs) (hn : 0 < xs.length) : ∃ g c, v = .slice (some ⟨g, 0, none⟩) xs.length c ∧ RowN w g xs.length xs ∧ B ≤ g ∧ g < w.heap.size ∧ xs.length ≤ c := by
  obtain ⟨h1, h2⟩ := h
  rcases h2 with ⟨_, h0⟩ | ⟨g, cap, cur, hv, hb, hg, hnc, hm, hcs, ht⟩
  · omega
  · have hB : Blk w g 3 cur := hg
    refine ⟨g, cap, hv, ⟨cur, hB, by rw [Nat.mul_one] at ht; exact ht, rfl, by omega⟩, hb, hB.lt, hnc⟩

/-- 'append(out, y, ..)' at a step of a region that draws its order, and where the new slice lies. -/
theorem step_pushL {P : Program} {ops : Array Oper} {o : Oper} {a : Act} {K : Act → World → Prop} {Q : Exit → Act → World → Prop} {E0 : Prop} (hgd : o.guard = none) (s x : Operand) (t : TypeId)
    (ho : o.op = .call { callee := .builtin .append, args := #[s, x], argTypes := #[t, t] })
    (B : Nat) (E T : TypeId) (z : Value) (by_ : Nat) (ht : P.underlying t = some (.slice E)) (hinfo : (P.info? E).map (fun i => (i.zero, i.size, i.bytes)) = some (some z, 1, by_)) (hz : z.cells.size = 1) (hby : by_ ≤ 8)
    (v : Value) (xs ys : List Value) (hys : ∀ u ∈ ys, u.oneCell' = true) (w : World) (g : Nat) (hs : a.eval s = v) (hown : OwnV w B E v xs) (hb : Blk w g T ys.toArray)
    (m : Nat) (hm : ys.length = m) (hm0 : 0 < m) (hx : a.eval x = .slice (some ⟨g, 0, none⟩) m m) (hlen : xs.length + m ≤ 17000000000000) (hB : B ≤ w.heap.size)
    (h : ∀ q c w', OwnV w' B E (.slice (some ⟨q, 0, none⟩) (xs.length + m) c) (xs ++ ys) → w.grownBy w' v.ownBlock → (v.ownBlock = some q ∨ q = w.heap.size) → K (a.put o.dst (.slice (some ⟨q, 0, none⟩) (xs.length + m) c)) w') :
    if Region.wanted o (yielded ops a.tmps) = true then Oper.wp P o a w K Q else E0 := by
  obtain ⟨i0, hi, hz0, hz1, hz2⟩ := info_parts hinfo
  subst hm
  refine step_append_lies w hgd s x t ho B E i0 z 1 by_ ht hi hz0 hz1 hz2 hz (by decide) v xs.length _ hs hown ⟨g, 0, none⟩ ys.length ys.length ys hx (by simp) ?_ hys hm0 ?_ ?_ hB _ rfl ?_
  · intro j u hu
    have e : (⟨g, 0, none⟩ : Addr).add j = ⟨g, j, none⟩ := by unfold Addr.add; split <;> simp_all
    rw [e, hb.cell j]
    simpa using hu
  · unfold maxLen; omega
  · have := Nat.mul_le_mul_left (xs.length + ys.length) hby; omega
  · intro q c w' h1 h2 h3 _
    refine h q c w' ?_ h2 h3
    unfold OwnV
    rw [List.length_append]
    exact h1

/-- What 'give' leaves where it makes the award. -/
def GivOk (w : World) (A : Aw) (e : Ending) (w' : World) : Prop :=
  ∃ A1 n1 c1 A2 n2 c2 A3 n3 c3, e = .returned (.tuple #[.agg #[.slice A1 n1 c1, .slice A2 n2 c2, .int .i64 A.left, .slice A3 n3 c3], .int .i64 0]) ∧
    Sl w' .i64 A1 n1 A.seats ∧ Sl w' .i64 A2 n2 (ints A.tied) ∧ Sl w' .i64 A3 n3 (ints A.order) ∧ Lat w w' ∧
    (∀ a, A1 = some a → w.heap.size ≤ a.block) ∧ (∀ a, A2 = some a → w.heap.size ≤ a.block) ∧ ∀ a, A3 = some a → w.heap.size ≤ a.block

/-- The award that is being made. -/
structure Giv (gb gs n cS B0 : Nat) (S : List Int) (v : Value) (o : List Nat) (W : World) : Prop where
  gb : Blk W gb 88 #[.slice (some ⟨gs, 0, none⟩) n cS, .slice none 0 0, .int .i64 0, v]
  row : RowN W gs n S
  own : OwnV W B0 3 v (nats o)
theorem Giv.later {gb gs n cS B0 : Nat} {S : List Int} {v : Value} {o : List Nat} {W w : World} (h : Giv gb gs n cS B0 S v o W) (hl : Lat W w) : Giv gb gs n cS B0 S v o w :=
  ⟨h.gb.later hl, h.row.keepP (hl.p (fun _ => False)) (fun h => h), h.own.later hl⟩

theorem Sl.kept {w W : World} {k : IntKind} {A : Option Addr} {n : Nat} {xs : List Int} (h : Sl W k A n xs) (hs : W.heap.size ≤ w.heap.size) (hk : ∀ a, A = some a → w.heap[a.block]? = W.heap[a.block]?) : Sl w k A n xs := by
  refine ⟨h.1, fun hn => ?_⟩
  obtain ⟨a, e, hlt, hc⟩ := h.2 hn
  refine ⟨a, e, Nat.lt_of_lt_of_le hlt hs, fun j x hx => ?_⟩
  rw [← hc j x hx]
  exact World.cell?_of_block (by rw [block_add]; exact hk a e)
theorem sum_nonneg : ∀ {l : List Int}, (∀ x ∈ l, 0 ≤ x) → 0 ≤ l.sum
  | [], _ => by simp
  | y :: r, h => by
    have h1 := h y (by simp)
    have h2 := sum_nonneg (l := r) (fun x hx => h x (by simp [hx]))
    simp; omega
theorem take_sum_le {xs : List Int} (h : ∀ x ∈ xs, 0 ≤ x) (k : Nat) : 0 ≤ (xs.take k).sum ∧ (xs.take k).sum ≤ xs.sum := by
  have e : xs.sum = (xs.take k).sum + (xs.drop k).sum := by rw [← List.sum_append, List.take_append_drop]
  have h1 := sum_nonneg (l := xs.take k) (fun x hx => h x (List.mem_of_mem_take hx))
  have h2 := sum_nonneg (l := xs.drop k) (fun x hx => h x (List.mem_of_mem_drop hx))
  omega
theorem take_sum_succ {xs : List Int} {k : Nat} {x : Int} (h : xs[k]? = some x) : (xs.take (k + 1)).sum = (xs.take k).sum + x := by
  obtain ⟨hl, rfl⟩ := List.getElem?_eq_some_iff.1 h
  rw [List.take_succ_eq_append_getElem hl, List.sum_append]; simp

theorem infoIntR : (Tryz.prog.info? 3).map (fun i => (i.zero, i.size, i.bytes)) = some (some (.int .i64 0), 1, 8) := by kernel_rfl

theorem OwnV.as_slice {w : World} {B : Nat} {E : TypeId} {v : Value} {xs : List Value} (h : OwnV w B E v xs) : ∃ A n c, v = .slice A n c := by
  obtain ⟨A, c, h, _⟩ := h.form
  exact ⟨A, _, c, h⟩
theorem OwnV.form_sl {w : World} {B : Nat} {E : TypeId} {A : Option Addr} {n c : Nat} {xs : List Value} (h : OwnV w B E (.slice A n c) xs) : Row w A n xs := by
  obtain ⟨A', c', e, hr, _⟩ := h.form
  cases e
  exact hr
theorem OwnV.form_at {w : World} {B : Nat} {E : TypeId} {A : Option Addr} {n c : Nat} {xs : List Value} (h : OwnV w B E (.slice A n c) xs) : ∀ a, A = some a → B ≤ a.block ∧ a.block < w.heap.size := by
  obtain ⟨A', c', e, _, _, hr⟩ := h.form
  cases e
  exact hr
theorem LatS.at_cell {W w : World} {p : Addr} {v : Value} (h : LatS W ([] : List Nat) w) (hp : p.block < W.heap.size) (hc : W.cell? p = some v) : w.cell? p = some v :=
  (World.cell?_of_block (h.2 p.block hp (by simp))).trans hc
theorem RowN.lt {W : World} {g n : Nat} {xs : List Int} (h : RowN W g n xs) : g < W.heap.size := by
  obtain ⟨_, h1, _⟩ := h
  exact h1.lt
theorem atI_sum_le' {l : List Int} (h : ∀ x ∈ l, 0 ≤ x) (i : Nat) : 0 ≤ atI l i := by
  unfold atI
  cases hi : l[i]? with
  | none => simp
  | some y => exact h y (List.mem_of_getElem? hi)
theorem LatP.cell_at {M : Nat → Prop} {W w : World} (h : LatP M W w) {p : Addr} {v : Value} (hp : p.block < W.heap.size) (hM : ¬ M p.block) (hc : W.cell? p = some v) : w.cell? p = some v :=
  (World.cell?_of_block (h.block p.block hp hM)).trans hc
theorem RowN.put_named {W W' : World} {g n : Nat} {xs : List Int} {x : Nat} {u : Int} {cur : Array Value} (h : RowN W g n xs) (hb : Blk W g 3 cur) (hb' : Blk W' g 3 (cur.setIfInBounds x (.int .i64 u))) : RowN W' g n (xs.set x u) := by
  obtain ⟨cur', h1, h2, h3, h4⟩ := h
  have : cur' = cur := by unfold Blk at hb h1; rw [hb] at h1; cases h1; rfl
  subst this
  exact ⟨_, hb', by rw [Array.toList_setIfInBounds, List.take_set, h2, List.map_set], by simpa using h3, by simpa using h4⟩
theorem bump_nonneg (l : List Nat) : ∀ {S : List Int}, (∀ x ∈ S, 0 ≤ x) → ∀ x ∈ bump S l, 0 ≤ x := by
  induction l with
  | nil => exact fun h => h
  | cons y r ih =>
    intro S h
    rw [bump, List.foldl_cons, ← bump]
    refine ih (fun x hx => ?_)
    rcases List.mem_or_eq_of_mem_set hx with h' | h'
    · exact h x h'
    · have := (atI_sum_le' h y); omega
/-- The regions with people among the first k. -/
def fullL (P : List Int) (k : Nat) : List Nat := (List.range k).filter fun i => decide (0 < atI P i)
theorem fullL_yes {P : List Int} {k : Nat} (h : 0 < atI P k) : fullL P (k + 1) = fullL P k ++ [k] := by simp [fullL, List.range_succ, List.filter_append, h]
theorem fullL_no {P : List Int} {k : Nat} (h : ¬ 0 < atI P k) : fullL P (k + 1) = fullL P k := by
  have : atI P k ≤ 0 := by omega
  simp [fullL, List.range_succ, List.filter_append, this]
theorem mem_fullL {P : List Int} {k i : Nat} (h : i ∈ fullL P k) : i < k ∧ 0 < atI P i := by simpa [fullL] using h
theorem fullL_len (P : List Int) (k : Nat) : (fullL P k).length ≤ k := by
  have := List.length_filter_le (fun i => decide (0 < atI P i)) (List.range k)
  rwa [List.length_range] at this
theorem fullL_all {P : List Int} {n : Nat} (h : P.length = n) : fullL P n = full P := by rw [full, h]; rfl
theorem atI_sum_le {l : List Int} (h : ∀ x ∈ l, 0 ≤ x) : ∀ i, 0 ≤ atI l i ∧ atI l i ≤ l.sum := by
  induction l with
  | nil => intro i; simp [atI]
  | cons y r ih =>
    intro i
    have h0 := h y (by simp)
    have ih' := ih (fun x hx => h x (by simp [hx]))
    have hs : 0 ≤ r.sum := by have := ih' r.length; omega
    cases i with
    | zero => simp only [atI, List.getElem?_cons_zero, Option.getD_some, List.sum_cons]; omega
    | succ j =>
      have := ih' j
      simp only [atI, List.getElem?_cons_succ, List.sum_cons] at this ⊢
      omega
/-- What holds while the award is made. -/
structure RInv (seats : Int) (n : Nat) (S : List Int) (lv : Int) (o : List Nat) : Prop where
  len : S.length = n
  pos : ∀ x ∈ S, 0 ≤ x
  sum : S.sum + lv = seats
  ord : (o.length : Int) + lv ≤ 1000

set_option maxRecDepth 100000 in
set_option maxHeartbeats 8000000 in
theorem rgive_main {m : Int} {f : Int → Int → Int → Int → Int} (A : Option Addr) (n c : Nat) (P : List Int) (Al : Option Addr) (nl cl : Nat) (L Lz : List Int) (seats : Int) (w : World)
    (hs : Sl w .i64 A n P) (hl : Sl w .i64 Al nl L) (hn1 : 0 < n) (hn : n ≤ 60) (hP : ∀ x ∈ P, 0 ≤ x ∧ x ≤ 1000000000) (hC : full P ≠ []) (s0 : 1 ≤ seats) (s1 : seats ≤ 1000)
    (HCk : ∀ w, Sl w .i64 A n P → Calls Tryz.prog 73 #[.slice A n c] w (fun e w' => e = .returned (.int .i64 0) ∧ w = w'))
    (HKn : ∀ w, Calls Tryz.prog 37 #[.int .i64 m] w (fun e w' => e = .returned (.bool true) ∧ w = w'))
    (HMin : ∀ w, Sl w .i64 Al nl L → Calls Tryz.prog 74 #[.int .i64 n, .int .i64 seats, .slice Al nl cl] w (fun e w' => ∃ A' c', e = .returned (.tuple #[.slice A' n c', .bool true]) ∧ Sl w' .i64 A' n Lz ∧ Lat w w'))
    (HA : ∀ p s q t w, 1 ≤ p → p ≤ 1000000000 → 0 ≤ s → s ≤ 1000 → 1 ≤ q → q ≤ 1000000000 → 0 ≤ t → t ≤ 1000 → Calls Tryz.prog 15 #[.int .i64 m, .int .i64 p, .int .i64 s, .int .i64 q, .int .i64 t] w (fun e w' => e = .returned (.tuple #[.int .i64 (f p s q t), .int .i64 0]) ∧ Lat w w'))
    (hz0 : ∀ x ∈ Lz, 0 ≤ x) (hz1 : Lz.sum ≤ seats) :
    Calls Tryz.prog 46 #[.slice A n c, .int .i64 seats, .int .i64 m, .slice Al nl cl] w (GivOk w (awardOf f P Lz (seats - Lz.sum))) := by
  obtain ⟨AW, hAW⟩ : ∃ AW, awardOf f P Lz (seats - Lz.sum) = AW := ⟨_, rfl⟩
  rw [hAW]
  have HG0 : Hid (Goes f P (full P) AW Lz (seats - Lz.sum) []) := hAW
  clear hAW
  have HP := Lib.hid hP
  have HZ := Lib.hid hz0
  have HC := Lib.hid hC
  have HA' := Lib.hid HA
  have HM := Lib.hid HMin
  have HK := Lib.hid HKn
  have HCK := Lib.hid HCk
  clear hP hz0 hC HA HMin HKn HCk
  go_enter Tryz.func46, Tryz.ntmps46
  go_wp2_with fail
  refine name1 (Q := fun W => Calls _ _ _ W _) ?_
  intro W hlW hs2 k1
  refine (HCK.out W (hs.later hlW)).mono ?_
  rintro e w1 ⟨rfl, rfl⟩
  go_wp2_with fail
  refine (HK.out _).mono ?_
  rintro e w1 ⟨rfl, rfl⟩
  go_wp2_with fail
  refine (HM.out _ (hl.later hlW)).mono ?_
  rintro e w1 ⟨A2, c2, rfl, hsz, l1⟩
  have hA2 : ∀ a, A2 = some a → a.block ≠ w1.heap.size := fun a e => by
    obtain ⟨a', e', hlt, _⟩ := hsz.2 hn1
    rw [e] at e'; cases e'; omega
  have K1 := k1.later l1
  have L1 := hlW.trans l1
  have hww := l1.size
  clear k1 hlW l1
  go_upto_region 10 with (fail)
  refine name1 (Q := fun W => Code.wp _ _ _ _ W) ?_
  intro w2 l2 hs3 k2
  have K1 := K1.later l2
  have hsz := hsz.later l2
  have L2 := L1.trans l2
  have hlz : Lz.length = n := hsz.1
  have HLZ := Lib.hid hlz
  clear L1 l2 hlz
  have gb0 := k2.frozen 0
  have gc0 := k2.cell 0
  go_upto_region 11 with ((at_builtin; refine wpList_glue rfl _ _ 44 rfl w2.heap.size 3 .i64 8 Tryz.underlying44 infoIntR (by decide) _ [] Lz _ (by rfl) (Own.made (Blk.new _ _ _) (Nat.le_refl _)) A2 n c2 (by rfl) (hsz.later (Lat.alloc _ _)) (by simp; omega) (by simp) ?_; intro v' w3 hown3 hlat3; obtain ⟨gs, cS, rfl, hrow, hgs, hgs', hcS⟩ := hown3.rowN (by have := HLZ.out; simp; omega); have L3 := hlat3 w2 (Lat.alloc _ _) (Nat.le_refl _); have gb1 := (k2.later L3).frozen 0; have gc1 := (k2.later L3).cell 0; clear hlat3))
  have hA2w : ∀ a, A2 = some a → a.block ≠ w1.heap.size := hA2
  refine name_set (Q := fun W => Code.wp _ _ _ _ W) (k2.later L3) ?_
  intro w4 k4 hk4 hs4 hl4
  have hLz : ([] : List Int) ++ Lz = Lz := List.nil_append _
  rw [hLz] at hrow hcS
  have hrow := hrow.keepP hl4 (by have := k2.lt; omega)
  have hsz := (hsz.later L3).kept (w := w4) (by omega) (fun a e => hk4 _ (hA2w a e))
  have K1 : Blk w4 w.heap.size 88 #[.slice none 0 0, .slice none 0 0, .int .i64 0, .slice none 0 0] := (hk4 _ (by omega)).trans (K1.later L3)
  have L4 : Lat w w4 := hl4.lat (L2.trans L3) (fun k h => by omega)
  have hgs4 : gs < w4.heap.size := by omega
  have hgs2 : w1.heap.size < gs := by omega
  have hwg : w.heap.size < w1.heap.size := by omega
  have k4' : Blk w4 w1.heap.size 88 #[.slice (some ⟨gs, 0, none⟩) Lz.length cS, .slice none 0 0, .int .i64 0, .slice none 0 0] := k4
  rw [HLZ.out] at hrow hcS k4' ⊢
  obtain ⟨gb, hgb⟩ : ∃ gb, w1.heap.size = gb := ⟨_, rfl⟩
  rw [hgb] at k4' hgs2 hwg ⊢
  have hs4 := hs.later L4
  clear hown3 k4 hk4 hl4 hLz L2 L3 hgb k2 hA2w hA2 hgs hgs' gb0 gc0 gb1 gc1 hs3 hs2
  go_wp2
  go_loop [14, 15] (fun t i => ∃ k : Nat, k ≤ n ∧ i = .int .i64 k ∧ t = .int .i64 (seats - (Lz.take k).sum)) (fun _ i => n - (intOf i).toNat)
  case atStart => exact ⟨0, Nat.zero_le _, rfl, by simp⟩
  case round =>
    obtain ⟨k, hk, rfl, rfl⟩ := hrel
    have hb := take_sum_le HZ.out k
    have HTF : Hid (n ≤ k → (Lz.take k).sum = Lz.sum) := fun h => by rw [List.take_of_length_le (by have := HLZ.out; omega)]
    by_cases hlt : k < n
    · obtain ⟨a, x, rfl, ha, hxk, hcell⟩ := hsz.at hlt
      have hT := Lib.hid (take_sum_succ hxk)
      have hb' := take_sum_le HZ.out (k + 1)
      have hx0 := HZ.out x (List.mem_of_getElem? hxk)
      have hx1 : x ≤ 1000 := by have := hT.out; omega
      have hb1 := hb.1
      have hb2 : (Lz.take k).sum ≤ 1000 := by omega
      clear hxk hb hb'
      obtain ⟨t, ht⟩ : ∃ t, (Lz.take k).sum = t := ⟨_, rfl⟩
      rw [ht] at hb1 hb2 ⊢
      have HT := Lib.hid ht
      clear ht HTF
      go_wp2
      go_round
      case rel => exact ⟨k + 1, by omega, by go_num, by rw [hT.out, HT.out]; go_num⟩
      case measure => simp [intOf]; omega
    · obtain rfl : n = k := by omega
      have hb2 := hb.1
      rw [HTF.out (Nat.le_refl _)] at hb2 ⊢
      clear hb HTF hsz
      have HI0 : RInv seats n Lz (seats - Lz.sum) [] := ⟨HLZ.out, HZ.out, by omega, by simp; omega⟩
      have HG4 : Giv gb gs n cS w4.heap.size Lz (.slice none 0 0) [] w4 := ⟨k4', hrow, OwnV.nil _ _ _⟩
      obtain ⟨l0, hl0⟩ : ∃ l0, seats - Lz.sum = l0 := ⟨_, rfl⟩
      have l00 : 0 ≤ l0 := by omega
      rw [hl0] at HG0 HI0 ⊢
      obtain ⟨B0, hB0⟩ : ∃ B0, w4.heap.size = B0 := ⟨_, rfl⟩
      rw [hB0] at HG4 hgs4
      have hB0' : w.heap.size < B0 := by omega
      have HPn : Hid (P.length = n) := hs4.1
      have HB0 := Lib.hid hB0
      clear hl0 HLZ HZ hb2 hz1 k4' hrow hk hlt hB0 HM HK HCK hs4
      go_wp2
      go_loopw [14] (fun lf wr => ∃ S lv o v, lf = .int .i64 lv ∧ 0 ≤ lv ∧ Hid (Goes f P (full P) AW S lv o) ∧ RInv seats n S lv o ∧ Giv gb gs n cS B0 S v o wr ∧ LatP (fun j => j = gb ∨ j = gs) w4 wr) (fun lf _ => (intOf lf).toNat)
      case atStart => exact ⟨Lz, l0, [], .slice none 0 0, rfl, l00, HG0, HI0, HG4, LatP.refl _ _⟩
      case round =>
        obtain ⟨S, lv, o, v, rfl, hlv, HG, hI, hGv, hlr⟩ := hrel
        have LR : Lat w wr := hlr.lat L4 (fun k h => by omega)
        have K1r := K1.keepP hlr (by omega)
        clear HI0 HG0 HG4
        by_cases h0 : 0 < lv
        · obtain ⟨W1, rfl⟩ : ∃ W1, W1 = wr := ⟨wr, rfl⟩
          have hsr := hs.later LR
          have hwr := LR.size
          obtain ⟨B1, hB1⟩ : ∃ B1, W1.heap.size = B1 := ⟨_, rfl⟩
          have HLen := Lib.hid hI.len
          have hat : Hid (∀ i, 0 ≤ atI S i ∧ atI S i ≤ 1000) := fun i => by
            have := atI_sum_le hI.pos i
            have := hI.sum
            omega
          go_wp2
          go_loopw [16, 17] (fun v i wx => ∃ k : Nat, k ≤ n ∧ i = .int .i64 k ∧ OwnV wx B1 3 v (nats (bestL (vs f P S) (fullL P k))) ∧ Lat W1 wx) (fun _ i _ => n - (intOf i).toNat)
          case atStart => exact ⟨0, Nat.zero_le _, rfl, OwnV.nil _ _ _, Lat.refl _⟩
          case round =>
            obtain ⟨k, hk, rfl, hown, hlx⟩ := hrel
            have hxs := hlx.size
            by_cases hlt : k < n
            · obtain ⟨a, x, rfl, ha, hxk, hcell⟩ := (hsr.later hlx).at hlt
              have HX := Lib.hid (atI_of hxk)
              have HPx := HP.out x (List.mem_of_getElem? hxk)
              have hx0 := HPx.1
              have hx1 := HPx.2
              clear HPx hxk
              by_cases hz : x = 0
              · have HF : Hid (fullL P (k + 1) = fullL P k) := fullL_no (by rw [HX.out]; omega)
                subst hz
                go_wp2
                go_roundw
                case rel => exact ⟨k + 1, by omega, by go_num, by rw [HF.out]; exact hown, hlx⟩
                case measure => simp [intOf]; omega
              · have hxp : 0 < x := by omega
                have HF : Hid (fullL P (k + 1) = fullL P k ++ [k]) := fullL_yes (by rw [HX.out]; omega)
                have HT : Hid (bestL (vs f P S) (fullL P (k + 1)) = pick (vs f P S) (bestL (vs f P S) (fullL P k)) k) := by
                  show _ = _
                  rw [HF.out, bestL_snoc]
                have hbx : (x == 0) = false := by simp; omega
                clear HF hz
                have HBL : Hid ((bestL (vs f P S) (fullL P k)).length ≤ k) := Nat.le_trans (bestL_sub _ _).length_le (fullL_len P k)
                have HBM : Hid (∀ y ∈ bestL (vs f P S) (fullL P k), y < k ∧ 0 < atI P y) := fun y hy => mem_fullL ((bestL_sub _ _).subset hy)
                cases hb : bestL (vs f P S) (fullL P k) with
                | nil =>
                  rw [hb] at hown HT
                  have HT' : Hid (nats (bestL (vs f P S) (fullL P (k + 1))) = [.int .i64 (k : Int)]) := by show _ = _; rw [HT.out]; rfl
                  obtain ⟨A3, n3, c3, rfl⟩ := hown.as_slice
                  obtain rfl : n3 = 0 := by have := hown.form_sl.1; simpa [nats] using this.symm
                  clear HT hb HBL HBM hown
                  go_wp2_with (refine wpList_pushV rfl _ _ 44 (by rfl) B1 3 3 (.int .i64 0) 8 Tryz.underlying44 infoIntR rfl (by decide) _ [] [.int .i64 (k : Int)] (by simp [Value.oneCell']) _ wr.heap.size (by rfl) (OwnV.nil _ _ _) (Blk.new _ _ _) 1 rfl (by decide) (by rfl) (by simp) (by simp; omega) ?_; intro v' w5 hown5 _ hlat5)
                  go_roundw
                  case rel => exact ⟨k + 1, by omega, by go_num, by rw [HT'.out]; exact hown5, hlat5 W1 (hlx.trans (Lat.alloc _ _)) (by omega)⟩
                  case measure => simp [intOf]; omega
                | cons y r =>
                  rw [hb] at hown HT HBL HBM
                  have hyk := (HBM.out y (by simp)).1
                  have hyp := (HBM.out y (by simp)).2
                  have hrl : r.length + 1 ≤ k := HBL.out
                  obtain ⟨A3, n3, c3, rfl⟩ := hown.as_slice
                  obtain rfl : n3 = r.length + 1 := by have := hown.form_sl.1; simpa [nats] using this.symm
                  obtain ⟨a3, u3, rfl, ha3, hu3, hcell3⟩ := hown.form_sl.at (i := 0) (by omega)
                  obtain rfl : Value.int .i64 (y : Int) = u3 := by simpa [nats] using hu3
                  have hc3 : wr.cell? a3 = some (.int .i64 (y : Int)) := by have := hcell3; rwa [show a3.add 0 = a3 by simp [Addr.add]] at this
                  obtain ⟨a', p2, hp2e, ha', hp2, hcell2⟩ := (hsr.later hlx).at (i := y) (by omega)
                  obtain rfl : a = a' := by simpa using hp2e
                  have HP2 := Lib.hid (atI_of hp2)
                  have hq := HP.out p2 (List.mem_of_getElem? hp2)
                  have hq0 : 1 ≤ p2 := by rw [HP2.out] at hyp; omega
                  have hq1 := hq.2
                  obtain ⟨s2, hs2⟩ : ∃ s2, S[k]? = some s2 := ⟨_, List.getElem?_eq_getElem (by have := HLen.out; omega)⟩
                  obtain ⟨t2, ht2⟩ : ∃ t2, S[y]? = some t2 := ⟨_, List.getElem?_eq_getElem (by have := HLen.out; omega)⟩
                  have HS2 := Lib.hid (atI_of hs2)
                  have HT2 := Lib.hid (atI_of ht2)
                  have hs20 : 0 ≤ s2 ∧ s2 ≤ 1000 := by have := hat.out k; rw [HS2.out] at this; exact this
                  have ht20 : 0 ≤ t2 ∧ t2 ≤ 1000 := by have := hat.out y; rw [HT2.out] at this; exact this
                  have hGx := hGv.later hlx
                  have E1 : ∀ w', LatS wr ([] : List Nat) w' → w'.cell? (a.add k) = some (.int .i64 x) := fun w' h => h.at_cell (by rw [block_add]; exact ha) hcell
                  have E2 : ∀ w', LatS wr ([] : List Nat) w' → w'.cell? (a.add y) = some (.int .i64 p2) := fun w' h => h.at_cell (by rw [block_add]; exact ha') hcell2
                  have E3 : ∀ w', LatS wr ([] : List Nat) w' → w'.cell? ⟨gb, 0, none⟩ = some (.slice (some ⟨gs, 0, none⟩) n cS) := fun w' h => h.at_cell hGx.gb.lt (hGx.gb.cell 0)
                  have hgsx : gs < wr.heap.size := hGx.row.lt
                  have E4 : ∀ w', LatS wr ([] : List Nat) w' → w'.cell? ⟨gs, k, none⟩ = some (.int .i64 s2) := fun w' h => h.at_cell (p := ⟨gs, k, none⟩) hgsx (hGx.row.cell hs2)
                  have E5 : ∀ w', LatS wr ([] : List Nat) w' → w'.cell? ⟨gs, y, none⟩ = some (.int .i64 t2) := fun w' h => h.at_cell (p := ⟨gs, y, none⟩) hgsx (hGx.row.cell ht2)
                  obtain ⟨cv, hcv⟩ : ∃ cv, vs f P S k y = cv := ⟨_, rfl⟩
                  have HX3 := fun w => HA'.out x s2 p2 t2 w (by omega) hx1 hs20.1 hs20.2 hq0 hq1 ht20.1 ht20.2
                  have hcv' : f x s2 p2 t2 = cv := by rw [← hcv, vs, HX.out, HP2.out, HS2.out, HT2.out]
                  rw [hcv'] at HX3
                  have HPk : Hid (bestL (vs f P S) (fullL P (k + 1)) = if 0 < cv then [k] else if cv < 0 then y :: r else (y :: r) ++ [k]) := by show _ = _; rw [HT.out, ← hcv]; rfl
                  have hyk2 : (y : Int) < n := by omega
                  clear HT hb HBL HBM hcv hcv' hcell2 hcell3 hp2 hp2e hq hs2 ht2 HS2 HT2 HP2 hs20 ht20 hu3 hyp HX
                  go_wp2
                  have L0 := Lat.drew wr
                  have M0 := L0.s ([] : List Nat)
                  go_region_held3 (fun w' => LatS wr ([] : List Nat) w') (first | (with_reducible assumption) | ((repeat refine LatS.set ?_ (by simp) _); (with_reducible assumption)))
                    ((go_at_call 15; (with_reducible refine (HX3 _).mono ?_); rintro e w5 ⟨rfl, l5⟩; have L5 := L0.trans l5; have M5 := L5.s ([] : List Nat)))
                  have hown5 := hown.later L5
                  have L6 := hlx.trans L5
                  have hw5 := L6.size
                  have hln : (nats (y :: r)).length = r.length + 1 := by simp [nats]
                  have HLN := Lib.hid hln
                  clear E1 E2 E3 E4 E5 HX3 M0 M5 L0 L5 hcell hc3 hown hGx hln hgsx ha3 ha' ha
                  rcases Int.lt_trichotomy cv 0 with g0 | g0 | g0
                  · have HP' : Hid (bestL (vs f P S) (fullL P (k + 1)) = y :: r) := by show _ = _; rw [HPk.out, if_neg (by omega), if_pos g0]
                    clear HPk
                    go_wp2
                    go_roundw
                    case rel => exact ⟨k + 1, by omega, by go_num, by rw [HP'.out]; exact hown5, L6⟩
                    case measure => simp [intOf]; omega
                  · have HP' : Hid (bestL (vs f P S) (fullL P (k + 1)) = (y :: r) ++ [k]) := by show _ = _; rw [HPk.out, if_neg (by omega), if_neg (by omega)]
                    subst g0
                    clear HPk
                    go_wp2_with (refine wpList_pushV rfl _ _ 44 (by rfl) B1 3 3 (.int .i64 0) 8 Tryz.underlying44 infoIntR rfl (by decide) _ (nats (y :: r)) [.int .i64 (k : Int)] (by simp [Value.oneCell']) _ w5.heap.size (by rfl) (hown5.later (Lat.alloc _ _)) (Blk.new _ _ _) 1 rfl (by decide) (by rfl) (by rw [HLN.out]; omega) (by simp; omega) ?_; intro v' w6 hown6 _ hlat6)
                    go_roundw
                    case rel => exact ⟨k + 1, by omega, by go_num, by rw [HP'.out, nats_snoc]; exact hown6, hlat6 W1 (L6.trans (Lat.alloc _ _)) (by omega)⟩
                    case measure => simp [intOf]; omega
                  · have HP' : Hid (nats (bestL (vs f P S) (fullL P (k + 1))) = [.int .i64 (k : Int)]) := by show _ = _; rw [HPk.out, if_pos g0]; rfl
                    clear HPk
                    go_wp2_with (refine wpList_pushV rfl _ _ 44 (by rfl) B1 3 3 (.int .i64 0) 8 Tryz.underlying44 infoIntR rfl (by decide) _ [] [.int .i64 (k : Int)] (by simp [Value.oneCell']) _ w5.heap.size (by rfl) (OwnV.nil _ _ _) (Blk.new _ _ _) 1 rfl (by decide) (by rfl) (by simp) (by simp; omega) ?_; intro v' w6 hown6 _ hlat6)
                    go_roundw
                    case rel => exact ⟨k + 1, by omega, by go_num, by rw [HP'.out]; exact hown6, hlat6 W1 (L6.trans (Lat.alloc _ _)) (by omega)⟩
                    case measure => simp [intOf]; omega
            · obtain rfl : n = k := by omega
              obtain ⟨Bs, hBs⟩ : ∃ Bs, bestL (vs f P S) (full P) = Bs := ⟨_, rfl⟩
              have hfa := fullL_all HPn.out
              rw [hfa, hBs] at hown
              have hne : Bs ≠ [] := by rw [← hBs]; exact bestL_ne HC.out
              have hbl : Bs.length ≤ n := by
                have := (bestL_sub (vs f P S) (full P)).length_le
                have h2 := fullL_len P n
                rw [hfa] at h2
                rw [hBs] at this
                omega
              have HBM : Hid (∀ y ∈ Bs, y < n) := fun y hy => by
                have := mem_full.1 ((bestL_sub (vs f P S) (full P)).subset (by rw [hBs]; exact hy))
                have := HPn.out
                omega
              have hb1 : 0 < Bs.length := List.length_pos_iff.2 hne
              have hnat : (nats Bs).length = Bs.length := nats_length Bs
              obtain ⟨A3, n3, c3, rfl⟩ := hown.as_slice
              obtain rfl : n3 = Bs.length := by have := hown.form_sl.1; omega
              obtain ⟨a3, _, rfl, _⟩ := hown.form_sl.at (i := 0) hb1
              have hGx := hGv.later hlx
              have hGvrow := hGv.row
              have hvown := hGv.own.at
              have hL4x := hlr.trans (hlx.p _)
              have HBs := Lib.hid hBs
              have LX := LR.trans hlx
              clear hfa hne hnat hlt hk hBs hGv hsr LR
              have K1x := K1r.later hlx
              have hgsB : gs < B1 := by rw [← hB1]; exact (RowN.lt hGvrow)
              have hat3 := hown.form_at
              clear hlx K1r hGvrow
              by_cases ht : lv < Bs.length
              · have eA := HG.out.tie h0 (by rw [HBs.out]; exact ht)
                rw [HBs.out] at eA
                subst eA
                obtain ⟨A4, n4, c4, rfl⟩ := hGx.own.as_slice
                have S3 := Row.sl hGx.own.form_sl
                have S2 := Row.sl hown.form_sl
                have SR := hGx.row.sl
                have hat4 := hGx.own.form_at
                have c1_0 := K1x.cell 0
                have c1_1 := K1x.cell 1
                have c1_2 := K1x.cell 2
                have c1_3 := K1x.cell 3
                have f1_0 := K1x.frozen 0
                have f1_1 := K1x.frozen 1
                have f1_2 := K1x.frozen 2
                have f1_3 := K1x.frozen 3
                have c2_0 := hGx.gb.cell 0
                have c2_1 := hGx.gb.cell 1
                have c2_2 := hGx.gb.cell 2
                have c2_3 := hGx.gb.cell 3
                have f2_1 := hGx.gb.frozen 1
                have f2_2 := hGx.gb.frozen 2
                have hgbn : gb ≠ w.heap.size := by omega
                have hgbn' : w.heap.size ≠ gb := by omega
                clear HG hI hGx hown HBs HBM
                go_wp2
                refine bodyPost_ret (v := .tuple #[.agg #[.slice (some ⟨gs, 0, none⟩) n cS, .slice (some a3) Bs.length c3, .int .i64 lv, .slice A4 n4 c4], .int .i64 0]) (by simp [results, Tryz.results46, go_sem, c1_0, c1_1, c1_2, c1_3, hgbn, hgbn']) rfl ?_
                refine ⟨some ⟨gs, 0, none⟩, n, cS, some a3, Bs.length, c3, A4, n4, c4, rfl, ?_, ?_, ?_, ?_, ?_, ?_, ?_⟩
                · iterate 4 (refine Sl.far ?_ (fun a e => by cases e; show gs ≠ w.heap.size; omega) _)
                  iterate 2 (refine Sl.far ?_ (fun a e => by cases e; show gs ≠ gb; omega) _)
                  exact SR
                · iterate 4 (refine Sl.far ?_ (fun a e => by have := (hat3 a e); show a.block ≠ w.heap.size; omega) _)
                  iterate 2 (refine Sl.far ?_ (fun a e => by have := (hat3 a e); show a.block ≠ gb; omega) _)
                  exact S2
                · iterate 4 (refine Sl.far ?_ (fun a e => by have := (hat4 a e); show a.block ≠ w.heap.size; omega) _)
                  iterate 2 (refine Sl.far ?_ (fun a e => by have := (hat4 a e); show a.block ≠ gb; omega) _)
                  exact S3
                · iterate 4 (refine Lat.setCell ?_ (Nat.le_refl _) _)
                  iterate 2 (refine Lat.setCell ?_ (by show w.heap.size ≤ gb; omega) _)
                  exact LX
                · intro a e; cases e; show w.heap.size ≤ gs; omega
                · intro a e; have := hat3 a e; omega
                · intro a e; have := hat4 a e; omega
              · have hvn : ∀ q, v.ownBlock = some q → q ≠ a3.block := fun q hq => by have := (hvown q hq).2.1; have := (hat3 a3 rfl).1; omega
                have hbs := hown.form_sl
                have ha3B := (hat3 a3 rfl).1
                have ha3B0 : B0 ≤ B1 := by have := hlr.size; have := HB0.out; omega
                have HGn := Lib.hid (HG.out.step HC.out h0 (by rw [HBs.out]; exact ht))
                have HNod : Hid (Bs.Nodup) := by
                  have := (full_nodup P).sublist (bestL_sub (vs f P S) (full P))
                  rw [HBs.out] at this; exact this
                rw [HBs.out] at HGn
                have hsum : (S.sum + lv = seats) := hI.sum
                have hord := hI.ord
                have HIpos := Lib.hid hI.pos
                have hLs : Bs.length ≤ lv := by omega
                clear hI HG hown hat3 hat hvown HBs LX
                go_wp2
                go_loopw [20] (fun j wq => ∃ (i : Nat) (v' : Value), i ≤ Bs.length ∧ j = .int .i64 i ∧ Giv gb gs n cS B0 (bump S (Bs.take i)) v' (o ++ Bs.take i) wq ∧ Row wq (some a3) Bs.length (nats Bs) ∧ (∀ q, v'.ownBlock = some q → q ≠ a3.block) ∧ LatP (fun j => j = gb ∨ j = gs) w4 wq) (fun j _ => Bs.length - (intOf j).toNat)
                case atStart => exact ⟨0, v, Nat.zero_le _, rfl, by simpa [bump] using hGx, hbs, hvn, hL4x⟩
                case round =>
                  obtain ⟨W2, rfl⟩ : ∃ W2, W2 = wr := ⟨wr, rfl⟩
                  obtain ⟨i, v', hi, rfl, hGq, hbq, hvn', hlq⟩ := hrel
                  clear hGx hbs hvn hL4x
                  have hsub : ∀ y ∈ Bs.take i, y < S.length := fun y hy => by have := HBM.out y (List.mem_of_mem_take hy); have := HLen.out; omega
                  have hbsum := bump_sum hsub
                  have hbpos := bump_nonneg (Bs.take i) HIpos.out
                  have hblen := bump_length (Bs.take i) S
                  have htl : (Bs.take i).length = i := by rw [List.length_take]; omega
                  by_cases hil : i < Bs.length
                  · obtain ⟨a', u, e3, hab, hub, hcb⟩ := hbq.at hil
                    obtain rfl : a3 = a' := by simpa using e3
                    obtain ⟨x, hx⟩ : ∃ x, Bs[i]? = some x := ⟨_, List.getElem?_eq_getElem hil⟩
                    obtain rfl : Value.int .i64 (x : Int) = u := by simpa [nats, hx] using hub
                    have hxn : x < n := HBM.out x (List.mem_of_getElem? hx)
                    have HBT : Hid (bump S (Bs.take (i + 1)) = (bump S (Bs.take i)).set x (atI (bump S (Bs.take i)) x + 1)) := bump_take hx
                    have HOT : Hid (o ++ Bs.take (i + 1) = (o ++ Bs.take i) ++ [x]) := by
                      show _ = _
                      obtain ⟨hl', rfl⟩ := List.getElem?_eq_some_iff.1 hx
                      rw [List.take_succ_eq_append_getElem hl', List.append_assoc]
                    have HOL : Hid ((nats (o ++ Bs.take i)).length = o.length + i) := by show _ = _; rw [nats_length, List.length_append, htl]
                    obtain ⟨t, ht0⟩ : ∃ t, atI (bump S (Bs.take i)) x = t := ⟨_, rfl⟩
                    have htb := atI_sum_le hbpos x
                    rw [ht0] at htb HBT
                    have ht1 : 0 ≤ t := htb.1
                    have ht2 : t ≤ 1000 := by omega
                    have hol : o.length ≤ 1000 := by omega
                    have hcx : W2.cell? ⟨gs, x, none⟩ = some (.int .i64 t) := hGq.row.cell (by
                      rw [← ht0, atI]
                      have hl' : x < (bump S (Bs.take i)).length := by rw [hblen]; have := HLen.out; omega
                      rw [List.getElem?_eq_getElem hl']; rfl)
                    have hrowq := hGq.row
                    obtain ⟨cur, hcur, _⟩ := hGq.row
                    have hfx := hcur.frozen x
                    have hcg := hGq.gb.cell 0
                    have hxn' : (x : Int) < n := by omega
                    have hil' : (i : Int) < Bs.length := by omega
                    have hgq := hGq.gb
                    have hownq := hGq.own
                    have HX := Lib.hid hx
                    clear hub e3 hx htb ht0 hbsum hbpos hblen htl hsub hGq
                    go_wp2
                    go_region
                    go_upto_region 38 with (fail)
                    refine name_set (Q := fun W => Code.wp _ _ _ _ W) (hcur.later (Lat.drew W2)) ?_
                    intro W3 hcur3 hk3 hs3 hl3
                    have h23 : LatP (· = gs) W2 W3 := ((Lat.drew W2).p _).trans hl3
                    have h43 : LatP (fun j => j = gb ∨ j = gs) w4 W3 := hlq.trans (h23.wider (fun j h => .inr h))
                    have kg3 := hgq.keepP h23 (by omega)
                    have hown3 := hownq.kept' h23 (fun q hq h => by have := (hownq.at q hq).1; omega)
                    have hrow3 : RowN W3 gs n ((bump S (Bs.take i)).set x (t + 1)) := hrowq.put_named hcur hcur3
                    have hbs3 := hbq.kept h23.size (fun a e => h23.block _ (by cases e; exact hab) (by cases e; omega))
                    have hbl3 : a3.block < W3.heap.size := by have := h23.size; omega
                    have D2 : ∀ w', LatP (fun j => j = gb ∨ some j = v'.ownBlock) W3 w' → w'.cell? (a3.add i) = some (.int .i64 (x : Int)) := fun w' h => h.cell_at (by rw [block_add]; exact hbl3) (by rw [block_add]; intro h'; rcases h' with h' | h'; omega; exact hvn' _ h'.symm rfl) (by obtain ⟨a', e, _, hcc⟩ := hbs3.2 (by omega); cases e; exact hcc i _ (by simp [nats, HX.out]))
                    have hB3 : B0 ≤ W3.heap.size := by have := h43.size; omega
                    clear hk3 hs3 hl3 hcur hcur3 hrowq hgq hownq hcx hfx hcg hcb hlq hbq
                    refine wp_region_held_drew (S := fun w' => LatP (fun j => j = gb ∨ some j = v'.ownBlock) W3 w') (by kernel_rfl) ((Lat.drew W3).p _) (fun hHeld => ?_)
                    have Ld : Lat W3 W3.drew := Lat.drew W3
                    obtain ⟨Wd, hWd⟩ : ∃ Wd, W3.drew = Wd := ⟨_, rfl⟩
                    rw [hWd] at hHeld Ld ⊢
                    clear hWd
                    refine wpAnyH_take (i := 0) (v := .pointer (some ⟨gb, 3, none⟩)) rfl (by kernel_rfl) (by kernel_rfl) (by kernel_rfl) (fun _ _ _ h => h) (Or.inl ⟨by rfl, by intro w' hS; go_simp⟩) hHeld ?_
                    try simp only [Act.put, List.setIfInBounds_toArray, List.set_cons_zero, List.set_cons_succ]
                    refine wpAnyH_take (i := 2) (v := .slice (some a3) Bs.length c3) rfl (by kernel_rfl) (by kernel_rfl) (by kernel_rfl) (fun _ _ _ h => h) (Or.inl ⟨by rfl, by intro w' hS; go_simp⟩) hHeld ?_
                    try simp only [Act.put, List.setIfInBounds_toArray, List.set_cons_zero, List.set_cons_succ]
                    refine wpAnyH_take (i := 3) (v := .int .i64 i) rfl (by kernel_rfl) (by kernel_rfl) (by kernel_rfl) (fun _ _ _ h => h) (Or.inl ⟨by rfl, by intro w' hS; go_simp⟩) hHeld ?_
                    try simp only [Act.put, List.setIfInBounds_toArray, List.set_cons_zero, List.set_cons_succ]
                    refine wpAnyH_take (i := 4) (v := .pointer (some (a3.add i))) rfl (by kernel_rfl) (by kernel_rfl) (by kernel_rfl) (fun _ _ _ h => h) (Or.inl ⟨by rfl, by intro w' hS; go_simp⟩) hHeld ?_
                    try simp only [Act.put, List.setIfInBounds_toArray, List.set_cons_zero, List.set_cons_succ]
                    refine wpAnyH_take (i := 5) (v := .int .i64 (x : Int)) rfl (by kernel_rfl) (by kernel_rfl) (by kernel_rfl) (fun _ _ _ h => h) (Or.inl ⟨by rfl, by intro w' hS; have hc := D2 w' hS; go_simp⟩) hHeld ?_
                    try simp only [Act.put, List.setIfInBounds_toArray, List.set_cons_zero, List.set_cons_succ]
                    refine wpAnyH_ready (rs := [1, 6]) (by kernel_rfl) (by simp) (AllReadyH.cons rfl (fun K hK => ?_) (AllReadyH.cons rfl (fun K hK => ?_) AllReadyH.nil))
                    · have e1 := (kg3.later Ld).cell 3
                      go_simp
                      clear e1
                      refine hK.out _ _ hHeld (fun hHeld' => ?_)
                      clear hK K hHeld'
                      try simp only [Act.put, List.setIfInBounds_toArray, List.set_cons_zero, List.set_cons_succ]
                      refine wpAnyH_ready (rs := [6]) (by kernel_rfl) (by simp) (AllReadyH.cons rfl (fun K hK => ?_) AllReadyH.nil)
                      go_simp
                      have hb3 := Blk.new Wd 3 #[.int .i64 (x : Int)]
                      have L3 : Lat W3 (Wd.alloc (.cells #[.int .i64 (x : Int)] 3)) := Ld.trans (Lat.alloc _ _)
                      obtain ⟨W4, hW4⟩ : ∃ W4, Wd.alloc (.cells #[.int .i64 (x : Int)] 3) = W4 := ⟨_, rfl⟩
                      rw [hW4] at hb3 L3 ⊢
                      clear hW4
                      refine hK.out _ _ (L3.p _) (fun hHeld => ?_)
                      clear hK K
                      try simp only [Act.put, List.setIfInBounds_toArray, List.set_cons_zero, List.set_cons_succ]
                      refine wpAnyH_ready (rs := [7]) (by kernel_rfl) (by simp) (AllReadyH.cons rfl (fun K hK => ?_) AllReadyH.nil)
                      refine step_pushL rfl _ _ 44 (by rfl) B0 3 3 (.int .i64 0) 8 Tryz.underlying44 infoIntR rfl (by decide) v' (nats (o ++ Bs.take i)) [.int .i64 (x : Int)] (by simp [Value.oneCell']) W4 Wd.heap.size (by rfl) (hown3.later L3) hb3 1 rfl (by decide) (by rfl) (by rw [HOL.out]; omega) (by have := L3.size; omega) ?_
                      intro q5 c5 W5 hown5 hgr5 hat5
                      have S5 : LatP (fun j => j = gb ∨ some j = v'.ownBlock) W3 W5 := (L3.p _).trans ⟨hgr5.os, hgr5.tape, hgr5.output, hgr5.size, fun j hj hn => hgr5.block j hj (fun h => hn (.inr h))⟩
                      have kg5 := kg3.later L3
                      have kg5 : Blk W5 gb 88 #[.slice (some ⟨gs, 0, none⟩) n cS, .slice none 0 0, .int .i64 0, v'] := (hgr5.block _ kg5.lt (fun h => by have := (hown3.at _ h.symm).1; omega)).trans kg5
                      have hq5 : q5 ≠ a3.block := by
                        rcases hat5 with h | h
                        · exact hvn' q5 h
                        · have := L3.size; omega
                      have hB5 : B0 ≤ q5 := (hown5.form_at _ rfl).1
                      refine hK.out _ _ S5 (fun hHeld => ?_)
                      clear hK K
                      try simp only [Act.put, List.setIfInBounds_toArray, List.set_cons_zero, List.set_cons_succ]
                      refine wpAnyH_take (i := 8) (v := .pointer (some ⟨gb, 3, none⟩)) rfl (by kernel_rfl) (by kernel_rfl) (by kernel_rfl) (fun _ _ _ h => h) (Or.inl ⟨by rfl, by intro w' hS; go_simp⟩) hHeld ?_
                      try simp only [Act.put, List.setIfInBounds_toArray, List.set_cons_zero, List.set_cons_succ]
                      refine wpAnyH_ready (rs := [9]) (by kernel_rfl) (by simp) (AllReadyH.cons rfl (fun K hK => ?_) AllReadyH.nil)
                      have e1 := kg5.cell 3
                      have e2 := kg5.frozen 3
                      go_simp
                      refine hK.out _ _ ?_ (fun hHeld' => ?_)
                      · exact S5.trans ⟨rfl, rfl, rfl, by simp [World.setCell], fun j _ hj => Below.heap_setCell W5 ⟨gb, 3, none⟩ _ j (fun h => hj (.inl h))⟩
                      clear hK K hHeld' e1 e2
                      refine wpAnyH_done (by kernel_rfl) ?_ _
                      refine name_set (Q := fun W => Exit.inBlock _ _ Exit.normal _ W) kg5 ?_
                      intro W6 kg6 hk6 hs6 hl6
                      have hne6 : ∀ q, q5 = q → q ≠ gb := fun q h => by omega
                      have own6 := hown5.kept (fun q hq => hk6 q (hne6 q (by simpa [Value.ownBlock] using hq)))
                      have hne7 : ∀ q, q5 = q → q ≠ a3.block := fun q h => by omega
                      have hl36 : LatP (fun j => j = gb ∨ some j = v'.ownBlock) W3 W6 := S5.trans (hl6.wider (fun j h => .inl h))
                      have krw := hrow3.keepP hl36 (fun h => by rcases h with h | h; omega; have := (hown3.at _ h.symm).1; omega)
                      have kbs := hbs3.kept hl36.size (fun a e => hl36.block _ (by cases e; exact hbl3) (fun h => by cases e; rcases h with h | h; omega; exact hvn' _ h.symm rfl))
                      have hGv6 : Giv gb gs n cS B0 (bump S (Bs.take (i + 1))) _ (o ++ Bs.take (i + 1)) W6 := ⟨kg6, by rw [HBT.out]; exact krw, by rw [HOT.out, nats_snoc]; exact own6⟩
                      have hl46 : LatP (fun j => j = gb ∨ j = gs) w4 W6 := ⟨hl36.os.trans h43.os, hl36.tape.trans h43.tape, hl36.output.trans h43.output, Nat.le_trans h43.size hl36.size, fun k hk hn => (hl36.block k (Nat.lt_of_lt_of_le hk h43.size) (fun h => by rcases h with h | h; exact hn (.inl h); have := (hown3.at _ h.symm).1; have := HB0.out; omega)).trans (h43.block k hk hn)⟩
                      go_wp2
                      go_roundw
                      case rel => exact ⟨i + 1, _, by omega, by go_num, hGv6, kbs, (fun q hq => hne7 q (by simpa [Value.ownBlock] using hq)), hl46⟩
                      case measure => simp [intOf]; omega
                    · go_simp
                      have hb3 := Blk.new Wd 3 #[.int .i64 (x : Int)]
                      have L3 : Lat W3 (Wd.alloc (.cells #[.int .i64 (x : Int)] 3)) := Ld.trans (Lat.alloc _ _)
                      obtain ⟨W4, hW4⟩ : ∃ W4, Wd.alloc (.cells #[.int .i64 (x : Int)] 3) = W4 := ⟨_, rfl⟩
                      rw [hW4] at hb3 L3 ⊢
                      clear hW4
                      refine hK.out _ _ (L3.p _) (fun hHeld => ?_)
                      clear hK K
                      try simp only [Act.put, List.setIfInBounds_toArray, List.set_cons_zero, List.set_cons_succ]
                      refine wpAnyH_ready (rs := [1]) (by kernel_rfl) (by simp) (AllReadyH.cons rfl (fun K hK => ?_) AllReadyH.nil)
                      have e1 := (kg3.later L3).cell 3
                      go_simp
                      clear e1
                      refine hK.out _ _ hHeld (fun hHeld' => ?_)
                      clear hK K hHeld'
                      try simp only [Act.put, List.setIfInBounds_toArray, List.set_cons_zero, List.set_cons_succ]
                      refine wpAnyH_ready (rs := [7]) (by kernel_rfl) (by simp) (AllReadyH.cons rfl (fun K hK => ?_) AllReadyH.nil)
                      refine step_pushL rfl _ _ 44 (by rfl) B0 3 3 (.int .i64 0) 8 Tryz.underlying44 infoIntR rfl (by decide) v' (nats (o ++ Bs.take i)) [.int .i64 (x : Int)] (by simp [Value.oneCell']) W4 Wd.heap.size (by rfl) (hown3.later L3) hb3 1 rfl (by decide) (by rfl) (by rw [HOL.out]; omega) (by have := L3.size; omega) ?_
                      intro q5 c5 W5 hown5 hgr5 hat5
                      have S5 : LatP (fun j => j = gb ∨ some j = v'.ownBlock) W3 W5 := (L3.p _).trans ⟨hgr5.os, hgr5.tape, hgr5.output, hgr5.size, fun j hj hn => hgr5.block j hj (fun h => hn (.inr h))⟩
                      have kg5 := kg3.later L3
                      have kg5 : Blk W5 gb 88 #[.slice (some ⟨gs, 0, none⟩) n cS, .slice none 0 0, .int .i64 0, v'] := (hgr5.block _ kg5.lt (fun h => by have := (hown3.at _ h.symm).1; omega)).trans kg5
                      have hq5 : q5 ≠ a3.block := by
                        rcases hat5 with h | h
                        · exact hvn' q5 h
                        · have := L3.size; omega
                      have hB5 : B0 ≤ q5 := (hown5.form_at _ rfl).1
                      refine hK.out _ _ S5 (fun hHeld => ?_)
                      clear hK K
                      try simp only [Act.put, List.setIfInBounds_toArray, List.set_cons_zero, List.set_cons_succ]
                      refine wpAnyH_take (i := 8) (v := .pointer (some ⟨gb, 3, none⟩)) rfl (by kernel_rfl) (by kernel_rfl) (by kernel_rfl) (fun _ _ _ h => h) (Or.inl ⟨by rfl, by intro w' hS; go_simp⟩) hHeld ?_
                      try simp only [Act.put, List.setIfInBounds_toArray, List.set_cons_zero, List.set_cons_succ]
                      refine wpAnyH_ready (rs := [9]) (by kernel_rfl) (by simp) (AllReadyH.cons rfl (fun K hK => ?_) AllReadyH.nil)
                      have e1 := kg5.cell 3
                      have e2 := kg5.frozen 3
                      go_simp
                      refine hK.out _ _ ?_ (fun hHeld' => ?_)
                      · exact S5.trans ⟨rfl, rfl, rfl, by simp [World.setCell], fun j _ hj => Below.heap_setCell W5 ⟨gb, 3, none⟩ _ j (fun h => hj (.inl h))⟩
                      clear hK K hHeld' e1 e2
                      refine wpAnyH_done (by kernel_rfl) ?_ _
                      refine name_set (Q := fun W => Exit.inBlock _ _ Exit.normal _ W) kg5 ?_
                      intro W6 kg6 hk6 hs6 hl6
                      have hne6 : ∀ q, q5 = q → q ≠ gb := fun q h => by omega
                      have own6 := hown5.kept (fun q hq => hk6 q (hne6 q (by simpa [Value.ownBlock] using hq)))
                      have hne7 : ∀ q, q5 = q → q ≠ a3.block := fun q h => by omega
                      have hl36 : LatP (fun j => j = gb ∨ some j = v'.ownBlock) W3 W6 := S5.trans (hl6.wider (fun j h => .inl h))
                      have krw := hrow3.keepP hl36 (fun h => by rcases h with h | h; omega; have := (hown3.at _ h.symm).1; omega)
                      have kbs := hbs3.kept hl36.size (fun a e => hl36.block _ (by cases e; exact hbl3) (fun h => by cases e; rcases h with h | h; omega; exact hvn' _ h.symm rfl))
                      have hGv6 : Giv gb gs n cS B0 (bump S (Bs.take (i + 1))) _ (o ++ Bs.take (i + 1)) W6 := ⟨kg6, by rw [HBT.out]; exact krw, by rw [HOT.out, nats_snoc]; exact own6⟩
                      have hl46 : LatP (fun j => j = gb ∨ j = gs) w4 W6 := ⟨hl36.os.trans h43.os, hl36.tape.trans h43.tape, hl36.output.trans h43.output, Nat.le_trans h43.size hl36.size, fun k hk hn => (hl36.block k (Nat.lt_of_lt_of_le hk h43.size) (fun h => by rcases h with h | h; exact hn (.inl h); have := (hown3.at _ h.symm).1; have := HB0.out; omega)).trans (h43.block k hk hn)⟩
                      go_wp2
                      go_roundw
                      case rel => exact ⟨i + 1, _, by omega, by go_num, hGv6, kbs, (fun q hq => hne7 q (by simpa [Value.ownBlock] using hq)), hl46⟩
                      case measure => simp [intOf]; omega
                  · obtain rfl : Bs.length = i := by omega
                    have htk : Bs.take Bs.length = Bs := List.take_length
                    rw [htk] at hGq hbsum hbpos hblen
                    have hI' : RInv seats n (bump S Bs) (lv - Bs.length) (o ++ Bs) := ⟨by rw [hblen]; exact HLen.out, hbpos, by omega, by rw [List.length_append]; omega⟩
                    have hlv' : 0 ≤ lv - Bs.length := by omega
                    clear hsub hbsum hbpos hblen htl htk hbq hvn'
                    go_wp2
                    go_roundw
                    case rel => exact ⟨bump S Bs, lv - Bs.length, o ++ Bs, v', rfl, hlv', HGn, hI', hGq, hlq⟩
                    case measure => simp [intOf]; omega
        · obtain rfl := HG.out.done (by omega)
          have hbG := hGv.gb
          have c1_0 := K1r.cell 0
          have c1_1 := K1r.cell 1
          have c1_2 := K1r.cell 2
          have c1_3 := K1r.cell 3
          have f1_0 := K1r.frozen 0
          have f1_1 := K1r.frozen 1
          have f1_2 := K1r.frozen 2
          have f1_3 := K1r.frozen 3
          have c2_0 := hbG.cell 0
          have c2_1 := hbG.cell 1
          have c2_2 := hbG.cell 2
          have c2_3 := hbG.cell 3
          obtain ⟨A3, n3, c3, rfl⟩ := hGv.own.as_slice
          have S3 := Row.sl (hGv.own.form_sl)
          have SR := hGv.row.sl
          clear HG hI hlr
          go_wp2
          refine bodyPost_ret (v := .tuple #[.agg #[.slice (some ⟨gs, 0, none⟩) n cS, .slice none 0 0, .int .i64 0, .slice A3 n3 c3], .int .i64 0]) (by simp [results, Tryz.results46, go_sem, c1_0, c1_1, c1_2, c1_3]) rfl ?_
          refine ⟨some ⟨gs, 0, none⟩, n, cS, none, 0, 0, A3, n3, c3, rfl, ?_, Sl.nil _ _ _, ?_, ?_, ?_, ?_, ?_⟩
          · iterate 4 (refine Sl.far ?_ (fun a e => by cases e; show gs ≠ w.heap.size; omega) _)
            exact SR
          · iterate 4 (refine Sl.far ?_ (fun a e => by have := (hGv.own.form_at a e); show a.block ≠ w.heap.size; omega) _)
            exact S3
          · iterate 4 (refine Lat.setCell ?_ (Nat.le_refl _) _)
            exact LR
          · intro a e; cases e; show w.heap.size ≤ gs; omega
          · intro a e; cases e
          · intro a e; have := hGv.own.form_at a e; omega
end Go.Proofs.YtebbhhdnjflmcaaGreat

/- The reference's give in all cases; Give and Order. -/
namespace Go.Proofs.YtebbhhdnjflmcaaGreat
open Go.RowKit Go.Shelf
set_option linter.unusedSimpArgs false

/-- What 'give' leaves. -/
def GivFin (w : World) (F : Aw) (er : Int) (e : Ending) (w' : World) : Prop :=
  ∃ A1 n1 c1 A2 n2 c2 A3 n3 c3, e = .returned (.tuple #[.agg #[.slice A1 n1 c1, .slice A2 n2 c2, .int .i64 F.left, .slice A3 n3 c3], .int .i64 er]) ∧
    Sl w' .i64 A1 n1 F.seats ∧ Sl w' .i64 A2 n2 (ints F.tied) ∧ Sl w' .i64 A3 n3 (ints F.order) ∧ Lat w w' ∧
    (∀ a, A1 = some a → w.heap.size ≤ a.block) ∧ (∀ a, A2 = some a → w.heap.size ≤ a.block) ∧ ∀ a, A3 = some a → w.heap.size ≤ a.block
/-- An error, and nothing made. -/
def GivNo (w : World) (er : Int) (e : Ending) (w' : World) : Prop :=
  e = .returned (.tuple #[.agg #[.slice none 0 0, .slice none 0 0, .int .i64 0, .slice none 0 0], .int .i64 er]) ∧ Lat w w'
theorem GivNo.fin {w : World} {er : Int} {e : Ending} {w' : World} (h : GivNo w er e w') : GivFin w noAw er e w' := by
  obtain ⟨rfl, hl⟩ := h
  exact ⟨none, 0, 0, none, 0, 0, none, 0, 0, rfl, Sl.nil _ _ _, Sl.nil _ _ _, Sl.nil _ _ _, hl, (fun a e => by cases e), (fun a e => by cases e), fun a e => by cases e⟩

set_option maxRecDepth 100000 in
set_option maxHeartbeats 2000000 in
theorem rgive_census (A : Option Addr) (n c : Nat) (P : List Int) (lv : Value) (seats m : Int) (w : World) (hs : Sl w .i64 A n P) (hn : n ≤ 1000) (hc : censusB P = false) :
    Calls Tryz.prog 46 #[.slice A n c, .int .i64 seats, .int .i64 m, lv] w (GivNo w 60) := by
  have HC := Lib.hid (cenE_no hc)
  clear hc
  go_enter Tryz.func46, Tryz.ntmps46
  go_wp2_with fail
  refine name1 (Q := fun W => Calls _ _ _ W _) ?_
  intro W hlW hs2 k1
  refine (rCheck_any A n c P W (hs.later hlW) hn).mono ?_
  rintro e w1 ⟨rfl, rfl⟩
  rw [HC.out]
  have c1_0 := k1.cell 0
  have c1_1 := k1.cell 1
  have c1_2 := k1.cell 2
  have c1_3 := k1.cell 3
  have f1_0 := k1.frozen 0
  have f1_1 := k1.frozen 1
  have f1_2 := k1.frozen 2
  have f1_3 := k1.frozen 3
  go_wp2
  refine bodyPost_ret (v := .tuple #[.agg #[.slice none 0 0, .slice none 0 0, .int .i64 0, .slice none 0 0], .int .i64 60]) (by simp [results, Tryz.results46, go_sem, c1_0, c1_1, c1_2, c1_3]) rfl ?_
  refine ⟨rfl, ?_⟩
  iterate 4 (refine Lat.setCell ?_ (Nat.le_refl _) _)
  exact hlW

set_option maxRecDepth 100000 in
set_option maxHeartbeats 2000000 in
theorem rgive_ask (A : Option Addr) (n c : Nat) (P : List Int) (lv : Value) (seats m : Int) (w : World) (hs : Sl w .i64 A n P) (hn : n ≤ 1000) (hc : censusB P = true) (ha : askB seats m = false) :
    Calls Tryz.prog 46 #[.slice A n c, .int .i64 seats, .int .i64 m, lv] w (GivNo w 2) := by
  have HC := Lib.hid (cenE_yes hc)
  have ha' : ¬ (1 ≤ seats ∧ seats ≤ 1000 ∧ 11 ≤ m ∧ m ≤ 15) := by
    intro h
    have : askB seats m = true := by simp [askB, h]
    rw [this] at ha; cases ha
  clear hc ha
  go_enter Tryz.func46, Tryz.ntmps46
  go_wp2_with fail
  refine name1 (Q := fun W => Calls _ _ _ W _) ?_
  intro W hlW hs2 k1
  refine (rCheck_any A n c P W (hs.later hlW) hn).mono ?_
  rintro e w1 ⟨rfl, rfl⟩
  rw [HC.out]
  have c1_0 := k1.cell 0
  have c1_1 := k1.cell 1
  have c1_2 := k1.cell 2
  have c1_3 := k1.cell 3
  have f1_0 := k1.frozen 0
  have f1_1 := k1.frozen 1
  have f1_2 := k1.frozen 2
  have f1_3 := k1.frozen 3
  by_cases h1 : seats < 1
  · clear ha'
    go_wp2
    refine bodyPost_ret (v := .tuple #[.agg #[.slice none 0 0, .slice none 0 0, .int .i64 0, .slice none 0 0], .int .i64 2]) (by simp [results, Tryz.results46, go_sem, c1_0, c1_1, c1_2, c1_3]) rfl ?_
    refine ⟨rfl, ?_⟩
    iterate 4 (refine Lat.setCell ?_ (Nat.le_refl _) _)
    exact hlW
  · by_cases h2 : 1000 < seats
    · clear ha'
      go_wp2
      refine bodyPost_ret (v := .tuple #[.agg #[.slice none 0 0, .slice none 0 0, .int .i64 0, .slice none 0 0], .int .i64 2]) (by simp [results, Tryz.results46, go_sem, c1_0, c1_1, c1_2, c1_3]) rfl ?_
      refine ⟨rfl, ?_⟩
      iterate 4 (refine Lat.setCell ?_ (Nat.le_refl _) _)
      exact hlW
    · have HK : Hid (decide (11 ≤ m ∧ m ≤ 15) = false) := by show _ = _; simp only [decide_eq_false_iff_not]; omega
      have HN := rKnown_any m W
      rw [HK.out] at HN
      clear ha' HK
      go_wp2_with fail
      refine HN.mono ?_
      rintro e w1 ⟨rfl, rfl⟩
      go_wp2
      refine bodyPost_ret (v := .tuple #[.agg #[.slice none 0 0, .slice none 0 0, .int .i64 0, .slice none 0 0], .int .i64 2]) (by simp [results, Tryz.results46, go_sem, c1_0, c1_1, c1_2, c1_3]) rfl ?_
      refine ⟨rfl, ?_⟩
      iterate 4 (refine Lat.setCell ?_ (Nat.le_refl _) _)
      exact hlW

set_option maxRecDepth 100000 in
set_option maxHeartbeats 2000000 in
theorem rgive_min (A : Option Addr) (n c : Nat) (P : List Int) (Al : Option Addr) (nl cl : Nat) (Lx : List Int) (seats m : Int) (w : World) (hs : Sl w .i64 A n P) (hl : Sl w .i64 Al nl Lx) (hn : n ≤ 1000) (hnl : nl ≤ 1000) (hc : censusB P = true) (ha : askB seats m = true)
    (hm : minB n seats Lx = false) :
    Calls Tryz.prog 46 #[.slice A n c, .int .i64 seats, .int .i64 m, .slice Al nl cl] w (GivNo w 2) := by
  have HC := Lib.hid (cenE_yes hc)
  have hask : 1 ≤ seats ∧ seats ≤ 1000 ∧ 11 ≤ m ∧ m ≤ 15 := by simpa [askB] using ha
  have h1 := hask.1
  have h2 := hask.2.1
  have HK : Hid (decide (11 ≤ m ∧ m ≤ 15) = true) := by show _ = _; rw [decide_eq_true_eq]; exact hask.2.2
  have HN := fun w => rKnown_any m w
  rw [HK.out] at HN
  have HM := fun w (h : Sl w .i64 Al nl Lx) => minimums_any n seats Al nl cl Lx w h hnl h1 h2 hn
  rw [hm] at HM
  clear hc ha HK hask hm
  go_enter Tryz.func46, Tryz.ntmps46
  go_wp2_with fail
  refine name1 (Q := fun W => Calls _ _ _ W _) ?_
  intro W hlW hs2 k1
  refine (rCheck_any A n c P W (hs.later hlW) hn).mono ?_
  rintro e w1 ⟨rfl, rfl⟩
  rw [HC.out]
  go_wp2_with fail
  refine (HN _).mono ?_
  rintro e w1 ⟨rfl, rfl⟩
  go_wp2_with fail
  refine (HM _ (hl.later hlW)).mono ?_
  rintro e w2 ⟨A2, n2, c2, rfl, _, l2⟩
  have k1 := k1.later l2
  have c1_0 := k1.cell 0
  have c1_1 := k1.cell 1
  have c1_2 := k1.cell 2
  have c1_3 := k1.cell 3
  have f1_0 := k1.frozen 0
  have f1_1 := k1.frozen 1
  have f1_2 := k1.frozen 2
  have f1_3 := k1.frozen 3
  clear HM HN
  go_wp2
  refine bodyPost_ret (v := .tuple #[.agg #[.slice none 0 0, .slice none 0 0, .int .i64 0, .slice none 0 0], .int .i64 2]) (by simp [results, Tryz.results46, go_sem, c1_0, c1_1, c1_2, c1_3]) rfl ?_
  refine ⟨rfl, ?_⟩
  iterate 4 (refine Lat.setCell ?_ (Nat.le_refl _) _)
  exact hlW.trans l2

theorem rgive_fin (A : Option Addr) (n c : Nat) (P : List Int) (Al : Option Addr) (nl cl : Nat) (Lx : List Int) (seats m : Int) (w : World)
    (hs : Sl w .i64 A n P) (hl : Sl w .i64 Al nl Lx) (hn : n ≤ 1000) (hnl : nl ≤ 1000) :
    Calls Tryz.prog 46 #[.slice A n c, .int .i64 seats, .int .i64 m, .slice Al nl cl] w (GivFin w (giveF P seats m Lx) (giveE P seats m Lx)) := by
  have hPn := hs.1
  cases hc : censusB P with
  | false =>
    have he : giveE P seats m Lx = 60 := by rw [giveE, if_pos hc]
    rw [giveF, if_neg (by omega), he]
    exact (rgive_census A n c P _ seats m w hs hn hc).mono fun e w' h => h.fin
  | true =>
    cases ha : askB seats m with
    | false =>
      have he : giveE P seats m Lx = 2 := by rw [giveE, if_neg (by simp [hc]), if_pos ha]
      rw [giveF, if_neg (by omega), he]
      exact (rgive_ask A n c P _ seats m w hs hn hc ha).mono fun e w' h => h.fin
    | true =>
      have hask : 1 ≤ seats ∧ seats ≤ 1000 ∧ 11 ≤ m ∧ m ≤ 15 := by simpa [askB] using ha
      cases hm : minB n seats Lx with
      | false =>
        have he : giveE P seats m Lx = 2 := by
          rw [giveE, if_neg (by simp [hc]), if_neg (by simp [ha]), hPn]
          by_cases hlow : lowB n seats Lx = false
          · rw [if_pos hlow]
          · rw [if_neg hlow, if_pos]
            simp only [minB, Bool.and_eq_false_iff, decide_eq_false_iff_not] at hm
            rcases hm with hm | hm
            · exact absurd hm hlow
            · omega
        rw [giveF, if_neg (by omega), he]
        exact (rgive_min A n c P Al nl cl Lx seats m w hs hl hn hnl hc ha hm).mono fun e w' h => h.fin
      | true =>
        have hm' := hm
        simp only [minB, lowB, Bool.and_eq_true, decide_eq_true_eq, inAll_iff] at hm'
        have he : giveE P seats m Lx = 0 := by
          have hlow : lowB n seats Lx = true := by simp only [minB, Bool.and_eq_true] at hm; exact hm.1
          rw [giveE, if_neg (by simp [hc]), if_neg (by simp [ha]), hPn, if_neg (by simp [hlow]), if_neg (by omega)]
        rw [giveF, if_pos he, he, giveA, hPn]
        have hcen := census_iff.1 hc
        have hn60 : n ≤ 60 := by omega
        have hn1 : 0 < n := by
          rcases Nat.eq_zero_or_pos n with h | h
          · have : P = [] := List.eq_nil_of_length_eq_zero (by omega)
            have := hcen.2.2
            subst P; simp at this
          · exact h
        have HK : decide (11 ≤ m ∧ m ≤ 15) = true := by rw [decide_eq_true_eq]; exact hask.2.2
        have HN := fun w => rKnown_any m w
        rw [HK] at HN
        refine (rgive_main (f := cmpR m) A n c P Al nl cl Lx (lowOf n Lx) seats w hs hl hn1 hn60 hcen.2.1 (full_ne hcen.2.2) hask.1 hask.2.1 (fun w h => ?_) HN (fun w h => ?_) (fun p s q t w a1 a2 a3 a4 a5 a6 a7 a8 => rAbove_in m p s q t w hask.2.2.1 hask.2.2.2 a3 a4 a7 a8 a1 a2 a5 a6) (fun x hx => (hm'.1.2 x hx).1) hm'.2).mono fun e w' h => h
        · have := rCheck_any A n c P w h hn
          rw [cenE_yes hc] at this
          exact this
        · have := minimums_any n seats Al nl cl Lx w h hnl hask.1 hask.2.1 hn
          rw [hm] at this
          refine this.mono ?_
          rintro e w' ⟨A', n', c', rfl, h1, h2⟩
          obtain ⟨rfl, h3⟩ := h1 rfl
          exact ⟨A', c', rfl, h3, h2⟩

set_option maxRecDepth 100000 in
set_option maxHeartbeats 2000000 in
theorem rGive_any (A : Option Addr) (n c : Nat) (P : List Int) (Al : Option Addr) (nl cl : Nat) (Lx : List Int) (seats m : Int) (w : World)
    (hs : Sl w .i64 A n P) (hl : Sl w .i64 Al nl Lx) (hn : n ≤ 1000) (hnl : nl ≤ 1000) :
    Calls Tryz.prog 21 #[.slice A n c, .int .i64 seats, .int .i64 m, .slice Al nl cl] w (GivePost w (giveF P seats m Lx) (giveE P seats m Lx)) := by
  have HR := fun w (h1 : Sl w .i64 A n P) (h2 : Sl w .i64 Al nl Lx) => rgive_fin A n c P Al nl cl Lx seats m w h1 h2 hn hnl
  obtain ⟨F, hF⟩ : ∃ F, giveF P seats m Lx = F := ⟨_, rfl⟩
  obtain ⟨er, her⟩ : ∃ er, giveE P seats m Lx = er := ⟨_, rfl⟩
  rw [hF, her] at HR ⊢
  clear hF her
  go_enter Tryz.func21, Tryz.ntmps21
  go_wp2_with fail
  refine name1 (Q := fun W => Calls _ _ _ W _) ?_
  intro W hlW hs2 k1
  refine (HR W (hs.later hlW) (hl.later hlW)).mono ?_
  rintro e w1 ⟨A1, n1, c1, A2, n2, c2, A3, n3, c3, rfl, q1, q2, q3, l1, z1, z2, _⟩
  have Q1 := Lib.hid q1
  have Q2 := Lib.hid q2
  have Z1 := Lib.hid z1
  have Z2 := Lib.hid z2
  have K1 := k1.later l1
  clear k1 q1 q2 q3 HR z1 z2
  go_upto_region 2 with (fail)
  refine name1 (Q := fun W => Code.wp _ _ _ _ W) ?_
  intro w2 l2 hs3 k2
  have K1 := K1.later l2
  have c1_0 := K1.cell 0
  have c1_1 := K1.cell 1
  have c1_2 := K1.cell 2
  have f1_0 := K1.frozen 0
  have f1_1 := K1.frozen 1
  have f1_2 := K1.frozen 2
  have c2_0 := k2.cell 0
  have c2_1 := k2.cell 1
  have c2_2 := k2.cell 2
  have c2_3 := k2.cell 3
  go_wp2
  refine bodyPost_ret (v := .tuple #[.agg #[.slice A1 n1 c1, .slice A2 n2 c2, .int .i64 F.left], .int .i64 er]) (by simp [results, Tryz.results21, go_sem, c1_0, c1_1, c1_2]) rfl ?_
  have L := (hlW.trans l1).trans l2
  refine ⟨A1, n1, c1, A2, n2, c2, rfl, ?_, ?_, ?_⟩
  · iterate 3 (refine Sl.far ?_ (fun a e => by have := Z1.out a e; show a.block ≠ w.heap.size; omega) _)
    exact Q1.out.later l2
  · iterate 3 (refine Sl.far ?_ (fun a e => by have := Z2.out a e; show a.block ≠ w.heap.size; omega) _)
    exact Q2.out.later l2
  · iterate 3 (refine Lat.setCell ?_ (Nat.le_refl _) _)
    exact L

set_option maxRecDepth 100000 in
set_option maxHeartbeats 2000000 in
theorem rOrder7_any (A : Option Addr) (n c : Nat) (P : List Int) (Al : Option Addr) (nl cl : Nat) (Lx : List Int) (seats m : Int) (w : World)
    (hs : Sl w .i64 A n P) (hl : Sl w .i64 Al nl Lx) (hn : n ≤ 1000) (hnl : nl ≤ 1000) :
    Calls Tryz.prog 23 #[.slice A n c, .int .i64 seats, .int .i64 m, .slice Al nl cl] w (OrderPost w (giveF P seats m Lx) (giveE P seats m Lx)) := by
  have HR := fun w (h1 : Sl w .i64 A n P) (h2 : Sl w .i64 Al nl Lx) => rgive_fin A n c P Al nl cl Lx seats m w h1 h2 hn hnl
  obtain ⟨F, hF⟩ : ∃ F, giveF P seats m Lx = F := ⟨_, rfl⟩
  obtain ⟨er, her⟩ : ∃ er, giveE P seats m Lx = er := ⟨_, rfl⟩
  rw [hF, her] at HR ⊢
  clear hF her
  go_enter Tryz.func23, Tryz.ntmps23
  go_wp2_with fail
  refine (HR w hs hl).mono ?_
  rintro e w1 ⟨A1, n1, c1, A2, n2, c2, A3, n3, c3, rfl, q1, q2, q3, l1, _⟩
  have Q3 := Lib.hid q3
  clear q1 q2 q3 HR
  go_upto_region 2 with (fail)
  refine name1 (Q := fun W => Code.wp _ _ _ _ W) ?_
  intro w2 l2 hs3 k2
  have c2_0 := k2.cell 0
  have c2_1 := k2.cell 1
  have c2_2 := k2.cell 2
  have c2_3 := k2.cell 3
  go_wp2
  refine bodyPost_ret (v := .tuple #[.slice A3 n3 c3, .int .i64 er]) (by simp [results, Tryz.results23, go_sem]) rfl ?_
  exact ⟨A3, n3, c3, rfl, Q3.out.later l2, l1.trans l2⟩
end Go.Proofs.YtebbhhdnjflmcaaGreat
