/- Several texts in one: WeA, WeC, WeD. -/
import Derived.Test.YtogkkhaepfablaaK31
import Derived.Test.YtogkkhaepfablaaChV
import Derived.Test.YtogkkhaepfablaaK36

/- Chance: Coin, where the drawn number fails (printed by gen_pickerr.py; Pick: see ChU). -/
namespace Go.Proofs.Ytogkkhaepfablaa
open Go.RowKit Go.Shelf
set_option linter.unusedSimpArgs false

set_option maxRecDepth 100000 in
set_option maxHeartbeats 8000000 in
theorem coin_err (s : Nat) (u v : W8) (HK : ∀ w, Calls Try.prog 41 #[.agg #[.int .u64 u.a0, .int .u64 u.a1, .int .u64 u.a2, .int .u64 u.a3, .int .u64 u.a4, .int .u64 u.a5, .int .u64 u.a6, .int .u64 u.a7, .int .u64 v.a0, .int .u64 v.a1, .int .u64 v.a2, .int .u64 v.a3, .int .u64 v.a4, .int .u64 v.a5, .int .u64 v.a6, .int .u64 v.a7]] w (fun e w' => e = .returned (.int .i64 0) ∧ Lat w w')) (sn : Int) (hsn : 0 ≤ sn) (HG : ∀ w, Calls Try.prog 32 #[.agg #[.int .u64 u.a0, .int .u64 u.a1, .int .u64 u.a2, .int .u64 u.a3, .int .u64 u.a4, .int .u64 u.a5, .int .u64 u.a6, .int .u64 u.a7]] w (fun e w' => e = .returned (.int .i64 sn) ∧ Lat w w'))
    (cm : Int) (hcm : ¬ 0 < cm) (HC : ∀ w, Calls Try.prog 19 #[.agg #[.int .u64 u.a0, .int .u64 u.a1, .int .u64 u.a2, .int .u64 u.a3, .int .u64 u.a4, .int .u64 u.a5, .int .u64 u.a6, .int .u64 u.a7], .agg #[.int .u64 v.a0, .int .u64 v.a1, .int .u64 v.a2, .int .u64 v.a3, .int .u64 v.a4, .int .u64 v.a5, .int .u64 v.a6, .int .u64 v.a7]] w (fun e w' => e = .returned (.int .i64 cm) ∧ Lat w w')) (xw : W8) (t : Nat) (en : Int) (hen : (en == 0) = false) (HW : ∀ w, Calls Try.prog 18 #[.agg #[.int .u64 s], .agg #[.int .u64 v.a0, .int .u64 v.a1, .int .u64 v.a2, .int .u64 v.a3, .int .u64 v.a4, .int .u64 v.a5, .int .u64 v.a6, .int .u64 v.a7]] w (WidEnd w xw t en)) (w : World) :
    Calls Try.prog 25 #[.agg #[.int .u64 s], .agg #[.int .u64 u.a0, .int .u64 u.a1, .int .u64 u.a2, .int .u64 u.a3, .int .u64 u.a4, .int .u64 u.a5, .int .u64 u.a6, .int .u64 u.a7, .int .u64 v.a0, .int .u64 v.a1, .int .u64 v.a2, .int .u64 v.a3, .int .u64 v.a4, .int .u64 v.a5, .int .u64 v.a6, .int .u64 v.a7]] w (CoinEnd w false 0 en) := by
  have hd1 : decide (sn < 0) = false := decide_eq_false (by omega)
  have hd2 : decide (0 < cm) = false := decide_eq_false hcm
  have HWH := Lib.hid HW
  clear HW
  go_enter Try.func25, Try.ntmps25
  go_wp2_with fail
  refine name3 (Q := fun W => Calls _ _ _ W _) ?_
  intro W1 l1 hs1 k2 k3 k5
  refine (HK W1).mono ?_
  rintro e W2 ⟨rfl, l2⟩
  replace k2 := k2.later l2
  replace k3 := k3.later l2
  replace k5 := k5.later l2
  have L2 := l1.trans l2
  have hs2 : w.heap.size + 3 ≤ W2.heap.size := by have := l2.size; omega
  clear l1 l2 hs1 HK
  have d0 := k3.cell 0
  have d1 := k3.cell 1
  have d2 := k3.cell 2
  have d3 := k3.cell 3
  have d4 := k3.cell 4
  have d5 := k3.cell 5
  have d6 := k3.cell 6
  have d7 := k3.cell 7
  go_wp2_with fail
  refine (HG W2).mono ?_
  rintro e W3 ⟨rfl, l3⟩
  replace k2 := k2.later l3
  replace k3 := k3.later l3
  replace k5 := k5.later l3
  have L3 := L2.trans l3
  have hs3 : w.heap.size + 3 ≤ W3.heap.size := by have := l3.size; omega
  clear d0 d1 d2 d3 d4 d5 d6 d7
  clear l3 L2 hs2 HG
  have d0 := k3.cell 0
  have d1 := k3.cell 1
  have d2 := k3.cell 2
  have d3 := k3.cell 3
  have d4 := k3.cell 4
  have d5 := k3.cell 5
  have d6 := k3.cell 6
  have d7 := k3.cell 7
  have d8 := k3.cell 8
  have d9 := k3.cell 9
  have d10 := k3.cell 10
  have d11 := k3.cell 11
  have d12 := k3.cell 12
  have d13 := k3.cell 13
  have d14 := k3.cell 14
  have d15 := k3.cell 15
  go_wp2_with fail
  refine (HC W3).mono ?_
  rintro e W4 ⟨rfl, l4⟩
  replace k2 := k2.later l4
  replace k3 := k3.later l4
  replace k5 := k5.later l4
  have L4 := L3.trans l4
  have hs4 : w.heap.size + 3 ≤ W4.heap.size := by have := l4.size; omega
  clear d0 d1 d2 d3 d4 d5 d6 d7 d8 d9 d10 d11 d12 d13 d14 d15
  clear l4 L3 hs3 HC
  have d0 := k3.cell 0
  have d1 := k3.cell 1
  have d2 := k3.cell 2
  have d3 := k3.cell 3
  have d4 := k3.cell 4
  have d5 := k3.cell 5
  have d6 := k3.cell 6
  have d7 := k3.cell 7
  have d8 := k3.cell 8
  have d9 := k3.cell 9
  have d10 := k3.cell 10
  have d11 := k3.cell 11
  have d12 := k3.cell 12
  have d13 := k3.cell 13
  have d14 := k3.cell 14
  have d15 := k3.cell 15
  have c2' : W4.cell? ⟨w.heap.size, 0, none⟩ = some (.int .u64 (s : Int)) := k2.cell 0
  go_wp2_with fail
  refine (HWH.out W4).mono ?_
  rintro e W5 ⟨rfl, l5⟩
  replace k3 := k3.later l5
  replace k5 := k5.later l5
  have L5 := L4.trans l5
  have hs5 : w.heap.size + 3 ≤ W5.heap.size := by have := l5.size; omega
  clear d0 d1 d2 d3 d4 d5 d6 d7 d8 d9 d10 d11 d12 d13 d14 d15
  clear l5 L4 hs4 HWH c2' k2
  go_upto_region 8 with (fail)
  refine name2 (Q := fun W => Code.wp _ _ _ _ W) ?_
  intro W6 l6 hs6 k8 k9
  replace k5 := k5.later l6
  have L6 := L5.trans l6
  clear l6 L5 k8 k9 k3
  have c5 : W6.cell? ⟨w.heap.size + 1 + 1, 0, none⟩ = some (.int .u64 0) := k5.cell 0
  have f5 := k5.frozen 0
  have h5 := k5.lt
  go_wp2
  refine name_set (Q := fun W => bodyPost _ _ _ _ _ W) k5 ?_
  intro V3 j5 _ _ l5
  have c6 : V3.cell? ⟨w.heap.size + 1 + 1, 0, none⟩ = some (.int .u64 0) := j5.cell 0
  refine bodyPost_ret (v := .tuple #[.bool false, .agg #[.int .u64 0], .int .i64 en]) (by simp [results, Try.results25, go_sem, c6]) rfl ?_
  exact ⟨rfl, l5.narrow L6 (by omega)⟩

end Go.Proofs.Ytogkkhaepfablaa

/- Chance: Pick of weights that are not negative and not too great. -/
namespace Go.Proofs.Ytogkkhaepfablaa
open Go.RowKit Go.Shelf
set_option linter.unusedSimpArgs false

/-- The sum of the first weights. -/
def preS (ns : List Int) (i : Nat) : Int := (ns.take i).sum
theorem preS_zero (ns : List Int) : preS ns 0 = 0 := rfl
theorem preS_succ {ns : List Int} {i : Nat} {x : Int} (h : ns[i]? = some x) : preS ns (i + 1) = preS ns i + x := by
  obtain ⟨hlt, e⟩ := List.getElem?_eq_some_iff.1 h
  unfold preS
  rw [List.take_succ_eq_append_getElem hlt, List.sum_append, e]
  simp
theorem preS_le {ns : List Int} (h : ∀ x ∈ ns, 0 ≤ x) (i : Nat) : preS ns i ≤ preS ns (i + 1) := by
  cases e : ns[i]? with
  | some x => rw [preS_succ e]; have := h x (List.mem_of_getElem? e); omega
  | none =>
    have hl : ns.length ≤ i := List.getElem?_eq_none_iff.1 e
    unfold preS
    rw [List.take_of_length_le hl, List.take_of_length_le (by omega)]
    exact Int.le_refl _
theorem preS_mono {ns : List Int} (h : ∀ x ∈ ns, 0 ≤ x) (i d : Nat) : preS ns i ≤ preS ns (i + d) := by
  induction d with
  | zero => exact Int.le_refl _
  | succ d ih => exact Int.le_trans ih (preS_le h (i + d))
theorem preS_all (ns : List Int) : preS ns ns.length = ns.sum := by unfold preS; rw [List.take_length]
theorem preS_top {ns : List Int} (h : ∀ x ∈ ns, 0 ≤ x) (i : Nat) : 0 ≤ preS ns i ∧ preS ns i ≤ ns.sum := by
  constructor
  · have := preS_mono h 0 i
    rw [preS_zero, Nat.zero_add] at this
    exact this
  · rw [← preS_all]
    by_cases hi : i ≤ ns.length
    · obtain ⟨d, hd⟩ := Nat.exists_eq_add_of_le hi
      rw [hd]
      exact preS_mono h i d
    · unfold preS
      rw [List.take_of_length_le (by omega), List.take_length]
      exact Int.le_refl _
theorem preS_find (ns : List Int) (x : Int) (h0 : 0 ≤ x) : ∀ m, x < preS ns m → ∃ K, K < m ∧ preS ns K ≤ x ∧ x < preS ns (K + 1)
  | 0, h => by rw [preS_zero] at h; omega
  | m + 1, h => by
    by_cases hm : x < preS ns m
    · obtain ⟨K, hK, h1, h2⟩ := preS_find ns x h0 m hm
      exact ⟨K, by omega, h1, h2⟩
    · exact ⟨m, by omega, by omega, h⟩
/-- What Pick comes to, where no weight is negative. -/
def PickIs (s : Nat) (ns : List Int) (k : Int) (t : Nat) (en : Int) : Prop :=
  (ns.sum = 0 ∧ k = 0 ∧ t = 0 ∧ en = 7) ∨ (0 < ns.sum ∧ widE s ns.sum = 9 ∧ k = 0 ∧ t = 0 ∧ en = 9) ∨
  (0 < ns.sum ∧ widE s ns.sum = 0 ∧ en = 0 ∧ t = widS s ns.sum ∧ ∃ K : Nat, k = K ∧ K < ns.length ∧ preS ns K ≤ widV s ns.sum ∧ widV s ns.sum < preS ns (K + 1))
theorem wide_ws (s : Nat) (hs : s < 18446744073709551616) (z : Int) (h1 : -P511 ≤ z) (h2 : z < P511) (w : World) : Calls Try.prog 18 #[.agg #[.int .u64 s], .agg #[.int .u64 (W8.of z).a0, .int .u64 (W8.of z).a1, .int .u64 (W8.of z).a2, .int .u64 (W8.of z).a3, .int .u64 (W8.of z).a4, .int .u64 (W8.of z).a5, .int .u64 (W8.of z).a6, .int .u64 (W8.of z).a7]] w (WidEnd w (W8.of (widV s z)) (widS s z) (widE s z)) := by
  have := cWide_any s hs (W8.of z) (W8.of_ok z) w
  rwa [W8.of_toInt h1 h2] at this
theorem side_pos {z : Int} (h : 0 < z) : 0 < sideOf z := by
  rw [sideOf, if_neg (by omega), if_neg (by omega)]
  decide
theorem side_npos {z : Int} (h : z ≤ 0) : sideOf z ≤ 0 := by
  rw [sideOf]
  split
  · decide
  · split
    · decide
    · omega
theorem pick_nn (s : Nat) (hs : s < 18446744073709551616) (ns : List Int) (hns : ∀ x ∈ ns, 0 ≤ x) (hlen : ns.length ≤ 400) (hsum : ns.sum < P511) :
    ∃ k t en, PickIs s ns k t en ∧ ∀ (A : Option Addr) (c : Nat) (w : World), (ns.length = 0 → A = none) → RowM w A 8 ns.length (wRows (ns.map W8.of)) → Calls Try.prog 22 #[.agg #[.int .u64 s], .slice A ns.length c] w (PickEnd w k t en) := by
  have hP := P511_pos
  have hI : ∀ (i : Nat) (x : W8), (ns.map W8.of)[i]? = some x → ∃ z : Int, ns[i]? = some z ∧ x = W8.of z ∧ 0 ≤ z ∧ z < P511 ∧ x.toInt = z := by
    intro i x h
    rw [List.getElem?_map] at h
    cases e : ns[i]? with
    | none => rw [e] at h; cases h
    | some z =>
      rw [e] at h
      cases h
      have h0 := hns z (List.mem_of_getElem? e)
      have h1 := preS_succ e
      have h2 := preS_top hns i
      have h3 := preS_top hns (i + 1)
      exact ⟨z, rfl, rfl, h0, by omega, W8.of_toInt (by omega) (by omega)⟩
  have hG : ∀ (i : Nat) (x : W8), (ns.map W8.of)[i]? = some x → ∀ w, Calls Try.prog 32 #[.agg #[.int .u64 x.a0, .int .u64 x.a1, .int .u64 x.a2, .int .u64 x.a3, .int .u64 x.a4, .int .u64 x.a5, .int .u64 x.a6, .int .u64 x.a7]] w (fun e w' => e = .returned (.int .i64 ((fun i => sideOf (ns.getD i 0)) i)) ∧ Lat w w') := by
    intro i x h w
    obtain ⟨z, hz, rfl, h0, h1, _⟩ := hI i x h
    have e : ns.getD i 0 = z := by rw [List.getD_eq_getElem?_getD, hz]; rfl
    show Calls _ _ _ _ (fun e w' => e = .returned (.int .i64 (sideOf (ns.getD i 0))) ∧ Lat w w')
    rw [e]
    exact sgn_w z (by omega) h1 w
  have hG0 : ∀ i, i < ns.length → 0 ≤ (fun i => sideOf (ns.getD i 0)) i := by
    intro i hi
    show 0 ≤ sideOf (ns.getD i 0)
    have e : ns.getD i 0 = ns[i] := by rw [List.getD_eq_getElem?_getD, List.getElem?_eq_getElem hi]; rfl
    rw [e]
    exact (side_nonneg (hns _ (List.getElem_mem hi))).1
  have hb : ∀ i, -P511 ≤ preS ns i ∧ preS ns i < P511 := fun i => by have := preS_top hns i; omega
  have hok : ∀ x ∈ ns.map W8.of, x.ok := by
    intro x hx
    obtain ⟨z, _, rfl⟩ := List.mem_map.1 hx
    exact W8.of_ok z
  have hS : ∀ (A : Option Addr) (c : Nat) (w : World), (ns.length = 0 → A = none) → RowM w A 8 ns.length (wRows (ns.map W8.of)) → _ := fun A c w hA hr =>
    sums_ok A ns.length c (ns.map W8.of) hok (preS ns) (preS_zero ns) (fun i x h => by obtain ⟨z, hz, rfl, _, _, e⟩ := hI i x h; rw [e]; exact preS_succ hz) hb (by omega) hA w hr
  have hs0 := preS_top hns 0
  rw [preS_zero] at hs0
  have hZ : ∀ w, Calls Try.prog 32 #[.agg #[.int .u64 ((fun i => W8.of (preS ns i)) ns.length).a0, .int .u64 ((fun i => W8.of (preS ns i)) ns.length).a1, .int .u64 ((fun i => W8.of (preS ns i)) ns.length).a2, .int .u64 ((fun i => W8.of (preS ns i)) ns.length).a3, .int .u64 ((fun i => W8.of (preS ns i)) ns.length).a4, .int .u64 ((fun i => W8.of (preS ns i)) ns.length).a5, .int .u64 ((fun i => W8.of (preS ns i)) ns.length).a6, .int .u64 ((fun i => W8.of (preS ns i)) ns.length).a7]] w (fun e w' => e = .returned (.int .i64 (sideOf ns.sum)) ∧ Lat w w') := by
    intro w
    show Calls _ _ #[.agg #[.int .u64 (W8.of (preS ns ns.length)).a0, .int .u64 (W8.of (preS ns ns.length)).a1, .int .u64 (W8.of (preS ns ns.length)).a2, .int .u64 (W8.of (preS ns ns.length)).a3, .int .u64 (W8.of (preS ns ns.length)).a4, .int .u64 (W8.of (preS ns ns.length)).a5, .int .u64 (W8.of (preS ns ns.length)).a6, .int .u64 (W8.of (preS ns ns.length)).a7]] _ _
    rw [preS_all]
    exact sgn_w _ (by omega) hsum w
  rcases Int.lt_or_eq_of_le hs0.2 with hpos | hz
  · have hn0 : 0 < ns.length := by
      rcases Nat.eq_zero_or_pos ns.length with h | h
      · rw [List.length_eq_zero_iff.1 h] at hpos; simp at hpos
      · exact h
    have hq : (sideOf ns.sum == 0) = false := by have := side_pos hpos; simp; omega
    have HW := wide_ws s hs ns.sum (by omega) hsum
    have hall : ∀ W, Calls Try.prog 18 #[.agg #[.int .u64 s], .agg #[.int .u64 ((fun i => W8.of (preS ns i)) ns.length).a0, .int .u64 ((fun i => W8.of (preS ns i)) ns.length).a1, .int .u64 ((fun i => W8.of (preS ns i)) ns.length).a2, .int .u64 ((fun i => W8.of (preS ns i)) ns.length).a3, .int .u64 ((fun i => W8.of (preS ns i)) ns.length).a4, .int .u64 ((fun i => W8.of (preS ns i)) ns.length).a5, .int .u64 ((fun i => W8.of (preS ns i)) ns.length).a6, .int .u64 ((fun i => W8.of (preS ns i)) ns.length).a7]] W (WidEnd W (W8.of (widV s ns.sum)) (widS s ns.sum) (widE s ns.sum)) := by
      intro W
      show Calls _ _ #[_, .agg #[.int .u64 (W8.of (preS ns ns.length)).a0, .int .u64 (W8.of (preS ns ns.length)).a1, .int .u64 (W8.of (preS ns ns.length)).a2, .int .u64 (W8.of (preS ns ns.length)).a3, .int .u64 (W8.of (preS ns ns.length)).a4, .int .u64 (W8.of (preS ns ns.length)).a5, .int .u64 (W8.of (preS ns ns.length)).a6, .int .u64 (W8.of (preS ns ns.length)).a7]] _ _
      rw [preS_all]
      exact HW W
    rcases wid_in (s := s) (n := ns.sum) (by omega) with he | ⟨he, h0, h1⟩
    · refine ⟨0, 0, 9, .inr (.inl ⟨hpos, he, rfl, rfl, rfl⟩), fun A c w hA hr => ?_⟩
      rw [he] at hall
      exact pick_err A ns.length c s (ns.map W8.of) hlen _ hG w hn0 _ (Lib.hid hG0) (hS A c w hA hr) (sideOf ns.sum) hq hZ _ _ 9 (by decide) hall hr
    · rw [he] at hall
      obtain ⟨K, hK, k1, k2⟩ := preS_find ns (widV s ns.sum) h0 ns.length (by rw [preS_all]; exact h1)
      refine ⟨K, widS s ns.sum, 0, .inr (.inr ⟨hpos, he, rfl, rfl, K, rfl, hK, k1, k2⟩), fun A c w hA hr => ?_⟩
      refine pick_ok A ns.length c s (ns.map W8.of) hlen _ hG w hn0 _ (Lib.hid hG0) (hS A c w hA hr) (sideOf ns.sum) hq hZ _ _ hall K hK (fun k => sideOf (preS ns (k + 1) - widV s ns.sum))
        (fun k hk w => cmp_w (preS ns (k + 1)) (widV s ns.sum) (hb _).1 (hb _).2 (by omega) (by omega) w) (fun k hk => ?_) ?_ hr
      · have : preS ns (k + 1) ≤ preS ns K := by
          obtain ⟨d, hd⟩ := Nat.exists_eq_add_of_le (show k + 1 ≤ K by omega)
          rw [hd]
          exact preS_mono hns (k + 1) d
        exact side_npos (by omega)
      · exact side_pos (by omega)
  · refine ⟨0, 0, 7, .inl ⟨hz.symm, rfl, rfl, rfl⟩, fun A c w hA hr => ?_⟩
    rcases Nat.eq_zero_or_pos ns.length with hn | hn
    · exact pick_none A ns.length c s (ns.map W8.of) hlen _ hG w hn _ (Lib.hid hG0) (hS A c w hA hr) hr
    · have hZ0 : sideOf ns.sum = 0 := by rw [← hz]; rfl
      rw [hZ0] at hZ
      exact pick_zero A ns.length c s (ns.map W8.of) hlen _ hG w hn _ (Lib.hid hG0) (hS A c w hA hr) hZ hr
end Go.Proofs.Ytogkkhaepfablaa

/- Chance: Coin of a share from 0 to 1, and the pick of two that goes with it. -/
namespace Go.Proofs.Ytogkkhaepfablaa
open Go.RowKit Go.Shelf
set_option linter.unusedSimpArgs false

/-- What Coin comes to, at a share from 0 to 1. -/
def CoinIs (s : Nat) (N D : Int) (b : Bool) (t : Nat) (en : Int) : Prop :=
  (widE s D = 9 ∧ b = false ∧ t = 0 ∧ en = 9) ∨ (widE s D = 0 ∧ b = decide (widV s D < N) ∧ t = widS s D ∧ en = 0)
theorem side_lt {z : Int} : decide (sideOf z < 0) = decide (z < 0) := by
  rcases Int.lt_or_le z 0 with h | h
  · rw [decide_eq_true h, decide_eq_true (side_neg h)]
  · rw [decide_eq_false (side_nonneg h).2, decide_eq_false (show ¬ z < 0 by omega)]
theorem coin_nn (s : Nat) (hs : s < 18446744073709551616) (N D : Int) (hf : ShFit N D) (h0 : 0 ≤ N) (h1 : N ≤ D) :
    ∃ b t en, CoinIs s N D b t en ∧ ∀ w, Calls Try.prog 25 #[.agg #[.int .u64 s], .agg #[.int .u64 (W8.of N).a0, .int .u64 (W8.of N).a1, .int .u64 (W8.of N).a2, .int .u64 (W8.of N).a3, .int .u64 (W8.of N).a4, .int .u64 (W8.of N).a5, .int .u64 (W8.of N).a6, .int .u64 (W8.of N).a7, .int .u64 (W8.of D).a0, .int .u64 (W8.of D).a1, .int .u64 (W8.of D).a2, .int .u64 (W8.of D).a3, .int .u64 (W8.of D).a4, .int .u64 (W8.of D).a5, .int .u64 (W8.of D).a6, .int .u64 (W8.of D).a7]] w (CoinEnd w b t en) := by
  have hP := P511_pos
  have hD := hf.ok.1
  have hd2 := hf.d2
  have eN : (W8.of N).toInt = N := W8.of_toInt hf.n1 hf.n2
  have eD : (W8.of D).toInt = D := W8.of_toInt (by omega) hd2
  have HK := fun w => shCheck_ok (W8.of N) (W8.of D) (W8.of_ok N) (W8.of_ok D) (by rw [eN, eD]; exact hf.ok) w
  have HW := wide_ws s hs D (by omega) hd2
  have hs1 := (side_nonneg h0).1
  have hc1 : ¬ 0 < sideOf (N - D) := by have := side_npos (z := N - D) (by omega); omega
  rcases wid_in (s := s) (n := D) (by omega) with he | ⟨he, v0, v1⟩
  · rw [he] at HW
    exact ⟨false, 0, 9, .inl ⟨he, rfl, rfl, rfl⟩, fun w => coin_err s _ _ HK _ hs1 (sgn_w N hf.n1 hf.n2) _ hc1 (cmp_w N D hf.n1 hf.n2 (by omega) hd2) _ _ 9 (by decide) HW w⟩
  · rw [he] at HW
    refine ⟨decide (widV s D < N), widS s D, 0, .inr ⟨he, rfl, rfl, rfl⟩, fun w => ?_⟩
    have := coin_ok s _ _ HK _ hs1 (sgn_w N hf.n1 hf.n2) _ hc1 (cmp_w N D hf.n1 hf.n2 (by omega) hd2) _ _ HW _ (cmp_w (widV s D) N (by omega) (by omega) hf.n1 hf.n2) w
    rw [side_lt] at this
    have e : decide (widV s D - N < 0) = decide (widV s D < N) := decide_eq_decide.2 ⟨fun h => by omega, fun h => by omega⟩
    rw [e] at this
    exact this
end Go.Proofs.Ytogkkhaepfablaa
