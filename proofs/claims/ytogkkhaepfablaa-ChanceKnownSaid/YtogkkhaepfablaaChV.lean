
/- Chance: Coin, of a share that holds; Shuffle of one and of too many. -/
import Derived.Test.YtogkkhaepfablaaK30
namespace Go.Proofs.Ytogkkhaepfablaa
open Go.RowKit Go.Shelf
set_option linter.unusedSimpArgs false

theorem Blk.rangePre {w : World} {g : Nat} {t : TypeId} {l r : List Value} (h : Blk w g t (l ++ r).toArray) : w.rangeAt g 0 l := fun j v hj => by
  have hlt : j < l.length := (List.getElem?_eq_some_iff.1 hj).1
  rw [Nat.zero_add, h.cell j, List.getElem?_toArray, List.getElem?_append_left hlt]
  exact hj
/-- What Coin hands back. -/
def CoinEnd (w : World) (b : Bool) (t : Nat) (en : Int) (e : Ending) (w' : World) : Prop := e = .returned (.tuple #[.bool b, .agg #[.int .u64 (t : Nat)], .int .i64 en]) ∧ Lat w w'

set_option maxRecDepth 100000 in
set_option maxHeartbeats 8000000 in
theorem coin_ok (s : Nat) (u v : W8) (HK : ∀ w, Calls Try.prog 41 #[.agg #[.int .u64 u.a0, .int .u64 u.a1, .int .u64 u.a2, .int .u64 u.a3, .int .u64 u.a4, .int .u64 u.a5, .int .u64 u.a6, .int .u64 u.a7, .int .u64 v.a0, .int .u64 v.a1, .int .u64 v.a2, .int .u64 v.a3, .int .u64 v.a4, .int .u64 v.a5, .int .u64 v.a6, .int .u64 v.a7]] w (fun e w' => e = .returned (.int .i64 0) ∧ Lat w w')) (sn : Int) (hsn : 0 ≤ sn) (HG : ∀ w, Calls Try.prog 32 #[.agg #[.int .u64 u.a0, .int .u64 u.a1, .int .u64 u.a2, .int .u64 u.a3, .int .u64 u.a4, .int .u64 u.a5, .int .u64 u.a6, .int .u64 u.a7]] w (fun e w' => e = .returned (.int .i64 sn) ∧ Lat w w'))
    (cm : Int) (hcm : ¬ 0 < cm) (HC : ∀ w, Calls Try.prog 19 #[.agg #[.int .u64 u.a0, .int .u64 u.a1, .int .u64 u.a2, .int .u64 u.a3, .int .u64 u.a4, .int .u64 u.a5, .int .u64 u.a6, .int .u64 u.a7], .agg #[.int .u64 v.a0, .int .u64 v.a1, .int .u64 v.a2, .int .u64 v.a3, .int .u64 v.a4, .int .u64 v.a5, .int .u64 v.a6, .int .u64 v.a7]] w (fun e w' => e = .returned (.int .i64 cm) ∧ Lat w w')) (xw : W8) (t : Nat) (HW : ∀ w, Calls Try.prog 18 #[.agg #[.int .u64 s], .agg #[.int .u64 v.a0, .int .u64 v.a1, .int .u64 v.a2, .int .u64 v.a3, .int .u64 v.a4, .int .u64 v.a5, .int .u64 v.a6, .int .u64 v.a7]] w (WidEnd w xw t 0))
    (c2 : Int) (HC2 : ∀ w, Calls Try.prog 19 #[.agg #[.int .u64 xw.a0, .int .u64 xw.a1, .int .u64 xw.a2, .int .u64 xw.a3, .int .u64 xw.a4, .int .u64 xw.a5, .int .u64 xw.a6, .int .u64 xw.a7], .agg #[.int .u64 u.a0, .int .u64 u.a1, .int .u64 u.a2, .int .u64 u.a3, .int .u64 u.a4, .int .u64 u.a5, .int .u64 u.a6, .int .u64 u.a7]] w (fun e w' => e = .returned (.int .i64 c2) ∧ Lat w w')) (w : World) :
    Calls Try.prog 25 #[.agg #[.int .u64 s], .agg #[.int .u64 u.a0, .int .u64 u.a1, .int .u64 u.a2, .int .u64 u.a3, .int .u64 u.a4, .int .u64 u.a5, .int .u64 u.a6, .int .u64 u.a7, .int .u64 v.a0, .int .u64 v.a1, .int .u64 v.a2, .int .u64 v.a3, .int .u64 v.a4, .int .u64 v.a5, .int .u64 v.a6, .int .u64 v.a7]] w (CoinEnd w (decide (c2 < 0)) t 0) := by
  have hd1 : decide (sn < 0) = false := decide_eq_false (by omega)
  have hd2 : decide (0 < cm) = false := decide_eq_false hcm
  have HWH := Lib.hid HW
  have HC2H := Lib.hid HC2
  clear HW HC2
  go_enter Try.func25, Try.ntmps25
  go_wp2_with fail
  refine name3 (Q := fun W => Calls _ _ _ W _) ?_
  intro W1 l1 hs1 k2 k3 k5
  refine (HK W1).mono ?_
  rintro e W2 ⟨rfl, l2⟩
  replace k2 := k2.later l2
  replace k3 := k3.later l2
  replace k5 := k5.later l2
  have L2 := l1.trans l2
  have hs2 : w.heap.size + 3 ≤ W2.heap.size := by have := l2.size; omega
  clear l1 l2 hs1 HK
  have d0 := k3.cell 0
  have d1 := k3.cell 1
  have d2 := k3.cell 2
  have d3 := k3.cell 3
  have d4 := k3.cell 4
  have d5 := k3.cell 5
  have d6 := k3.cell 6
  have d7 := k3.cell 7
  go_wp2_with fail
  refine (HG W2).mono ?_
  rintro e W3 ⟨rfl, l3⟩
  replace k2 := k2.later l3
  replace k3 := k3.later l3
  replace k5 := k5.later l3
  have L3 := L2.trans l3
  have hs3 : w.heap.size + 3 ≤ W3.heap.size := by have := l3.size; omega
  clear d0 d1 d2 d3 d4 d5 d6 d7
  clear l3 L2 hs2 HG
  have d0 := k3.cell 0
  have d1 := k3.cell 1
  have d2 := k3.cell 2
  have d3 := k3.cell 3
  have d4 := k3.cell 4
  have d5 := k3.cell 5
  have d6 := k3.cell 6
  have d7 := k3.cell 7
  have d8 := k3.cell 8
  have d9 := k3.cell 9
  have d10 := k3.cell 10
  have d11 := k3.cell 11
  have d12 := k3.cell 12
  have d13 := k3.cell 13
  have d14 := k3.cell 14
  have d15 := k3.cell 15
  go_wp2_with fail
  refine (HC W3).mono ?_
  rintro e W4 ⟨rfl, l4⟩
  replace k2 := k2.later l4
  replace k3 := k3.later l4
  replace k5 := k5.later l4
  have L4 := L3.trans l4
  have hs4 : w.heap.size + 3 ≤ W4.heap.size := by have := l4.size; omega
  clear d0 d1 d2 d3 d4 d5 d6 d7 d8 d9 d10 d11 d12 d13 d14 d15
  clear l4 L3 hs3 HC
  have d0 := k3.cell 0
  have d1 := k3.cell 1
  have d2 := k3.cell 2
  have d3 := k3.cell 3
  have d4 := k3.cell 4
  have d5 := k3.cell 5
  have d6 := k3.cell 6
  have d7 := k3.cell 7
  have d8 := k3.cell 8
  have d9 := k3.cell 9
  have d10 := k3.cell 10
  have d11 := k3.cell 11
  have d12 := k3.cell 12
  have d13 := k3.cell 13
  have d14 := k3.cell 14
  have d15 := k3.cell 15
  have c2' : W4.cell? ⟨w.heap.size, 0, none⟩ = some (.int .u64 (s : Int)) := k2.cell 0
  go_wp2_with fail
  refine (HWH.out W4).mono ?_
  rintro e W5 ⟨rfl, l5⟩
  replace k3 := k3.later l5
  replace k5 := k5.later l5
  have L5 := L4.trans l5
  have hs5 : w.heap.size + 3 ≤ W5.heap.size := by have := l5.size; omega
  clear d0 d1 d2 d3 d4 d5 d6 d7 d8 d9 d10 d11 d12 d13 d14 d15
  clear l5 L4 hs4 HWH c2' k2
  go_upto_region 9 with (fail)
  refine name2 (Q := fun W => Code.wp _ _ _ _ W) ?_
  intro W6 l6 hs6 k8 k9
  replace k3 := k3.later l6
  replace k5 := k5.later l6
  have L6 := L5.trans l6
  clear l6 L5
  obtain ⟨g8, hg8⟩ : ∃ z, W5.heap.size = z := ⟨_, rfl⟩
  rw [hg8] at k8 k9 hs5 ⊢
  clear hg8 hs6
  have HC2 := HC2H.out
  obtain ⟨bb, hbb⟩ : ∃ bb, decide (c2 < 0) = bb := ⟨_, rfl⟩
  rw [hbb]
  have hne8 : g8 ∉ [w.heap.size + 1 + 1] := by simp; omega
  have hne9 : g8 + 1 ∉ [w.heap.size + 1 + 1] := by simp; omega
  have hne3 : w.heap.size + 1 ∉ [w.heap.size + 1 + 1] := by simp
  have R8 : ∀ w', LatS W6 [w.heap.size + 1 + 1] w' → w'.rangeAt g8 0 [.int .u64 xw.a0, .int .u64 xw.a1, .int .u64 xw.a2, .int .u64 xw.a3, .int .u64 xw.a4, .int .u64 xw.a5, .int .u64 xw.a6, .int .u64 xw.a7] := fun w' hl => Blk.rangeAll (l := [.int .u64 xw.a0, .int .u64 xw.a1, .int .u64 xw.a2, .int .u64 xw.a3, .int .u64 xw.a4, .int .u64 xw.a5, .int .u64 xw.a6, .int .u64 xw.a7]) (k8.keepS hne8 hl)
  have R3 : ∀ w', LatS W6 [w.heap.size + 1 + 1] w' → w'.rangeAt (w.heap.size + 1) 0 [.int .u64 u.a0, .int .u64 u.a1, .int .u64 u.a2, .int .u64 u.a3, .int .u64 u.a4, .int .u64 u.a5, .int .u64 u.a6, .int .u64 u.a7] := fun w' hl => Blk.rangePre (l := [.int .u64 u.a0, .int .u64 u.a1, .int .u64 u.a2, .int .u64 u.a3, .int .u64 u.a4, .int .u64 u.a5, .int .u64 u.a6, .int .u64 u.a7]) (r := [.int .u64 v.a0, .int .u64 v.a1, .int .u64 v.a2, .int .u64 v.a3, .int .u64 v.a4, .int .u64 v.a5, .int .u64 v.a6, .int .u64 v.a7]) (k3.keepS hne3 hl)
  have R9 : ∀ w', LatS W6 [w.heap.size + 1 + 1] w' → w'.cell? ⟨g8 + 1, 0, none⟩ = some (.int .u64 (t : Int)) := fun w' hl => (k9.keepS hne9 hl).cell 0
  have L0 := Lat.drew W6
  refine wp_region_held_drew (S := fun w' => LatS W6 [w.heap.size + 1 + 1] w') (by kernel_rfl) (L0.s _) (fun hHeld => ?_)
  generalize W6.drew = V0 at L0 hHeld ⊢
  refine' wpAnyH_take (i := 0) rfl (by kernel_rfl) (by kernel_rfl) (by kernel_rfl) (fun _ _ _ h => h) (yieldsIf_load_mid (by rfl) 44 (.tmp 8) rfl g8 0 rfl _ _ R8 Try.underlying44 rfl wideInfo8) hHeld ?_
  simp only [Act.put, List.getElem_toArray, List.getElem_cons_succ, List.getElem_cons_zero, List.setIfInBounds_toArray, List.set_cons_zero, List.set_cons_succ]
  refine wpAnyH_take (i := 1) (v := .pointer (some ⟨w.heap.size + 1, 0, none⟩)) rfl (by kernel_rfl) (by kernel_rfl) (by kernel_rfl) (fun _ _ _ h => h) (Or.inl ⟨by rfl, by intro w' hS; go_simp⟩) hHeld ?_
  simp only [Act.put, List.getElem_toArray, List.getElem_cons_succ, List.getElem_cons_zero, List.setIfInBounds_toArray, List.set_cons_zero, List.set_cons_succ]
  refine' wpAnyH_take (i := 2) rfl (by kernel_rfl) (by kernel_rfl) (by kernel_rfl) (fun _ _ _ h => h) (yieldsIf_load_mid (by rfl) 44 (.tmp 43) rfl (w.heap.size + 1) 0 rfl _ _ R3 Try.underlying44 rfl wideInfo8) hHeld ?_
  simp only [Act.put, List.getElem_toArray, List.getElem_cons_succ, List.getElem_cons_zero, List.setIfInBounds_toArray, List.set_cons_zero, List.set_cons_succ]
  refine wpAnyH_take (i := 5) (v := .agg #[.int .u64 (t : Int)]) rfl (by kernel_rfl) (by kernel_rfl) (by kernel_rfl) (fun _ _ _ h => h) (Or.inl ⟨by rfl, by intro w' hS; have hc := R9 w' hS; go_simp⟩) hHeld ?_
  simp only [Act.put, List.getElem_toArray, List.getElem_cons_succ, List.getElem_cons_zero, List.setIfInBounds_toArray, List.set_cons_zero, List.set_cons_succ]
  refine wpAnyH_ready (rs := [3]) (by kernel_rfl) (by simp) (AllReadyH.cons rfl (fun K hK => ?_) AllReadyH.nil)
  go_simp
  refine (HC2 _).mono ?_
  rintro e V1 ⟨rfl, lg⟩
  have L1 := L0.trans lg
  clear lg
  refine hK.out _ _ (L1.s _) (fun hHeld1 => ?_)
  clear hK K
  try simp only [Act.put, List.getElem_toArray, List.getElem_cons_succ, List.getElem_cons_zero, List.setIfInBounds_toArray, List.set_cons_zero, List.set_cons_succ]
  refine wpAnyH_take (i := 4) (v := .bool bb) rfl (by kernel_rfl) (by kernel_rfl) (by kernel_rfl) (fun _ _ _ h => h) (Or.inl ⟨by rfl, by intro w' hS; go_simp⟩) hHeld1 ?_
  simp only [Act.put, List.getElem_toArray, List.getElem_cons_succ, List.getElem_cons_zero, List.setIfInBounds_toArray, List.set_cons_zero, List.set_cons_succ]
  refine wpAnyH_take (i := 6) (v := .bool bb) rfl (by kernel_rfl) (by kernel_rfl) (by kernel_rfl) (fun _ _ _ h => h) (Or.inl ⟨by rfl, by intro w' hS; go_simp⟩) hHeld1 ?_
  simp only [Act.put, List.getElem_toArray, List.getElem_cons_succ, List.getElem_cons_zero, List.setIfInBounds_toArray, List.set_cons_zero, List.set_cons_succ]
  refine wpAnyH_ready (rs := [7]) (by kernel_rfl) (by simp) (AllReadyH.cons rfl (fun K hK => ?_) AllReadyH.nil)
  rw [if_pos (by rfl)]
  have K5 := (k5.later L1)
  refine wp_store_mid 24 (.tmp 5) (.tmp 47) rfl (w.heap.size + 1 + 1) 0 #[.int .u64 (t : Int)] rfl rfl (K5.thereAll _ rfl) (by kernel_rfl) (by simp [Value.oneCell']) ?_
  have KS := K5.setCells #[.int .u64 (t : Int)] rfl
  have M9 : LatS W6 [w.heap.size + 1 + 1] (V1.setCells (w.heap.size + 1 + 1) 0 (#[.int .u64 (t : Int)] : Array Value).toList) := LatS.setCells (by simp) _ _ _ (L1.s _)
  have L9 : Lat w (V1.setCells (w.heap.size + 1 + 1) 0 (#[.int .u64 (t : Int)] : Array Value).toList) := Lat.setCells (by omega) _ _ _ (L6.trans L1)
  obtain ⟨V9, hV9⟩ : ∃ V, V1.setCells (w.heap.size + 1 + 1) 0 (#[.int .u64 (t : Int)] : Array Value).toList = V := ⟨_, rfl⟩
  rw [hV9] at KS M9 L9 ⊢
  clear hV9 K5
  refine hK.out _ _ M9 (fun hHeld2 => ?_)
  clear hK K
  try simp only [Act.put, List.getElem_toArray, List.getElem_cons_succ, List.getElem_cons_zero, List.setIfInBounds_toArray, List.set_cons_zero, List.set_cons_succ]
  refine wpAnyH_ready (rs := [8]) (by kernel_rfl) (by simp) (AllReadyH.cons rfl (fun K hK => ?_) AllReadyH.nil)
  go_simp
  refine hK.out _ _ M9 (fun hHeld3 => ?_)
  clear hK K
  try simp only [Act.put, List.getElem_toArray, List.getElem_cons_succ, List.getElem_cons_zero, List.setIfInBounds_toArray, List.set_cons_zero, List.set_cons_succ]
  refine wpAnyH_done (by kernel_rfl) ?_ _
  go_wp2
  have i5 : V9.cell? ⟨w.heap.size + 1 + 1, 0, none⟩ = some (.int .u64 (t : Int)) := KS.cell 0
  refine bodyPost_ret (v := .tuple #[.bool bb, .agg #[.int .u64 (t : Int)], .int .i64 0]) (by simp [results, Try.results25, go_sem, i5]) rfl ?_
  exact ⟨by rw [hbb], L9⟩

/-- What Shuffle hands back. -/
def ShufEnd (w : World) (xs : List Int) (t : Nat) (en : Int) (e : Ending) (w' : World) : Prop := ∃ A n c, e = .returned (.tuple #[.slice A n c, .agg #[.int .u64 (t : Nat)], .int .i64 en]) ∧ Sl w' .i64 A n xs ∧ Lat w w'
set_option maxRecDepth 100000 in
set_option maxHeartbeats 4000000 in
theorem shuffle_far (s : Nat) (n : Int) (h : 400 < n) (w : World) : Calls Try.prog 9 #[.agg #[.int .u64 s], .int .i64 n] w (fun e w' => e = .returned (.tuple #[.slice none 0 0, .agg #[.int .u64 0], .int .i64 2]) ∧ Lat w w') := by
  have h0 : ¬ n < 0 := by omega
  go_enter Try.func9, Try.ntmps9
  go_wp2
  refine name2 (Q := fun W => bodyPost _ _ _ _ _ W) ?_
  intro W l1 hs k1 k2
  have g0 : W.cell? ⟨w.heap.size + 1, 0, none⟩ = some (.int .u64 0) := k2.cell 0
  refine bodyPost_ret (v := .tuple #[.slice none 0 0, .agg #[.int .u64 0], .int .i64 2]) (by simp [results, Try.results9, go_sem, g0]) rfl ?_
  exact ⟨rfl, l1⟩

set_option maxRecDepth 100000 in
set_option maxHeartbeats 4000000 in
theorem shuffle_one (s : Nat) (w : World) : Calls Try.prog 9 #[.agg #[.int .u64 s], .int .i64 1] w (ShufEnd w [0] s 0) := by
  go_enter Try.func9, Try.ntmps9
  go_wp2_with fail
  refine name2 (Q := fun W => Calls _ _ _ W _) ?_
  intro W1 l1 hs1 k2 k5
  refine (chFrom_any s W1).mono ?_
  rintro e W2 ⟨g, rfl, kg, hg, l2⟩
  replace k5 := k5.later l2
  have L2 := l1.trans l2
  have hs2 : w.heap.size + 2 ≤ W2.heap.size := by have := l2.size; omega
  have hgl := kg.lt
  have hg : w.heap.size + 1 < g := by omega
  clear k2 l1 l2 hs1
  have hmk := run_make_nums (P := Try.prog) (t := 28) (e := 3) (k := .i64) (by_ := 8) Try.underlying28 (by kernel_rfl) (1 : Int) 1 rfl (by omega) (by omega)
  go_upto_region 6 with (fail)
  refine name1 (Q := fun W => Code.wp _ _ _ _ W) ?_
  intro W3 l3 hs3 k8
  replace k5 := k5.later l3
  replace kg := kg.later l3
  have L3 := L2.trans l3
  have K8 : Blk W3 W2.heap.size 3 #[.int .i64 0] := k8
  obtain ⟨g8, hg8⟩ : ∃ z, W2.heap.size = z := ⟨_, rfl⟩
  rw [hg8] at K8 hs2 ⊢
  have hgg8 : g < g8 := by rw [← hg8]; exact hgl
  have hg1 : w.heap.size + 1 < g := by omega
  clear l3 hs3 hg8 L2 k8 hmk hgl hg
  go_loopw [26] (fun i wr => ∃ k : Nat, k ≤ 1 ∧ i = .int .i64 k ∧ Blk wr g8 3 #[.int .i64 0] ∧ Blk wr g 72 #[.int .u64 (s : Nat)] ∧ Blk wr (w.heap.size + 1) 24 #[.int .u64 0] ∧ Lat w wr) (fun i _ => 1 - (intOf i).toNat)
  case atStart => exact ⟨0, by omega, rfl, K8, kg, k5, L3⟩
  case round =>
    obtain ⟨k, hk, rfl, j8, jg, j5, hlr⟩ := hrel
    clear K8 kg k5 L3
    rcases (show k = 0 ∨ k = 1 by omega) with rfl | rfl
    · have c8 : wr.cell? ⟨g8, 0, none⟩ = some (.int .i64 0) := j8.cell 0
      have f8 := j8.frozen 0
      have h8 := j8.lt
      go_wp2
      exact ⟨⟨1, by omega, rfl, by have := j8.set 0 (.int .i64 0); simpa using this, jg.far (p := ⟨g8, 0, none⟩) (by simp; omega) _, j5.far (p := ⟨g8, 0, none⟩) (by simp; omega) _, hlr.setCell (p := ⟨g8, 0, none⟩) (by simp; omega) _⟩, by simp [intOf]⟩
    · go_wp2
      go_loopw [10] (fun i W => i = .int .i64 0 ∧ W = wr) (fun _ _ => 0)
      case atStart => exact ⟨rfl, rfl⟩
      case round =>
        obtain ⟨rfl, rfl⟩ := hrel
        have c0 : wr.cell? ⟨g, 0, none⟩ = some (.int .u64 (s : Int)) := jg.cell 0
        have f3 := j5.frozen 0
        have d3 : wr.cell? ⟨w.heap.size + 1, 0, none⟩ = some (.int .u64 0) := j5.cell 0
        have h3 := j5.lt
        have c1 : wr.drew.cell? ⟨g, 0, none⟩ = some (.int .u64 (s : Int)) := c0
        have hng : g ≠ w.heap.size + 1 := by omega
        go_wp2_with fail
        go_region_held3 (fun w' => w'.cell? ⟨g, 0, none⟩ = some (.int .u64 (s : Int))) (first | (with_reducible assumption) | exact cell_off hng _ c1) (fail)
        all_goals
          go_wp2
          have e3 : ((wr.setCell ⟨w.heap.size + 1, 0, none⟩ (.int .u64 (s : Int))).drew).cell? ⟨w.heap.size + 1, 0, none⟩ = some (.int .u64 (s : Int)) := by
            have := (j5.set 0 (.int .u64 (s : Int))).cell 0
            simpa using this
          have j9 : Blk ((wr.setCell ⟨w.heap.size + 1, 0, none⟩ (.int .u64 (s : Int))).drew) g8 3 #[.int .i64 0] := (j8.far (p := ⟨w.heap.size + 1, 0, none⟩) (by simp; omega) _).later (Lat.drew _)
          have LF : Lat w ((wr.setCell ⟨w.heap.size + 1, 0, none⟩ (.int .u64 (s : Int))).drew) := (hlr.setCell (p := ⟨w.heap.size + 1, 0, none⟩) (by simp) _).trans (Lat.drew _)
          refine bodyPost_ret (v := .tuple #[.slice (some ⟨g8, 0, none⟩) 1 1, .agg #[.int .u64 (s : Int)], .int .i64 0]) (by simp [results, Try.results9, go_sem, e3]) rfl ?_
          exact ⟨_, _, _, rfl, Sl.of_blk' (t := 3) (xs := [0]) j9 rfl, LF⟩
end Go.Proofs.Ytogkkhaepfablaa
