/- Several texts in one: DivF. -/
import Derived.Test.YtkjnjooggicgiaaJ35

/- Divisor: Rank. -/
namespace Go.Proofs.Ytkjnjooggicgiaa
open Go.RowKit

/-- What 'ranked' leaves, the cells under names. -/
def RankX (w : World) (m p s : Int) (e : Ending) (w' : World) : Prop :=
  ∃ (X : Array Value) (S : List Value) (b : Bool), e = .returned (.agg X) ∧ X.size = 17 ∧ X.all (·.oneCell') = true ∧ X[0]? = some (.bool b) ∧ Hid (∀ j x, S[j]? = some x → X[1 + j]? = some x) ∧ S.length = 16 ∧ S.toArray.all (·.oneCell') = true ∧
    Hid (∃ u v : W8, S = [.int .u64 u.a0, .int .u64 u.a1, .int .u64 u.a2, .int .u64 u.a3, .int .u64 u.a4, .int .u64 u.a5, .int .u64 u.a6, .int .u64 u.a7, .int .u64 v.a0, .int .u64 v.a1, .int .u64 v.a2, .int .u64 v.a3, .int .u64 v.a4, .int .u64 v.a5, .int .u64 v.a6, .int .u64 v.a7] ∧ X = #[.bool b, .int .u64 u.a0, .int .u64 u.a1, .int .u64 u.a2, .int .u64 u.a3, .int .u64 u.a4, .int .u64 u.a5, .int .u64 u.a6, .int .u64 u.a7, .int .u64 v.a0, .int .u64 v.a1, .int .u64 v.a2, .int .u64 v.a3, .int .u64 v.a4, .int .u64 v.a5, .int .u64 v.a6, .int .u64 v.a7] ∧ RankV m p s b u v) ∧ Lat w w'
theorem RankPost.x {w w' : World} {m p s : Int} {e : Ending} (h : RankPost w m p s e w') : RankX w m p s e w' := by
  obtain ⟨b, u, v, h1, h2, h3⟩ := h
  exact ⟨#[.bool b, .int .u64 u.a0, .int .u64 u.a1, .int .u64 u.a2, .int .u64 u.a3, .int .u64 u.a4, .int .u64 u.a5, .int .u64 u.a6, .int .u64 u.a7, .int .u64 v.a0, .int .u64 v.a1, .int .u64 v.a2, .int .u64 v.a3, .int .u64 v.a4, .int .u64 v.a5, .int .u64 v.a6, .int .u64 v.a7], [.int .u64 u.a0, .int .u64 u.a1, .int .u64 u.a2, .int .u64 u.a3, .int .u64 u.a4, .int .u64 u.a5, .int .u64 u.a6, .int .u64 u.a7, .int .u64 v.a0, .int .u64 v.a1, .int .u64 v.a2, .int .u64 v.a3, .int .u64 v.a4, .int .u64 v.a5, .int .u64 v.a6, .int .u64 v.a7], b, h1, rfl, by simp [Value.oneCell'], rfl, sub_range, rfl, by simp [Value.oneCell'], ⟨u, v, rfl, rfl, h2⟩, h3⟩

theorem within_one {lo hi x : Int} (h0 : lo ≤ x) (h1 : x ≤ hi) : inAll lo hi [x] = true := by rw [inAll_one]; simp [h0, h1]
theorem without_one {lo hi x : Int} (h : ¬ (lo ≤ x ∧ x ≤ hi)) : inAll lo hi [x] = false := by
  rw [inAll_one, ← Bool.not_eq_true]; simp; omega

set_option maxRecDepth 100000 in
set_option maxHeartbeats 4000000 in
theorem dRank_in (m p s : Int) (w : World) (h0 : 11 ≤ m) (h1 : m ≤ 15) (h2 : 0 ≤ s) (h3 : s ≤ 1000) (p0 : 0 ≤ p) (p1 : p ≤ 1000000000) :
    Calls Try.prog 6 #[.int .i64 m, .int .i64 p, .int .i64 s] w (fun e w' => (0 < postN m s → ShPost w (topOf m p * postD m s) (postN m s) e w') ∧ (postN m s = 0 → ShNo w 7 e w')) := by
  have HK := Lib.hid (known_yes h0 h1 h2 h3)
  have HI := Lib.hid (within_one p0 p1)
  have HR := fun w => (ranked_any m p s w h0 h1 h2 h3 p0 p1).mono fun _ _ h => h.x
  have Hi17 := Lib.hid rankInfo
  have Hi16 := Lib.hid shareInfo'
  clear h0 h1 h2 h3 p0 p1
  go_enter Try.func6, Try.ntmps6
  go_wp2_with fail
  refine name2 (Q := fun W => Calls _ _ _ W _) ?_
  intro W hl hs k1 k2
  refine (known_any m (some ⟨w.heap.size + 1, 0, none⟩) 1 1 [s] W (Sl.of_blk' (t := 3) k2 rfl) (by omega)).mono ?_
  rintro e w1 ⟨rfl, l1⟩
  rw [HK.out]
  go_wp2_with fail
  refine name1 (Q := fun W => Calls _ _ _ W _) ?_
  intro w2 l2 hs2 k3
  refine (within_any 0 1000000000 (some ⟨w1.heap.size, 0, none⟩) 1 1 [p] w2 (Sl.of_blk' (t := 3) k3 rfl) (by omega)).mono ?_
  rintro e w3 ⟨rfl, l3⟩
  rw [HI.out]
  go_wp2_with fail
  refine (HR w3).mono ?_
  rintro e w4 ⟨X, S, b, rfl, x1, x2, x3, x4, x5, x6, x7, l4⟩
  have L := (((hl.trans l1).trans l2).trans l3).trans l4
  have K := k1.later (((l1.trans l2).trans l3).trans l4)
  have hlt := K.lt
  have X1 := Lib.hid x1
  have X3 := Lib.hid x3
  have X5 := Lib.hid x5
  have i17 : Hid ((Try.prog.info? 53).map (·.size) = some X.size) := by show _ = _; rw [x1]; exact Hi17.out
  have i16 : Hid ((Try.prog.info? 29).map (·.size) = some S.toArray.size) := by show _ = _; rw [List.size_toArray, x5]; exact Hi16.out
  have K0 := Blk.new w4 53 #[.bool false, .int .u64 W8.zero.a0, .int .u64 W8.zero.a1, .int .u64 W8.zero.a2, .int .u64 W8.zero.a3, .int .u64 W8.zero.a4, .int .u64 W8.zero.a5, .int .u64 W8.zero.a6, .int .u64 W8.zero.a7, .int .u64 W8.zero.a0, .int .u64 W8.zero.a1, .int .u64 W8.zero.a2, .int .u64 W8.zero.a3, .int .u64 W8.zero.a4, .int .u64 W8.zero.a5, .int .u64 W8.zero.a6, .int .u64 W8.zero.a7]
  have O2 := Lib.hid x2
  have O6 := Lib.hid x6
  have Z0 := Lib.hid (show (#[.int .u64 W8.zero.a0, .int .u64 W8.zero.a1, .int .u64 W8.zero.a2, .int .u64 W8.zero.a3, .int .u64 W8.zero.a4, .int .u64 W8.zero.a5, .int .u64 W8.zero.a6, .int .u64 W8.zero.a7, .int .u64 W8.zero.a0, .int .u64 W8.zero.a1, .int .u64 W8.zero.a2, .int .u64 W8.zero.a3, .int .u64 W8.zero.a4, .int .u64 W8.zero.a5, .int .u64 W8.zero.a6, .int .u64 W8.zero.a7] : Array Value).all (·.oneCell') = true by simp [Value.oneCell'])
  clear x1 x2 x3 x5 x6 k1 k2 k3 l1 l2 l3 l4 hl HR
  cases b
  all_goals
    go_wp2_with (first
      | (refine wpList_put rfl 53 (.tmp 8) (.tmp 24) (by rfl) (by rfl) w4.heap.size (by rfl) X (by rfl) K0 (by rw [X1.out]; rfl) i17.out O2.out ?_; intro w5 hput;
         have KX := hput.blk; have L5 := hput.lat w (L.trans (Lat.alloc _ _)) (by have := L.size; omega); have KR := hput.keep (K.alloc _) (by omega); have d0 := (KX.cell 0).trans X3.out; have g1 := KX.range (o := 1) S x4.out)
      | (refine wpList_load_mid (by rfl) 29 (.tmp 28) (by rfl) w4.heap.size 1 (by rfl) S _ g1 Try.underlying29 rfl i16.out ?_)
      | (refine wpList_put rfl 29 (.tmp 6) (.tmp 29) (by rfl) (by rfl) w.heap.size (by rfl) S.toArray (by rfl) KR (by simp [X5.out]) i16.out O6.out ?_; intro w6 hput6; have KS := hput6.blk; have L6 := hput6.lat w L5 (Nat.le_refl _))
      | (refine wpList_put rfl 29 (.tmp 6) (.tmp 27) (by rfl) (by rfl) w.heap.size (by rfl) #[.int .u64 W8.zero.a0, .int .u64 W8.zero.a1, .int .u64 W8.zero.a2, .int .u64 W8.zero.a3, .int .u64 W8.zero.a4, .int .u64 W8.zero.a5, .int .u64 W8.zero.a6, .int .u64 W8.zero.a7, .int .u64 W8.zero.a0, .int .u64 W8.zero.a1, .int .u64 W8.zero.a2, .int .u64 W8.zero.a3, .int .u64 W8.zero.a4, .int .u64 W8.zero.a5, .int .u64 W8.zero.a6, .int .u64 W8.zero.a7] (by rfl) KR (by rfl) Hi16.out Z0.out ?_; intro w6 hput6; have KS := hput6.blk; have L6 := hput6.lat w L5 (Nat.le_refl _)))
  · obtain ⟨u, v, rfl, rfl, R⟩ := x7.out
    have e0 := KS.cell 0
    have e1 := KS.cell 1
    have e2 := KS.cell 2
    have e3 := KS.cell 3
    have e4 := KS.cell 4
    have e5 := KS.cell 5
    have e6 := KS.cell 6
    have e7 := KS.cell 7
    have e8 := KS.cell 8
    have e9 := KS.cell 9
    have e10 := KS.cell 10
    have e11 := KS.cell 11
    have e12 := KS.cell 12
    have e13 := KS.cell 13
    have e14 := KS.cell 14
    have e15 := KS.cell 15
    clear KX KR hput hput6 g1 d0 K0 K
    refine bodyPost_ret (v := .tuple #[.agg #[.int .u64 u.a0, .int .u64 u.a1, .int .u64 u.a2, .int .u64 u.a3, .int .u64 u.a4, .int .u64 u.a5, .int .u64 u.a6, .int .u64 u.a7, .int .u64 v.a0, .int .u64 v.a1, .int .u64 v.a2, .int .u64 v.a3, .int .u64 v.a4, .int .u64 v.a5, .int .u64 v.a6, .int .u64 v.a7], .int .i64 0]) (by simp [results, Try.results6, go_sem, e0, e1, e2, e3, e4, e5, e6, e7, e8, e9, e10, e11, e12, e13, e14, e15]) rfl ?_
    rcases R with ⟨_, h, _⟩ | ⟨hp, _, R⟩
    · cases h
    · exact ⟨fun _ => ⟨u, v, rfl, R, L6⟩, fun h => by omega⟩
  · obtain ⟨u, v, rfl, rfl, R⟩ := x7.out
    have e0 := KS.cell 0
    have e1 := KS.cell 1
    have e2 := KS.cell 2
    have e3 := KS.cell 3
    have e4 := KS.cell 4
    have e5 := KS.cell 5
    have e6 := KS.cell 6
    have e7 := KS.cell 7
    have e8 := KS.cell 8
    have e9 := KS.cell 9
    have e10 := KS.cell 10
    have e11 := KS.cell 11
    have e12 := KS.cell 12
    have e13 := KS.cell 13
    have e14 := KS.cell 14
    have e15 := KS.cell 15
    clear KX KR hput hput6 d0 K0 K
    refine bodyPost_ret (v := .tuple #[.agg #[.int .u64 W8.zero.a0, .int .u64 W8.zero.a1, .int .u64 W8.zero.a2, .int .u64 W8.zero.a3, .int .u64 W8.zero.a4, .int .u64 W8.zero.a5, .int .u64 W8.zero.a6, .int .u64 W8.zero.a7, .int .u64 W8.zero.a0, .int .u64 W8.zero.a1, .int .u64 W8.zero.a2, .int .u64 W8.zero.a3, .int .u64 W8.zero.a4, .int .u64 W8.zero.a5, .int .u64 W8.zero.a6, .int .u64 W8.zero.a7], .int .i64 7]) (by simp [results, Try.results6, go_sem, e0, e1, e2, e3, e4, e5, e6, e7, e8, e9, e10, e11, e12, e13, e14, e15]) rfl ?_
    rcases R with ⟨hp, _, _⟩ | ⟨_, h, _⟩
    · exact ⟨fun h => by omega, fun _ => ⟨rfl, L6⟩⟩
    · cases h

set_option maxRecDepth 100000 in
set_option maxHeartbeats 2000000 in
theorem dRank_bad (m p s : Int) (w : World) (h : ¬ (11 ≤ m ∧ m ≤ 15 ∧ 0 ≤ s ∧ s ≤ 1000)) :
    Calls Try.prog 6 #[.int .i64 m, .int .i64 p, .int .i64 s] w (ShNo w 2) := by
  have HK := Lib.hid (known_no h)
  clear h
  go_enter Try.func6, Try.ntmps6
  go_wp2_with fail
  refine name2 (Q := fun W => Calls _ _ _ W _) ?_
  intro W hl hs k1 k2
  refine (known_any m (some ⟨w.heap.size + 1, 0, none⟩) 1 1 [s] W (Sl.of_blk' (t := 3) k2 rfl) (by omega)).mono ?_
  rintro e w1 ⟨rfl, l1⟩
  rw [HK.out]
  have L := hl.trans l1
  have K := k1.later l1
  have Hi16 := Lib.hid shareInfo'
  have Z0 := Lib.hid (show (#[.int .u64 W8.zero.a0, .int .u64 W8.zero.a1, .int .u64 W8.zero.a2, .int .u64 W8.zero.a3, .int .u64 W8.zero.a4, .int .u64 W8.zero.a5, .int .u64 W8.zero.a6, .int .u64 W8.zero.a7, .int .u64 W8.zero.a0, .int .u64 W8.zero.a1, .int .u64 W8.zero.a2, .int .u64 W8.zero.a3, .int .u64 W8.zero.a4, .int .u64 W8.zero.a5, .int .u64 W8.zero.a6, .int .u64 W8.zero.a7] : Array Value).all (·.oneCell') = true by simp [Value.oneCell'])
  clear k1 k2 l1 hl
  go_wp2_with (refine wpList_put rfl 29 (.tmp 6) (.tmp 20) (by rfl) (by rfl) w.heap.size (by rfl) #[.int .u64 W8.zero.a0, .int .u64 W8.zero.a1, .int .u64 W8.zero.a2, .int .u64 W8.zero.a3, .int .u64 W8.zero.a4, .int .u64 W8.zero.a5, .int .u64 W8.zero.a6, .int .u64 W8.zero.a7, .int .u64 W8.zero.a0, .int .u64 W8.zero.a1, .int .u64 W8.zero.a2, .int .u64 W8.zero.a3, .int .u64 W8.zero.a4, .int .u64 W8.zero.a5, .int .u64 W8.zero.a6, .int .u64 W8.zero.a7] (by rfl) K (by rfl) Hi16.out Z0.out ?_; intro w6 hput6; have KS := hput6.blk; have L6 := hput6.lat w L (Nat.le_refl _))
  have e0 := KS.cell 0
  have e1 := KS.cell 1
  have e2 := KS.cell 2
  have e3 := KS.cell 3
  have e4 := KS.cell 4
  have e5 := KS.cell 5
  have e6 := KS.cell 6
  have e7 := KS.cell 7
  have e8 := KS.cell 8
  have e9 := KS.cell 9
  have e10 := KS.cell 10
  have e11 := KS.cell 11
  have e12 := KS.cell 12
  have e13 := KS.cell 13
  have e14 := KS.cell 14
  have e15 := KS.cell 15
  clear hput6 K
  refine bodyPost_ret (v := .tuple #[.agg #[.int .u64 W8.zero.a0, .int .u64 W8.zero.a1, .int .u64 W8.zero.a2, .int .u64 W8.zero.a3, .int .u64 W8.zero.a4, .int .u64 W8.zero.a5, .int .u64 W8.zero.a6, .int .u64 W8.zero.a7, .int .u64 W8.zero.a0, .int .u64 W8.zero.a1, .int .u64 W8.zero.a2, .int .u64 W8.zero.a3, .int .u64 W8.zero.a4, .int .u64 W8.zero.a5, .int .u64 W8.zero.a6, .int .u64 W8.zero.a7], .int .i64 2]) (by simp [results, Try.results6, go_sem, e0, e1, e2, e3, e4, e5, e6, e7, e8, e9, e10, e11, e12, e13, e14, e15]) rfl ?_
  exact ⟨rfl, L6⟩

set_option maxRecDepth 100000 in
set_option maxHeartbeats 2000000 in
theorem dRank_far (m p s : Int) (w : World) (h0 : 11 ≤ m) (h1 : m ≤ 15) (h2 : 0 ≤ s) (h3 : s ≤ 1000) (h : ¬ (0 ≤ p ∧ p ≤ 1000000000)) :
    Calls Try.prog 6 #[.int .i64 m, .int .i64 p, .int .i64 s] w (ShNo w 2) := by
  have HK := Lib.hid (known_yes h0 h1 h2 h3)
  have HI := Lib.hid (without_one h)
  clear h h0 h1 h2 h3
  go_enter Try.func6, Try.ntmps6
  go_wp2_with fail
  refine name2 (Q := fun W => Calls _ _ _ W _) ?_
  intro W hl hs k1 k2
  refine (known_any m (some ⟨w.heap.size + 1, 0, none⟩) 1 1 [s] W (Sl.of_blk' (t := 3) k2 rfl) (by omega)).mono ?_
  rintro e w1 ⟨rfl, l1⟩
  rw [HK.out]
  go_wp2_with fail
  refine name1 (Q := fun W => Calls _ _ _ W _) ?_
  intro w2 l2 hs2 k3
  refine (within_any 0 1000000000 (some ⟨w1.heap.size, 0, none⟩) 1 1 [p] w2 (Sl.of_blk' (t := 3) k3 rfl) (by omega)).mono ?_
  rintro e w3 ⟨rfl, l3⟩
  rw [HI.out]
  have L := ((hl.trans l1).trans l2).trans l3
  have K := k1.later ((l1.trans l2).trans l3)
  have Hi16 := Lib.hid shareInfo'
  have Z0 := Lib.hid (show (#[.int .u64 W8.zero.a0, .int .u64 W8.zero.a1, .int .u64 W8.zero.a2, .int .u64 W8.zero.a3, .int .u64 W8.zero.a4, .int .u64 W8.zero.a5, .int .u64 W8.zero.a6, .int .u64 W8.zero.a7, .int .u64 W8.zero.a0, .int .u64 W8.zero.a1, .int .u64 W8.zero.a2, .int .u64 W8.zero.a3, .int .u64 W8.zero.a4, .int .u64 W8.zero.a5, .int .u64 W8.zero.a6, .int .u64 W8.zero.a7] : Array Value).all (·.oneCell') = true by simp [Value.oneCell'])
  clear k1 k2 k3 l1 l2 l3 hl
  go_wp2_with (refine wpList_put rfl 29 (.tmp 6) (.tmp 20) (by rfl) (by rfl) w.heap.size (by rfl) #[.int .u64 W8.zero.a0, .int .u64 W8.zero.a1, .int .u64 W8.zero.a2, .int .u64 W8.zero.a3, .int .u64 W8.zero.a4, .int .u64 W8.zero.a5, .int .u64 W8.zero.a6, .int .u64 W8.zero.a7, .int .u64 W8.zero.a0, .int .u64 W8.zero.a1, .int .u64 W8.zero.a2, .int .u64 W8.zero.a3, .int .u64 W8.zero.a4, .int .u64 W8.zero.a5, .int .u64 W8.zero.a6, .int .u64 W8.zero.a7] (by rfl) K (by rfl) Hi16.out Z0.out ?_; intro w6 hput6; have KS := hput6.blk; have L6 := hput6.lat w L (Nat.le_refl _))
  have e0 := KS.cell 0
  have e1 := KS.cell 1
  have e2 := KS.cell 2
  have e3 := KS.cell 3
  have e4 := KS.cell 4
  have e5 := KS.cell 5
  have e6 := KS.cell 6
  have e7 := KS.cell 7
  have e8 := KS.cell 8
  have e9 := KS.cell 9
  have e10 := KS.cell 10
  have e11 := KS.cell 11
  have e12 := KS.cell 12
  have e13 := KS.cell 13
  have e14 := KS.cell 14
  have e15 := KS.cell 15
  clear hput6 K
  refine bodyPost_ret (v := .tuple #[.agg #[.int .u64 W8.zero.a0, .int .u64 W8.zero.a1, .int .u64 W8.zero.a2, .int .u64 W8.zero.a3, .int .u64 W8.zero.a4, .int .u64 W8.zero.a5, .int .u64 W8.zero.a6, .int .u64 W8.zero.a7, .int .u64 W8.zero.a0, .int .u64 W8.zero.a1, .int .u64 W8.zero.a2, .int .u64 W8.zero.a3, .int .u64 W8.zero.a4, .int .u64 W8.zero.a5, .int .u64 W8.zero.a6, .int .u64 W8.zero.a7], .int .i64 2]) (by simp [results, Try.results6, go_sem, e0, e1, e2, e3, e4, e5, e6, e7, e8, e9, e10, e11, e12, e13, e14, e15]) rfl ?_
  exact ⟨rfl, L6⟩
end Go.Proofs.Ytkjnjooggicgiaa
