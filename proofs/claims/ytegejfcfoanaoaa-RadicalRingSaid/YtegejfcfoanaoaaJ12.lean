/- Several texts in one: WideF, Share. -/
import Derived.Test.YtegejfcfoanaoaaJ11
import Derived.Laws.CopyOwn
import Derived.Deep.RegionHeld3
import Derived.Deep.RegionWith

/- Numbers of any length: from an integer, and back to 512 bits. -/
namespace Go.Proofs.Ytegejfcfoanaoaa
open Go.RowKit

set_option maxRecDepth 100000 in
set_option maxHeartbeats 1000000 in
theorem from_any (n : Int) (h0 : -9223372036854775808 ≤ n) (h1 : n < 9223372036854775808) (w : World) :
    Calls Try.prog 20 #[.int .i64 n] w (LongPost w n 8) := by
  have hz : (W8.of n).toInt = n := W8.of_toInt (by unfold P511; omega) (by unfold P511; omega)
  go_enter Try.func20, Try.ntmps20
  go_wp2_with fail
  refine name1 (Q := fun W => Calls _ _ _ W _) ?_
  intro W hl hs k1
  refine (of_any n h0 h1 W).mono ?_
  rintro e w1 ⟨rfl, u4⟩
  have B1 := k1.later u4
  have LW := hl.trans u4
  clear k1
  go_wp2_with fail
  refine (longer_any _ (W8.of_ok n) w1).mono ?_
  rw [hz]
  rintro e w2 ⟨b, A, m, c, rfl, q1, q2, q3⟩
  have B4 := B1.later q3
  clear B1
  have c0 := B4.cell 0
  have c1 := B4.cell 1
  have f0 := B4.frozen 0
  have f1 := B4.frozen 1
  go_wp2
  refine bodyPost_ret (v := .agg #[.bool b, .slice A m c]) (by simp [results, Try.results20, go_sem, c0, c1]) rfl ?_
  exact LongPost.close B4 q1 (LW.trans q3) (by omega) q2

theorem toldPost_big {w w' : World} {z : Int} (h : z < -P511 ∨ P511 ≤ z) (hl : Lat w w') : ToldPost w z (.returned (.tuple #[.agg #[.int .u64 W8.zero.a0, .int .u64 W8.zero.a1, .int .u64 W8.zero.a2, .int .u64 W8.zero.a3, .int .u64 W8.zero.a4, .int .u64 W8.zero.a5, .int .u64 W8.zero.a6, .int .u64 W8.zero.a7], .int .i64 6])) w' :=
  ⟨W8.zero, 6, rfl, .inr ⟨h, rfl, rfl⟩, hl⟩

theorem P511_lt_P512 : P511 < P512 := by decide

set_option maxRecDepth 100000 in
set_option maxHeartbeats 2000000 in
theorem longTold_any (b : Bool) (A : Option Addr) (n c : Nat) (z : Int) (w : World) (h : Lg w b A n c z) (hn : n ≤ 1000000) :
    Calls Try.prog 23 #[.agg #[.bool b, .slice A n c]] w (ToldPost w z) := by
  obtain ⟨hc, xs, hx, hr, hz, hb, hv⟩ := h
  have HX := Lib.hid hx
  by_cases h8 : 8 < n
  · have hd : decide ((8 : Int) < n) = true := by simp; omega
    have hbig : Hid (z < -P511 ∨ P511 ≤ z) := by
      have hl := hx.1
      have hne : xs ≠ [] := by intro h; rw [h] at hl; simp at hl; omega
      have hg := val_ge W64_pos hr hz hne
      have hm : W64 ^ 8 ≤ W64 ^ (xs.length - 1) := pw_le W64_pos (by omega)
      rw [← P512_eq] at hm
      have := P511_lt_P512
      show _ ∨ _
      rw [hv, sgn]
      split <;> omega
    go_enter Try.func23, Try.ntmps23
    go_wp2
    refine bodyPost_ret (v := .tuple #[.agg #[.int .u64 W8.zero.a0, .int .u64 W8.zero.a1, .int .u64 W8.zero.a2, .int .u64 W8.zero.a3, .int .u64 W8.zero.a4, .int .u64 W8.zero.a5, .int .u64 W8.zero.a6, .int .u64 W8.zero.a7], .int .i64 6]) (by simp [results, Try.results23, go_sem, W8.zero]) rfl ?_
    exact toldPost_big hbig.out (by first | exact ((Lat.alloc _ _).trans (Lat.alloc _ _)) | (iterate 8 (refine Lat.setCell ?_ (by simp; try omega) _); exact ((Lat.alloc _ _).trans (Lat.alloc _ _))))
  · have hd : decide ((8 : Int) < n) = false := by simp; omega
    go_enter Try.func23, Try.ntmps23
    go_wp2
    have hl := hx.1
    have hu8 : (W8.ofList xs).list = xs ++ List.replicate (8 - n) 0 := by rw [W8.ofList_list (by omega), hl]
    have hok : (W8.ofList xs).ok := W8.ofList_ok (by omega) hr
    have hmag := W8.ofList_mag (l := xs) (by omega)
    have hnz : b = true → (W8.ofList xs).mag ≠ 0 := by
      intro h
      have := val_pos W64_pos hr hz (hb h)
      rw [hmag]
      omega
    obtain ⟨u, hu⟩ : ∃ u, u = W8.ofList xs := ⟨_, rfl⟩
    rw [← hu] at hu8 hok hmag hnz
    have hv' : z = sgn b u.mag := by rw [hmag]; exact hv
    clear hu hv hmag hz hb
    have hum : u.list.map (Value.int .u64) = [.int .u64 u.a0, .int .u64 u.a1, .int .u64 u.a2, .int .u64 u.a3, .int .u64 u.a4, .int .u64 u.a5, .int .u64 u.a6, .int .u64 u.a7] := rfl
    refine name3 (Q := fun W => Code.wp _ _ _ _ W) ?_
    intro W hl2 hs k1 k2 k3
    have hrow : W.drew.heap[w.heap.size + 1 + 1]? = some (.cells ((.bool b :: List.replicate 8 (.int .u64 0)) : List Value).toArray 82 (0, 0)) := k3
    have a0 : ∀ w', Below (w.heap.size + 1 + 1) W w' → w'.cell? ⟨w.heap.size, 1, none⟩ = some (.slice A n c) := fun w' hb => (Below.cell hb (show w.heap.size < _ by omega)).trans (k1.cell 1)
    have L0 := Lat.drew W
    have M0 : Below (w.heap.size + 1 + 1) W W.drew := Below.mono L0 (by omega)
    have hsz : (Try.prog.info? 41).map (·.size) = some 1 := by obtain ⟨i0, hi0, hz0, hz1, hz2⟩ := info_parts infoU64; rw [hi0]; simp [hz1]
    have hone : ∀ v ∈ xs.map (Value.int .u64), v.oneCell' = true := ints_oneCell _ _
    have hpos : 0 < (xs.map (Value.int .u64)).length → (some ⟨w.heap.size + 1 + 1, 0 + 1, none⟩ : Option Addr) = some ⟨w.heap.size + 1 + 1, 0 + 1, none⟩ ∧ ∃ ad, A = some ad ∧ ∀ j v, (xs.map (Value.int .u64))[j]? = some v → W.drew.cell? (ad.add j) = some v := by
      intro h
      have hx' := hx.later (hl2.trans L0)
      obtain ⟨a, h1, h2, h3⟩ := hx'.2 (by simp at h; omega)
      refine ⟨rfl, a, h1, fun j v hj => ?_⟩
      rw [List.getElem?_map] at hj
      cases hq : xs[j]? with
      | none => simp [hq] at hj
      | some x => simp [hq] at hj; rw [← hj]; exact h3 j x hq
    have hmin : (xs.map (Value.int .u64)).length = Nat.min n 8 := by rw [List.length_map, hl]; exact (Nat.min_eq_left (by omega)).symm
    have hfit : 0 + 1 + (xs.map (Value.int .u64)).length ≤ ((.bool b :: List.replicate 8 (.int .u64 0)) : List Value).length := by simp; omega
    go_region_held3 (fun w' => Below (w.heap.size + 1 + 1) W w') (assumption)
     (first
      | (refine step_copy_splice (by rfl) _ _ _ _ (by rfl) 41 Try.underlying55 hsz (some ⟨w.heap.size + 1 + 1, 0 + 1, none⟩) A 8 8 n c (by rfl) (by rfl) (w.heap.size + 1 + 1) (0 + 1) (.bool b :: List.replicate 8 (.int .u64 0)) 82 hrow (xs.map (Value.int .u64)) hmin hpos hfit hone (w.heap.size + 1 + 1) W.drew (Below.refl _ _) (Nat.le_refl _) ?_
         intro w4 hg4 hb4
         have M4 : Below (w.heap.size + 1 + 1) W w4 := M0.trans hb4))
    have hcells : (splice (.bool b :: List.replicate 8 (.int .u64 0) : List Value) (0 + 1) (xs.map (Value.int .u64))).toArray = #[.bool b, .int .u64 u.a0, .int .u64 u.a1, .int .u64 u.a2, .int .u64 u.a3, .int .u64 u.a4, .int .u64 u.a5, .int .u64 u.a6, .int .u64 u.a7] := by
      have : splice (.bool b :: List.replicate 8 (.int .u64 0) : List Value) (0 + 1) (xs.map (Value.int .u64)) = .bool b :: u.list.map (Value.int .u64) := by
        rw [hu8]
        simp [splice, hl]
        rw [Nat.add_comm 1 n]
        show List.drop (n + 1) (Value.bool b :: List.replicate 8 (Value.int IntKind.u64 0)) = _
        rw [List.drop_succ_cons, List.drop_replicate]
      rw [this]
      rfl
    have K3 : Blk w4 (w.heap.size + 1 + 1) 82 #[.bool b, .int .u64 u.a0, .int .u64 u.a1, .int .u64 u.a2, .int .u64 u.a3, .int .u64 u.a4, .int .u64 u.a5, .int .u64 u.a6, .int .u64 u.a7] := by rw [← hcells]; exact hg4.out
    have L4 : Lat w w4 := Below.trans hl2 (Below.mono M4 (by omega))
    have K2 : Blk w4 (w.heap.size + 1) 43 #[.int .u64 W8.zero.a0, .int .u64 W8.zero.a1, .int .u64 W8.zero.a2, .int .u64 W8.zero.a3, .int .u64 W8.zero.a4, .int .u64 W8.zero.a5, .int .u64 W8.zero.a6, .int .u64 W8.zero.a7] := (Below.block M4 (w.heap.size + 1) (by omega)).trans k2
    clear hcells hg4 k1 k2 k3 hrow a0 hfit hpos hone hsz hmin hu8 hum
    have d0 := K3.cell 0
    have d1 := K3.cell 1
    have d2 := K3.cell 2
    have d3 := K3.cell 3
    have d4 := K3.cell 4
    have d5 := K3.cell 5
    have d6 := K3.cell 6
    have d7 := K3.cell 7
    have d8 := K3.cell 8
    go_wp2_with fail
    refine (numTold_any b u hok hnz w4).mono ?_
    rintro e w5 ⟨v, r, rfl, v1, v2⟩
    have E2 := K2.later v2
    have L5 := L4.trans v2
    have V1 := Lib.hid v1
    clear d0 d1 d2 d3 d4 d5 d6 d7 d8 K2 K3 v1 M4
    have c0 := E2.cell 0
    have c1 := E2.cell 1
    have c2 := E2.cell 2
    have c3 := E2.cell 3
    have c4 := E2.cell 4
    have c5 := E2.cell 5
    have c6 := E2.cell 6
    have c7 := E2.cell 7
    have f0 := E2.frozen 0
    have f1 := E2.frozen 1
    have f2 := E2.frozen 2
    have f3 := E2.frozen 3
    have f4 := E2.frozen 4
    have f5 := E2.frozen 5
    have f6 := E2.frozen 6
    have f7 := E2.frozen 7
    go_wp2
    refine bodyPost_ret (v := .tuple #[.agg #[.int .u64 v.a0, .int .u64 v.a1, .int .u64 v.a2, .int .u64 v.a3, .int .u64 v.a4, .int .u64 v.a5, .int .u64 v.a6, .int .u64 v.a7], .int .i64 r]) (by simp [results, Try.results23, go_sem, c0, c1, c2, c3, c4, c5, c6, c7]) rfl ?_
    refine ⟨v, r, rfl, by rw [hv']; exact V1.out, ?_⟩
    iterate 8 (refine Lat.setCell ?_ (by simp; try omega) _)
    exact L5
end Go.Proofs.Ytegejfcfoanaoaa

/- Fractions: to lowest terms. -/
namespace Go.Proofs.Ytegejfcfoanaoaa
open Go.RowKit

/-- Numerator and denominator of x / y in lowest terms. -/
def lowN (x y : Int) : Int := if y < 0 then -(x / Int.gcd x y) else x / Int.gcd x y
def lowD (x y : Int) : Int := if y < 0 then -(y / Int.gcd x y) else y / Int.gcd x y

/-- What a call leaves that returns a fraction. -/
def RatPost (w : World) (x y : Int) (N : Nat) (e : Ending) (w' : World) : Prop :=
  ∃ b A n c b' A' n' c', e = .returned (.agg #[.bool b, .slice A n c, .bool b', .slice A' n' c']) ∧ Lg w' b A n c x ∧ n ≤ N ∧ Lg w' b' A' n' c' y ∧ n' ≤ N ∧ Lat w w'

theorem Lg.neg_of {w : World} {A : Option Addr} {n c : Nat} {z : Int} (h : Lg w true A n c z) : z < 0 := by
  obtain ⟨_, xs, _, r, nz, hne, hv⟩ := h
  have := val_pos W64_pos r nz (hne rfl)
  rw [hv]; simp only [sgn, if_true]; omega
theorem Lg.nonneg_of {w : World} {A : Option Addr} {n c : Nat} {z : Int} (h : Lg w false A n c z) : 0 ≤ z := by
  obtain ⟨_, xs, _, r, nz, hne, hv⟩ := h
  have := val_nonneg W64_pos r
  rw [hv]; exact this
theorem gcd_side {x y : Int} (hy : y ≠ 0) : (y / (Int.gcd x y : Int) < 0 ↔ y < 0) := by
  have hg : (0 : Int) < Int.gcd x y := by
    have := Int.gcd_pos_of_ne_zero_right x hy
    omega
  constructor
  · intro h
    rcases Int.lt_or_le y 0 with h1 | h1
    · exact h1
    · have := Int.ediv_nonneg h1 (Int.le_of_lt hg)
      omega
  · intro h
    exact Int.ediv_neg_of_neg_of_pos h hg

theorem no_u64_4 (b : Bool) (A : Option Addr) (n c : Nat) (b' : Bool) (A' : Option Addr) (n' c' : Nat) : ∀ (j : Nat) (x : Int), (#[.bool b, .slice A n c, .bool b', .slice A' n' c'] : Array Value)[j]? ≠ some (.int .u64 x) := by
  intro j x
  match j with
  | 0 => simp
  | 1 => simp
  | 2 => simp
  | 3 => simp
  | j + 4 => simp
theorem RatPost.close {w w2 : World} {g t : Nat} {b b' b0 b0' : Bool} {A A' A0 A0' : Option Addr} {n c n' c' n0 c0 n0' c0' N : Nat} {x y : Int} (hk : Blk w2 g t #[.bool b0, .slice A0 n0 c0, .bool b0', .slice A0' n0' c0'])
    (h1 : Lg w2 b A n c x) (h2 : Lg w2 b' A' n' c' y) (hL : Lat w w2) (hg : w.heap.size ≤ g) (hn : n ≤ N) (hn' : n' ≤ N) :
    RatPost w x y N (.returned (.agg #[.bool b, .slice A n c, .bool b', .slice A' n' c'])) ((((w2.setCell ⟨g, 0, none⟩ (.bool b)).setCell ⟨g, 1, none⟩ (.slice A n c)).setCell ⟨g, 2, none⟩ (.bool b')).setCell ⟨g, 3, none⟩ (.slice A' n' c')) := by
  have ha := h1.apart hk (no_u64_4 _ _ _ _ _ _ _ _)
  have hb := h2.apart hk (no_u64_4 _ _ _ _ _ _ _ _)
  exact ⟨_, _, _, _, _, _, _, _, rfl, (((h1.far (p := ⟨g, 0, none⟩) ha _).far (p := ⟨g, 1, none⟩) ha _).far (p := ⟨g, 2, none⟩) ha _).far (p := ⟨g, 3, none⟩) ha _, hn,
    (((h2.far (p := ⟨g, 0, none⟩) hb _).far (p := ⟨g, 1, none⟩) hb _).far (p := ⟨g, 2, none⟩) hb _).far (p := ⟨g, 3, none⟩) hb _, hn',
    (((hL.setCell (p := ⟨g, 0, none⟩) hg _).setCell (p := ⟨g, 1, none⟩) hg _).setCell (p := ⟨g, 2, none⟩) hg _).setCell (p := ⟨g, 3, none⟩) hg _⟩

end Go.Proofs.Ytegejfcfoanaoaa
