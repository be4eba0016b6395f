/- Several texts in one: WideF, Share. -/
import Derived.Test.YtpmbglhbcjbkcaaGreatH11
import Derived.Laws.CopyOwn
import Derived.Deep.RegionHeld3
import Derived.Deep.RegionWith
namespace Go.Proofs.YtpmbglhbcjbkcaaGreat
set_option maxHeartbeats 16000000
set_option maxRecDepth 100000
open Go.RowKit
theorem zaY (n : Int) (h0 : -9223372036854775808 ≤ n) (h1 : n < 9223372036854775808) (w : World) :
  Calls Tryz.prog 34 #[.int .i64 n] w (LongPost w n 8) := by
 have hz : (W8.of n).toInt = n := W8.of_toInt (by unfold zaV; omega) (by unfold zaV; omega)
 go_enter Tryz.func34, Tryz.ntmps34
 go_wp2_with fail
 refine zas (Q := fun W => Calls _ _ _ W _) ?_
 intro W hl hs k1
 refine (ze7 n h0 h1 W).mono ?_
 rintro e w1 ⟨rfl, u4⟩
 have B1 := k1.later u4
 have LW := hl.trans u4
 clear k1
 go_wp2_with fail
 refine (zbV _ (W8.of_ok n) w1).mono ?_
 rw [hz]
 rintro e w2 ⟨b, A, m, c, rfl, q1, q2, q3⟩
 have B4 := B1.later q3
 clear B1
 have c0 := B4.cell 0
 have c1 := B4.cell 1
 have f0 := B4.frozen 0
 have f1 := B4.frozen 1
 go_wp2
 refine bodyPost_ret (v := .agg #[.bool b, .slice A m c]) (by simp [results, Tryz.results34, go_sem, c0, c1]) rfl ?_
 exact LongPost.close B4 q1 (LW.trans q3) (by omega) q2
theorem zgt {w w' : World} {z : Int} (h : z < -zaV ∨ zaV ≤ z) (hl : Lat w w') : zba w z (.returned (.tuple #[.agg (W8.one W8.zero), .int .i64 6])) w' :=
 ⟨W8.zero, 6, rfl, .inr ⟨h, rfl, rfl⟩, hl⟩
theorem zgu : zaV < zcA := by decide
theorem zcj (b : Bool) (A : Option Addr) (n c : Nat) (z : Int) (w : World) (h : Lg w b A n c z) (hn : n ≤ 1000000) :
  Calls Tryz.prog 64 #[.agg #[.bool b, .slice A n c]] w (zba w z) := by
 obtain ⟨hc, xs, hx, hr, hz, hb, hv⟩ := h
 have HX := Lib.hid hx
 by_cases h8 : 8 < n
 ·have hd : decide ((8 : Int) < n) = true := by simp; omega
  have hbig : Hid (z < -zaV ∨ zaV ≤ z) := by
   have hl := hx.1
   have hne : xs ≠ [] := by intro h; rw [h] at hl; simp at hl; omega
   have hg := zeZ zaf hr hz hne
   have hm : W64 ^ 8 ≤ W64 ^ (xs.length - 1) := zdS zaf (by omega)
   rw [← zfE] at hm
   have := zgu
   show _ ∨ _
   rw [hv, sgn]
   split <;> omega
  go_enter Tryz.func64, Tryz.ntmps64
  go_wp2
  refine bodyPost_ret (v := .tuple #[.agg (W8.one W8.zero), .int .i64 6]) (by simp [results, Tryz.results64, go_sem, W8.zero]) rfl ?_
  exact zgt hbig.out (by first | exact ((Lat.alloc _ _).trans (Lat.alloc _ _)) | (iterate 8 (refine Lat.setCell ?_ (by simp; try omega) _); exact ((Lat.alloc _ _).trans (Lat.alloc _ _))))
 ·have hd : decide ((8 : Int) < n) = false := by simp; omega
  go_enter Tryz.func64, Tryz.ntmps64
  go_wp2
  have hl := hx.1
  have hu8 : (W8.ofList xs).list = xs ++ List.replicate (8 - n) 0 := by rw [W8.ofList_list (by omega), hl]
  have hok : (W8.ofList xs).ok := W8.ofList_ok (by omega) hr
  have hmag := W8.ofList_mag (l := xs) (by omega)
  have hnz : b = true → (W8.ofList xs).mag ≠ 0 := by
   intro h
   have := zaX zaf hr hz (hb h)
   rw [hmag]
   omega
  obtain ⟨u, hu⟩ : ∃ u, u = W8.ofList xs := ⟨_, rfl⟩
  rw [← hu] at hu8 hok hmag hnz
  have hv' : z = sgn b u.mag := by rw [hmag]; exact hv
  clear hu hv hmag hz hb
  have hum : u.list.map (Value.int .u64) = [u.b0, u.b1, u.b2, u.b3, u.b4, u.b5, u.b6, u.b7] := rfl
  refine za0 (Q := fun W => Code.wp _ _ _ _ W) ?_
  intro W hl2 hs k1 k2 k3
  have hrow : W.drew.heap[w.heap.size + 1 + 1]? = some (.cells ((.bool b :: List.replicate 8 (.int .u64 0)) : List Value).toArray 163 (0, 0)) := k3
  have a0 : ∀ w', Below (w.heap.size + 1 + 1) W w' → w'.cell? ⟨w.heap.size, 1, none⟩ = some (.slice A n c) := fun w' hb => (Below.cell hb (show w.heap.size < _ by omega)).trans (k1.cell 1)
  have L0 := Lat.drew W
  have M0 : Below (w.heap.size + 1 + 1) W W.drew := Below.mono L0 (by omega)
  have hsz : (Tryz.prog.info? 36).map (·.size) = some 1 := by obtain ⟨i0, hi0, hz0, hz1, hz2⟩ := info_parts zbP; rw [hi0]; simp [hz1]
  have hone : ∀ v ∈ xs.map (Value.int .u64), v.oneCell' = true := ints_oneCell _ _
  have hpos : 0 < (xs.map (Value.int .u64)).length → (some ⟨w.heap.size + 1 + 1, 0 + 1, none⟩ : Option Addr) = some ⟨w.heap.size + 1 + 1, 0 + 1, none⟩ ∧ ∃ ad, A = some ad ∧ ∀ j v, (xs.map (Value.int .u64))[j]? = some v → W.drew.cell? (ad.add j) = some v := by
   intro h
   have hx' := hx.later (hl2.trans L0)
   obtain ⟨a, h1, h2, h3⟩ := hx'.2 (by simp at h; omega)
   refine ⟨rfl, a, h1, fun j v hj => ?_⟩
   rw [List.getElem?_map] at hj
   cases hq : xs[j]? with
   | none => simp [hq] at hj
   | some x => simp [hq] at hj; rw [← hj]; exact h3 j x hq
  have hmin : (xs.map (Value.int .u64)).length = Nat.min n 8 := by rw [List.length_map, hl]; exact (Nat.min_eq_left (by omega)).symm
  have hfit : 0 + 1 + (xs.map (Value.int .u64)).length ≤ ((.bool b :: List.replicate 8 (.int .u64 0)) : List Value).length := by simp; omega
  go_region_held3 (fun w' => Below (w.heap.size + 1 + 1) W w') (assumption)
   (first
    | (refine step_copy_splice (by rfl) _ _ _ _ (by rfl) 36 Tryz.underlying86 hsz (some ⟨w.heap.size + 1 + 1, 0 + 1, none⟩) A 8 8 n c (by rfl) (by rfl) (w.heap.size + 1 + 1) (0 + 1) (.bool b :: List.replicate 8 (.int .u64 0)) 163 hrow (xs.map (Value.int .u64)) hmin hpos hfit hone (w.heap.size + 1 + 1) W.drew (Below.refl _ _) (Nat.le_refl _) ?_
       intro w4 hg4 hb4
       have M4 : Below (w.heap.size + 1 + 1) W w4 := M0.trans hb4))
  have hcells : (splice (.bool b :: List.replicate 8 (.int .u64 0) : List Value) (0 + 1) (xs.map (Value.int .u64))).toArray = #[.bool b, u.b0, u.b1, u.b2, u.b3, u.b4, u.b5, u.b6, u.b7] := by
   have : splice (.bool b :: List.replicate 8 (.int .u64 0) : List Value) (0 + 1) (xs.map (Value.int .u64)) = .bool b :: u.list.map (Value.int .u64) := by
    rw [hu8]
    simp [splice, hl]
    rw [Nat.add_comm 1 n]
    show List.drop (n + 1) (Value.bool b :: List.replicate 8 (Value.int IntKind.u64 0)) = _
    rw [List.drop_succ_cons, List.drop_replicate]
   rw [this]
   rfl
  have K3 : Blk w4 (w.heap.size + 1 + 1) 163 #[.bool b, u.b0, u.b1, u.b2, u.b3, u.b4, u.b5, u.b6, u.b7] := by rw [← hcells]; exact hg4.out
  have L4 : Lat w w4 := Below.trans hl2 (Below.mono M4 (by omega))
  have K2 : Blk w4 (w.heap.size + 1) 38 (W8.one W8.zero) := (Below.block M4 (w.heap.size + 1) (by omega)).trans k2
  clear hcells hg4 k1 k2 k3 hrow a0 hfit hpos hone hsz hmin hu8 hum
  have d0 := K3.cell 0
  have d1 := K3.cell 1
  have d2 := K3.cell 2
  have d3 := K3.cell 3
  have d4 := K3.cell 4
  have d5 := K3.cell 5
  have d6 := K3.cell 6
  have d7 := K3.cell 7
  have d8 := K3.cell 8
  go_wp2_with fail
  refine (zdY b u hok hnz w4).mono ?_
  rintro e w5 ⟨v, r, rfl, v1, v2⟩
  have E2 := K2.later v2
  have L5 := L4.trans v2
  have V1 := Lib.hid v1
  clear d0 d1 d2 d3 d4 d5 d6 d7 d8 K2 K3 v1 M4
  have c0 := E2.cell 0
  have c1 := E2.cell 1
  have c2 := E2.cell 2
  have c3 := E2.cell 3
  have c4 := E2.cell 4
  have c5 := E2.cell 5
  have c6 := E2.cell 6
  have c7 := E2.cell 7
  have f0 := E2.frozen 0
  have f1 := E2.frozen 1
  have f2 := E2.frozen 2
  have f3 := E2.frozen 3
  have f4 := E2.frozen 4
  have f5 := E2.frozen 5
  have f6 := E2.frozen 6
  have f7 := E2.frozen 7
  go_wp2
  refine bodyPost_ret (v := .tuple #[.agg (W8.one v), .int .i64 r]) (by simp [results, Tryz.results64, go_sem, c0, c1, c2, c3, c4, c5, c6, c7]) rfl ?_
  refine ⟨v, r, rfl, by rw [hv']; exact V1.out, ?_⟩
  iterate 8 (refine Lat.setCell ?_ (by simp; try omega) _)
  exact L5
def zaT (x y : Int) : Int := if y < 0 then -(x / Int.gcd x y) else x / Int.gcd x y
def zaU (x y : Int) : Int := if y < 0 then -(y / Int.gcd x y) else y / Int.gcd x y
def RatPost (w : World) (x y : Int) (N : Nat) (e : Ending) (w' : World) : Prop :=
 ∃ b A n c b' A' n' c', e = .returned (.agg #[.bool b, .slice A n c, .bool b', .slice A' n' c']) ∧ Lg w' b A n c x ∧ n ≤ N ∧ Lg w' b' A' n' c' y ∧ n' ≤ N ∧ Lat w w'
theorem Lg.neg_of {w : World} {A : Option Addr} {n c : Nat} {z : Int} (h : Lg w true A n c z) : z < 0 := by
 obtain ⟨_, xs, _, r, nz, hne, hv⟩ := h
 have := zaX zaf r nz (hne rfl)
 rw [hv]; simp only [sgn, if_true]; omega
theorem Lg.nonneg_of {w : World} {A : Option Addr} {n c : Nat} {z : Int} (h : Lg w false A n c z) : 0 ≤ z := by
 obtain ⟨_, xs, _, r, nz, hne, hv⟩ := h
 have := zaj zaf r
 rw [hv]; exact this
theorem zlK {x y : Int} (hy : y ≠ 0) : (y / (Int.gcd x y : Int) < 0 ↔ y < 0) := by
 have hg : (0 : Int) < Int.gcd x y := by
  have := Int.gcd_pos_of_ne_zero_right x hy
  omega
 constructor
 ·intro h
  rcases Int.lt_or_le y 0 with h1 | h1
  ·exact h1
  ·have := Int.ediv_nonneg h1 (Int.le_of_lt hg)
   omega
 ·intro h
  exact Int.ediv_neg_of_neg_of_pos h hg
theorem zdJ (b : Bool) (A : Option Addr) (n c : Nat) (b' : Bool) (A' : Option Addr) (n' c' : Nat) : ∀ (j : Nat) (x : Int), (#[.bool b, .slice A n c, .bool b', .slice A' n' c'] : Array Value)[j]? ≠ some (.int .u64 x) := by
 intro j x
 match j with
 | 0 => simp
 | 1 => simp
 | 2 => simp
 | 3 => simp
 | j + 4 => simp
theorem RatPost.close {w w2 : World} {g t : Nat} {b b' b0 b0' : Bool} {A A' A0 A0' : Option Addr} {n c n' c' n0 c0 n0' c0' N : Nat} {x y : Int} (hk : Blk w2 g t #[.bool b0, .slice A0 n0 c0, .bool b0', .slice A0' n0' c0'])
  (h1 : Lg w2 b A n c x) (h2 : Lg w2 b' A' n' c' y) (hL : Lat w w2) (hg : w.heap.size ≤ g) (hn : n ≤ N) (hn' : n' ≤ N) :
  RatPost w x y N (.returned (.agg #[.bool b, .slice A n c, .bool b', .slice A' n' c'])) ((((w2.setCell ⟨g, 0, none⟩ (.bool b)).setCell ⟨g, 1, none⟩ (.slice A n c)).setCell ⟨g, 2, none⟩ (.bool b')).setCell ⟨g, 3, none⟩ (.slice A' n' c')) := by
 have ha := h1.apart hk (zdJ _ _ _ _ _ _ _ _)
 have hb := h2.apart hk (zdJ _ _ _ _ _ _ _ _)
 exact ⟨_, _, _, _, _, _, _, _, rfl, (((h1.far (p := ⟨g, 0, none⟩) ha _).far (p := ⟨g, 1, none⟩) ha _).far (p := ⟨g, 2, none⟩) ha _).far (p := ⟨g, 3, none⟩) ha _, hn,
  (((h2.far (p := ⟨g, 0, none⟩) hb _).far (p := ⟨g, 1, none⟩) hb _).far (p := ⟨g, 2, none⟩) hb _).far (p := ⟨g, 3, none⟩) hb _, hn',
  (((hL.setCell (p := ⟨g, 0, none⟩) hg _).setCell (p := ⟨g, 1, none⟩) hg _).setCell (p := ⟨g, 2, none⟩) hg _).setCell (p := ⟨g, 3, none⟩) hg _⟩
theorem zbW (b1 : Bool) (A1 : Option Addr) (n1 c1 : Nat) (x : Int) (b2 : Bool) (A2 : Option Addr) (n2 c2 : Nat) (y : Int) (w : World) (h1 : Lg w b1 A1 n1 c1 x) (h2 : Lg w b2 A2 n2 c2 y) (hy0 : y ≠ 0) (hn : n1 ≤ 300000) (hm : n2 ≤ 300000) :
  Calls Tryz.prog 36 #[.agg #[.bool b1, .slice A1 n1 c1], .agg #[.bool b2, .slice A2 n2 c2]] w (RatPost w (zaT x y) (zaU x y) (max n1 n2 + 2)) := by
 have hg0 : (Int.gcd x y : Int) ≠ 0 := by
  have := Int.gcd_pos_of_ne_zero_right x hy0
  omega
 have hside := Lib.hid (zlK (x := x) hy0)
 have HG := Lib.hid hg0
 have H1 := Lib.hid h1
 have H2 := Lib.hid h2
 clear hg0 hy0 h1 h2
 go_enter Tryz.func36, Tryz.ntmps36
 go_wp2_with fail
 refine za0 (Q := fun W => Calls _ _ _ W _) ?_
 intro W hl hs k1 k2 k3
 refine (zdm b1 A1 n1 c1 x b2 A2 n2 c2 y W (H1.out.later hl) (H2.out.later hl) (by omega) (by omega)).mono ?_
 rintro e w1 ⟨bg, Ag, ng, cg, rfl, g1, g2, g3⟩
 have LA := hl.trans g3
 have B1 := k1.later g3
 have B2 := k2.later g3
 have B3 := k3.later g3
 have G1 := Lib.hid g1
 have s1 := g3.size
 clear k1 k2 k3 hl g1 g3
 have c0 := B1.ever (i := 0) rfl
 have c1' := B1.ever (i := 1) rfl
 have L1 := Lat.alloc w1 (.cells #[.bool bg, .slice Ag ng cg] 88)
 go_wp2_with fail
 refine zas (Q := fun W => Calls _ _ _ W _) ?_
 intro W2 hl2 hs2 k4
 refine (zgs b1 A1 n1 c1 x bg Ag ng cg (Int.gcd x y) W2 (H1.out.later (LA.trans hl2)) (G1.out.later hl2) HG.out hn (by omega)).mono ?_
 rintro e w2 ⟨bx, Ax, nx, cx, b', A', n', c', rfl, q1, q2, q3, q4, q5⟩
 have LB := (LA.trans hl2).trans q5
 have E2 := (B2.later hl2).later q5
 have E3 := (B3.later hl2).later q5
 have E4 := k4.later q5
 have G2 := Lib.hid ((G1.out.later hl2).later q5)
 have Q1 := Lib.hid q1
 have s2 := q5.size
 clear B1 B2 B3 k4 G1 c0 c1' L1 hl2 q5 LA q1 q3
 have c0 := E2.ever (i := 0) rfl
 have c1' := E2.ever (i := 1) rfl
 have c2' := E4.ever (i := 0) rfl
 have c3' := E4.ever (i := 1) rfl
 have L2 := (Lat.alloc w2 (.cells #[.bool bx, .slice Ax nx cx] 88)).trans (Lat.alloc _ (.cells #[.bool b', .slice A' n' c'] 88))
 go_wp2_with fail
 refine zaK (Q := fun W => Calls _ _ _ W _) ?_
 intro W3 hl3 hs3 k5 k6
 refine (zgs b2 A2 n2 c2 y bg Ag ng cg (Int.gcd x y) W3 (H2.out.later (LB.trans hl3)) (G2.out.later hl3) HG.out hm (by omega)).mono ?_
 rintro e w3 ⟨by', Ay, ny, cy, b'', A'', n'', c'', rfl, p1, p2, p3, p4, p5⟩
 have LC := (LB.trans hl3).trans p5
 have F3 := (E3.later hl3).later p5
 have F5 := k5.later p5
 have QX := Lib.hid ((Q1.out.later hl3).later p5)
 have QY := Lib.hid p1
 have s3 := p5.size
 clear E2 E3 E4 k5 k6 G2 c0 c1' c2' c3' L2 hl3 p5 LB p1 p3 H1 H2 Q1
 cases by' with
 | false =>
   have L3 := (Lat.alloc w3 (.cells #[.bool false, .slice Ay ny cy] 88)).trans (Lat.alloc _ (.cells #[.bool b'', .slice A'' n'' c''] 88))
   have c0 := F5.ever (i := 0) rfl
   have c1' := F5.ever (i := 1) rfl
   have f0 := F3.free 0
   have f1 := F3.free 1
   have f2 := F3.free 2
   have f3 := F3.free 3
   have e0 := F3.ever (i := 0) rfl
   have e1 := F3.ever (i := 1) rfl
   have e2 := F3.ever (i := 2) rfl
   have e3 := F3.ever (i := 3) rfl
   go_wp2
   refine bodyPost_ret (v := .agg #[.bool bx, .slice Ax nx cx, .bool false, .slice Ay ny cy]) (by simp [results, Tryz.results36, go_sem, L3, e0, e1, e2, e3]) rfl ?_
   have hlo : zaT x y = x / Int.gcd x y ∧ zaU x y = y / Int.gcd x y := by
    have h0 := QY.out.nonneg_of
    have h1 : ¬ y < 0 := fun h => by have := hside.out.2 h; omega
    simp [zaT, zaU, h1]
   rw [hlo.1, hlo.2]
   exact RatPost.close (F3.later L3) (QX.out.later L3) (QY.out.later L3) (LC.trans L3) (by omega) (by omega) (by omega)
 | true =>
   have L3 := (Lat.alloc w3 (.cells #[.bool true, .slice Ay ny cy] 88)).trans (Lat.alloc _ (.cells #[.bool b'', .slice A'' n'' c''] 88))
   have K8 : Blk ((w3.alloc (.cells #[.bool true, .slice Ay ny cy] 88)).alloc (.cells #[.bool b'', .slice A'' n'' c''] 88)) w3.heap.size 88 #[.bool true, .slice Ay ny cy] := (Blk.new _ _ _).alloc _
   have hz4 : w3.heap.size + 1 < ((w3.alloc (.cells #[.bool true, .slice Ay ny cy] 88)).alloc (.cells #[.bool b'', .slice A'' n'' c''] 88)).heap.size := by simp
   go_wp2
   revert L3 K8 hz4
   refine gen (Q := fun W => Lat _ W → Blk W _ _ _ → _ < W.heap.size → Code.wp _ _ _ _ W) _ ?_
   intro W4 hW4 L3 K8 hz4
   clear hW4
   have K5 := F5.later L3
   have K3 := F3.later L3
   have X4 := Lib.hid (QX.out.later L3)
   have Y4 := Lib.hid (QY.out.later L3)
   have LW := LC.trans L3
   clear F3 F5 QX LC L3
   have L0 := Lat.drew W4
   have LR := Lat.refl W4
   have c0 := K5.ever (i := 0) rfl
   have c1' := K5.ever (i := 1) rfl
   have d0 := K8.ever (i := 0) rfl
   have d1 := K8.ever (i := 1) rfl
   have f0 := K5.free 0
   have f1 := K5.free 1
   have g0 := K8.free 0
   have g1 := K8.free 1
   have HX : ∀ wX, Lat W4 wX → Calls Tryz.prog 79 #[.agg #[.bool bx, .slice Ax nx cx]] wX (LongPost wX (-(x / Int.gcd x y)) nx) := fun wX h => zbU bx Ax nx cx _ _ (X4.out.later h) (by omega)
   have HY : ∀ wX, Lat W4 wX → Calls Tryz.prog 79 #[.agg #[.bool true, .slice Ay ny cy]] wX (LongPost wX (-(y / Int.gcd x y)) ny) := fun wX h => zbU true Ay ny cy _ _ (Y4.out.later h) (by omega)
   go_region_with (first
    | (go_at_call 79; (with_reducible refine (HY _ ?_).mono ?_); assumption; rintro e wY ⟨bY, AY, nY, cY, rfl, y1, y2, y3⟩; have LY := Lat.trans (by assumption) y3)
    | (go_at_call 79; (with_reducible refine (HX _ ?_).mono ?_); assumption; rintro e wX ⟨bX, AX, nX, cX, rfl, x1, x2, x3⟩; have LX := Lat.trans (by assumption) x3))
   all_goals
    refine gen (Q := fun W => Exit.then _ _ _ _ W) _ ?_
    intro W5 hW5
    have E8 : ∃ W0, Hid (Lat W4 W0) ∧ Hid (Lg W0 bX AX nX cX (-(x / Int.gcd x y))) ∧ Hid (Lg W0 bY AY nY cY (-(y / Int.gcd x y))) ∧ Hid (W5 = (((W0.setCell ⟨w2.heap.size, 0, none⟩ (.bool bX)).setCell ⟨w2.heap.size, 1, none⟩ (.slice AX nX cX)).setCell ⟨w3.heap.size, 0, none⟩ (.bool bY)).setCell ⟨w3.heap.size, 1, none⟩ (.slice AY nY cY)) := by
     first
      | exact ⟨wY, LY, x1.later y3, y1, hW5⟩
      | exact ⟨wX, LX, x1, y1.later x3, hW5⟩
    clear hW5 x1 y1 L0 LR c0 c1' d0 d1 f0 f1 g0 g1
    obtain ⟨W0, L0, X0, Y0, hW0⟩ := E8
    have J5 := K5.later L0.out
    have J8 := K8.later L0.out
    have J3 := K3.later L0.out
    have hx5 := X0.out.apart J5 (zbi _ _ _ _)
    have hx8 := X0.out.apart J8 (zbi _ _ _ _)
    have hy5 := Y0.out.apart J5 (zbi _ _ _ _)
    have hy8 := Y0.out.apart J8 (zbi _ _ _ _)
    have XX : Hid (Lg W5 bX AX nX cX (-(x / Int.gcd x y))) := by
     rw [hW0.out]
     exact (((X0.out.far (p := ⟨w2.heap.size, 0, none⟩) hx5 _).far (p := ⟨w2.heap.size, 1, none⟩) hx5 _).far (p := ⟨w3.heap.size, 0, none⟩) hx8 _).far (p := ⟨w3.heap.size, 1, none⟩) hx8 _
    have YY : Hid (Lg W5 bY AY nY cY (-(y / Int.gcd x y))) := by
     rw [hW0.out]
     exact (((Y0.out.far (p := ⟨w2.heap.size, 0, none⟩) hy5 _).far (p := ⟨w2.heap.size, 1, none⟩) hy5 _).far (p := ⟨w3.heap.size, 0, none⟩) hy8 _).far (p := ⟨w3.heap.size, 1, none⟩) hy8 _
    have I5 : Blk W5 w2.heap.size 88 #[.bool bX, .slice AX nX cX] := by
     have := (((J5.set 0 (.bool bX)).set 1 (.slice AX nX cX)).far (p := ⟨w3.heap.size, 0, none⟩) (by simp; omega) (.bool bY)).far (p := ⟨w3.heap.size, 1, none⟩) (by simp; omega) (.slice AY nY cY)
     rw [hW0.out]; simpa using this
    have I8 : Blk W5 w3.heap.size 88 #[.bool bY, .slice AY nY cY] := by
     have := (((J8.far (p := ⟨w2.heap.size, 0, none⟩) (by simp; omega) (.bool bX)).far (p := ⟨w2.heap.size, 1, none⟩) (by simp; omega) (.slice AX nX cX)).set 0 (.bool bY)).set 1 (.slice AY nY cY)
     rw [hW0.out]; simpa using this
    have I3 : Blk W5 (w.heap.size + 1 + 1) 94 #[.bool false, .slice none 0 0, .bool false, .slice none 0 0] := by
     have := (((J3.far (p := ⟨w2.heap.size, 0, none⟩) (by simp; omega) (.bool bX)).far (p := ⟨w2.heap.size, 1, none⟩) (by simp; omega) (.slice AX nX cX)).far (p := ⟨w3.heap.size, 0, none⟩) (by simp; omega) (.bool bY)).far (p := ⟨w3.heap.size, 1, none⟩) (by simp; omega) (.slice AY nY cY)
     rw [hW0.out]; simpa using this
    have L5 : Lat w W5 := by
     rw [hW0.out]
     exact ((((LW.trans L0.out).setCell (p := ⟨w2.heap.size, 0, none⟩) (by simp; omega) _).setCell (p := ⟨w2.heap.size, 1, none⟩) (by simp; omega) _).setCell (p := ⟨w3.heap.size, 0, none⟩) (by simp; omega) _).setCell (p := ⟨w3.heap.size, 1, none⟩) (by simp; omega) _
    clear hW0 J5 J8 J3 hx5 hx8 hy5 hy8 K5 K8 K3 X0 Y0 L0 LX LY x3 y3 X4 HX HY LW
    have c0 := I5.cell 0
    have c1' := I5.cell 1
    have d0 := I8.cell 0
    have d1 := I8.cell 1
    have e0 := I3.cell 0
    have e1 := I3.cell 1
    have e2 := I3.cell 2
    have e3 := I3.cell 3
    have f0 := I3.frozen 0
    have f1 := I3.frozen 1
    have f2 := I3.frozen 2
    have f3 := I3.frozen 3
    go_wp2
    refine bodyPost_ret (v := .agg #[.bool bX, .slice AX nX cX, .bool bY, .slice AY nY cY]) (by simp [results, Tryz.results36, go_sem, e0, e1, e2, e3]) rfl ?_
    have hlo : zaT x y = -(x / Int.gcd x y) ∧ zaU x y = -(y / Int.gcd x y) := by
     have h1 : y < 0 := hside.out.1 Y4.out.neg_of
     simp [zaT, zaU, h1]
    rw [hlo.1, hlo.2]
    exact RatPost.close I3 XX.out YY.out L5 (by omega) (by omega) (by omega)
end Go.Proofs.YtpmbglhbcjbkcaaGreat
