/- Several texts in one: QuO, QuA. -/
import Derived.Test.YteocdndanehpnaaGreatH35
import Derived.Test.YteocdndanehpnaaGreatH32
namespace Go.Proofs.YteocdndanehpnaaGreat
open Go.RowKit
set_option linter.unusedSimpArgs false
set_option linter.unusedVariables false
theorem GoodX.cells' {X : Array Value} (h : GoodX X) : ∃ u v : W8, X = #[.int .u64 u.a0, .int .u64 u.a1, .int .u64 u.a2, .int .u64 u.a3, .int .u64 u.a4, .int .u64 u.a5, .int .u64 u.a6, .int .u64 u.a7, .int .u64 v.a0, .int .u64 v.a1, .int .u64 v.a2, .int .u64 v.a3, .int .u64 v.a4, .int .u64 v.a5, .int .u64 v.a6, .int .u64 v.a7] := by obtain ⟨_, _, u, v, _, _, h⟩ := h; exact ⟨u, v, h⟩
set_option maxRecDepth 100000 in
set_option maxHeartbeats 2000000 in
theorem over_gen (p : Int) (X1 X2 X3 : Array Value) (g1 : GoodX X1) (g2 : GoodX X2) (g3 : GoodX X3) (HO : ∀ w, Calls Tryz.prog 64 #[.int .i64 p, .int .i64 1] w (ShR w X1 0))
  (HD : ∀ w, Calls Tryz.prog 89 #[.agg X1, .agg X2] w (ShR w X3 0)) (w : World) : Calls Tryz.prog 61 #[.int .i64 p, .agg X2] w (ShR w X3 0) := by
 have i1 := Lib.hid g1.info
 have z1 := Lib.hid g1.1
 have c1 := Lib.hid g1.2.1
 have i2 := Lib.hid g2.info
 have i3 := Lib.hid g3.info
 have z3 := Lib.hid g3.1
 have c3 := Lib.hid g3.2.1
 have G3 := Lib.hid g3.cells'
 clear g1 g2 g3
 go_enter Tryz.func61, Tryz.ntmps61
 go_wp2_with fail
 refine name2 (Q := fun W => Calls _ _ _ W _) ?_
 intro W hl hs k3 k4
 refine (HO W).mono ?_
 rintro e V3 ⟨rfl, l1⟩
 have K3 := k3.later l1
 have K4 := k4.later l1
 have L3 := hl.trans l1
 have hlt := K4.lt
 have K0 := Blk.new V3 99 #[.int .u64 W8.zero.a0, .int .u64 W8.zero.a1, .int .u64 W8.zero.a2, .int .u64 W8.zero.a3, .int .u64 W8.zero.a4, .int .u64 W8.zero.a5, .int .u64 W8.zero.a6, .int .u64 W8.zero.a7, .int .u64 W8.zero.a0, .int .u64 W8.zero.a1, .int .u64 W8.zero.a2, .int .u64 W8.zero.a3, .int .u64 W8.zero.a4, .int .u64 W8.zero.a5, .int .u64 W8.zero.a6, .int .u64 W8.zero.a7]
 clear k3 k4 hl l1 hs HO
 go_wp2_with (first
  | (refine wpList_put rfl 99 (.tmp 6) (.tmp 11) (by rfl) (by rfl) V3.heap.size (by rfl) X1 (by rfl) K0 (by rw [z1.out]; rfl) i1.out c1.out ?_; intro W5 hput; have KX := hput.blk; have L5 := hput.lat w (L3.trans (Lat.alloc _ _)) L3.size; have Q3 := hput.keep (K3.alloc _) (by omega); have Q4 := hput.keep (K4.alloc _) (by omega); clear hput)
  | (refine wpList_get (by rfl) 99 (.tmp 6) (by rfl) V3.heap.size (by rfl) KX _ Tryz.underlying99 rfl i1.out ?_)
  | (refine wpList_get (by rfl) 99 (.tmp 3) (by rfl) w.heap.size (by rfl) Q3 _ Tryz.underlying99 rfl i2.out ?_))
 refine (HD W5).mono ?_
 rintro e V6 ⟨rfl, l6⟩
 have K4 := Q4.later l6
 have L6 := L5.trans l6
 clear Q3 Q4 KX K0 K3 L5 L3 l6 HD
 go_wp2_with (refine wpList_put rfl 99 (.tmp 4) (.tmp 20) (by rfl) (by rfl) (w.heap.size + 1) (by rfl) X3 (by rfl) K4 (by rw [z3.out]; rfl) i3.out c3.out ?_; intro W7 hput; have KS := hput.blk; have L7 := hput.lat w L6 (by omega))
 obtain ⟨u, v, rfl⟩ := G3.out
 have e0 := KS.cell 0
 have e1 := KS.cell 1
 have e2 := KS.cell 2
 have e3 := KS.cell 3
 have e4 := KS.cell 4
 have e5 := KS.cell 5
 have e6 := KS.cell 6
 have e7 := KS.cell 7
 have e8 := KS.cell 8
 have e9 := KS.cell 9
 have e10 := KS.cell 10
 have e11 := KS.cell 11
 have e12 := KS.cell 12
 have e13 := KS.cell 13
 have e14 := KS.cell 14
 have e15 := KS.cell 15
 clear hput K4
 refine bodyPost_ret (v := .tuple #[.agg #[.int .u64 u.a0, .int .u64 u.a1, .int .u64 u.a2, .int .u64 u.a3, .int .u64 u.a4, .int .u64 u.a5, .int .u64 u.a6, .int .u64 u.a7, .int .u64 v.a0, .int .u64 v.a1, .int .u64 v.a2, .int .u64 v.a3, .int .u64 v.a4, .int .u64 v.a5, .int .u64 v.a6, .int .u64 v.a7], .int .i64 0]) (by simp [results, Tryz.results61, go_sem, e0, e1, e2, e3, e4, e5, e6, e7, e8, e9, e10, e11, e12, e13, e14, e15]) rfl ?_
 exact ⟨rfl, L7⟩
theorem over_any {p N D : Int} (h0 : 0 ≤ p) (h1 : p ≤ 1000000000) (hN : 1 ≤ N) (hN1 : N ≤ 70000000001) (hD : 1 ≤ D) (hD1 : D ≤ 1002) (w : World) : Calls Tryz.prog 61 #[.int .i64 p, .agg (shA N D)] w (ShR w (shA (p * D) N) 0) := by
 have hm := Int.mul_le_mul h1 hD1 (by omega) (by omega)
 have hm0 := Int.mul_nonneg h0 (show 0 ≤ D by omega)
 refine over_gen p (shA p 1) (shA N D) (shA (p * D) N) (shA_good _ _) (shA_good _ _) (shA_good _ _) (fun w => shOfX p 1 w (by omega) (by omega) (by omega) (by omega)) (fun w => ?_) w
 have h := shDivX (a := p) (b := 1) (c := N) (d := D) (fits_small (by omega) (by omega) (by omega) (by omega)) (fits_small (by omega) (by omega) (by omega) (by omega)) (by omega) (by rw [Int.one_mul]; exact fits_small (by omega) (by omega) (by omega) (by omega)) w
 rw [Int.one_mul] at h
 exact h
set_option maxRecDepth 100000 in
set_option maxHeartbeats 4000000 in
theorem shInt_down (u v : W8) (hu : u.ok) (hv : v.ok) (ok1 : ShOk u.toInt v.toInt) (w : World) :
  Calls Tryz.prog 90 #[.agg #[.int .u64 u.a0, .int .u64 u.a1, .int .u64 u.a2, .int .u64 u.a3, .int .u64 u.a4, .int .u64 u.a5, .int .u64 u.a6, .int .u64 u.a7, .int .u64 v.a0, .int .u64 v.a1, .int .u64 v.a2, .int .u64 v.a3, .int .u64 v.a4, .int .u64 v.a5, .int .u64 v.a6, .int .u64 v.a7], .func (.func 91) #[] #[]] w (ToldPost w (u.toInt / v.toInt)) := by
 have HV := shValid_one u v hu hv ok1
 have HR := ratRead_any u v hu hv
 have hd : Hid (v.toInt ≠ 0) := by have := ok1.1; show _ ≠ _; omega
 clear hu hv ok1
 go_enter Tryz.func90, Tryz.ntmps90
 go_wp2_with fail
 refine name3 (Q := fun W => Calls _ _ _ W _) ?_
 intro W hl hs k1 k2 k3
 refine (HV W _ _ _ k3).mono ?_
 rintro e w1 ⟨rfl, h1⟩
 have LA := hl.trans h1
 have E1 : Blk w1 w.heap.size 99 #[.int .u64 u.a0, .int .u64 u.a1, .int .u64 u.a2, .int .u64 u.a3, .int .u64 u.a4, .int .u64 u.a5, .int .u64 u.a6, .int .u64 u.a7, .int .u64 v.a0, .int .u64 v.a1, .int .u64 v.a2, .int .u64 v.a3, .int .u64 v.a4, .int .u64 v.a5, .int .u64 v.a6, .int .u64 v.a7] := k1.later h1
 have E2 := k2.later h1
 clear k1 k2 k3 HV hl h1 hs
 go_wp2_with (refine wpList_get rfl 99 (.tmp 2) (by rfl) w.heap.size (by rfl) E1 _ Tryz.underlying99 rfl shareInfo ?_)
 refine (HR w1).mono ?_
 rintro e w2 ⟨b1, A1, n1, c1, b2, A2, n2, c2, rfl, q1, q2, q3, q4, q5⟩
 have LB := LA.trans q5
 have E2 := E2.later q5
 clear HR E1 LA
 go_wp2_with fail
 refine (ratDown_any b1 A1 n1 c1 _ b2 A2 n2 c2 _ w2 q1 q3 hd.out (by omega) (by omega)).mono ?_
 rintro e w3 ⟨b, A, n, c, rfl, r1, r2, r3⟩
 have LC := LB.trans r3
 have E2 := E2.later r3
 clear LB q1 q3 q5
 go_wp2_with fail
 refine (longTold_any b A n c _ w3 r1 (by omega)).mono ?_
 rintro e w4 ⟨x, r, rfl, t1, t2⟩
 have LD := LC.trans t2
 have I2 := E2.later t2
 have R1 := Lib.hid t1
 clear t1 LC E2 r1 t2
 have c0 := I2.cell 0
 have c1 := I2.cell 1
 have c2 := I2.cell 2
 have c3 := I2.cell 3
 have c4 := I2.cell 4
 have c5 := I2.cell 5
 have c6 := I2.cell 6
 have c7 := I2.cell 7
 have f0 := I2.frozen 0
 have f1 := I2.frozen 1
 have f2 := I2.frozen 2
 have f3 := I2.frozen 3
 have f4 := I2.frozen 4
 have f5 := I2.frozen 5
 have f6 := I2.frozen 6
 have f7 := I2.frozen 7
 go_wp2
 refine bodyPost_ret (v := .tuple #[.agg #[.int .u64 x.a0, .int .u64 x.a1, .int .u64 x.a2, .int .u64 x.a3, .int .u64 x.a4, .int .u64 x.a5, .int .u64 x.a6, .int .u64 x.a7], .int .i64 r]) (by simp [results, Tryz.results90, go_sem, c0, c1, c2, c3, c4, c5, c6, c7]) rfl ?_
 refine ⟨x, r, rfl, R1.out, ?_⟩
 iterate 8 (refine Lat.setCell ?_ (by simp; try omega) _)
 exact LD
set_option maxRecDepth 100000 in
set_option maxHeartbeats 4000000 in
theorem shFloor_ok (u v : W8) (hu : u.ok) (hv : v.ok) (ok1 : ShOk u.toInt v.toInt) (w : World) :
  Calls Tryz.prog 62 #[.agg #[.int .u64 u.a0, .int .u64 u.a1, .int .u64 u.a2, .int .u64 u.a3, .int .u64 u.a4, .int .u64 u.a5, .int .u64 u.a6, .int .u64 u.a7, .int .u64 v.a0, .int .u64 v.a1, .int .u64 v.a2, .int .u64 v.a3, .int .u64 v.a4, .int .u64 v.a5, .int .u64 v.a6, .int .u64 v.a7]] w (ToldPost w (u.toInt / v.toInt)) := by
 have HI := shInt_down u v hu hv ok1
 obtain ⟨z, hz⟩ : ∃ z, u.toInt / v.toInt = z := ⟨_, rfl⟩
 rw [hz] at HI ⊢
 clear hu hv ok1 hz
 go_enter Tryz.func62, Tryz.ntmps62
 go_wp2_with fail
 refine name2 (Q := fun W => Calls _ _ _ W _) ?_
 intro W hl hs k1 k2
 refine (HI W).mono ?_
 rintro e w4 ⟨x, r, rfl, t1, t2⟩
 have LD := hl.trans t2
 have I2 := k2.later t2
 have R1 := Lib.hid t1
 clear t1 k1 k2 t2
 have c0 := I2.cell 0
 have c1 := I2.cell 1
 have c2 := I2.cell 2
 have c3 := I2.cell 3
 have c4 := I2.cell 4
 have c5 := I2.cell 5
 have c6 := I2.cell 6
 have c7 := I2.cell 7
 have f0 := I2.frozen 0
 have f1 := I2.frozen 1
 have f2 := I2.frozen 2
 have f3 := I2.frozen 3
 have f4 := I2.frozen 4
 have f5 := I2.frozen 5
 have f6 := I2.frozen 6
 have f7 := I2.frozen 7
 go_wp2
 refine bodyPost_ret (v := .tuple #[.agg #[.int .u64 x.a0, .int .u64 x.a1, .int .u64 x.a2, .int .u64 x.a3, .int .u64 x.a4, .int .u64 x.a5, .int .u64 x.a6, .int .u64 x.a7], .int .i64 r]) (by simp [results, Tryz.results62, go_sem, c0, c1, c2, c3, c4, c5, c6, c7]) rfl ?_
 refine ⟨x, r, rfl, R1.out, ?_⟩
 iterate 8 (refine Lat.setCell ?_ (by simp; try omega) _)
 exact LD
theorem div_same {p q g x y : Int} (h1 : p * g = x) (h2 : q * g = y) (hg : 0 < g) : p / q = x / y := by
 subst h1 h2
 rw [Int.mul_ediv_mul_of_pos_left _ _ hg]
theorem low_div {x y : Int} (hy : 0 < y) : lowN x y / lowD x y = x / y := div_same (low_mul (x := x) hy).1 (low_mul (x := x) hy).2 (gcd_pos' (x := x) hy)
theorem floorX {a b : Int} (h : Fits a b) (w : World) : Calls Tryz.prog 62 #[.agg (shA a b)] w (fun e w' => e = .returned (.tuple #[.agg #[.int .u64 (W8.of (a / b)).a0, .int .u64 (W8.of (a / b)).a1, .int .u64 (W8.of (a / b)).a2, .int .u64 (W8.of (a / b)).a3, .int .u64 (W8.of (a / b)).a4, .int .u64 (W8.of (a / b)).a5, .int .u64 (W8.of (a / b)).a6, .int .u64 (W8.of (a / b)).a7], .int .i64 0]) ∧ Lat w w') := by
 obtain ⟨k1, k2, k3, k4, k5⟩ := (shV_self a b).facts h
 have := shFloor_ok _ _ k1 k2 k5 w
 rw [k3, k4, low_div h.1] at this
 refine this.mono ?_
 rintro e w' ⟨x, r, rfl, h1, h2⟩
 obtain ⟨hb, f1, f2, f3⟩ := h
 have hP : (0 : Int) < P511 := P511_pos
 have h5 : a / b < P511 := Int.ediv_lt_of_lt_mul hb (by
  have := Int.mul_le_mul_of_nonneg_left (show 1 ≤ b by omega) (show 0 ≤ P511 by omega)
  omega)
 have h6 : -P511 ≤ a / b := (Int.le_ediv_iff_mul_le hb).2 (by
  have := Int.mul_le_mul_of_nonneg_left (show 1 ≤ b by omega) (show 0 ≤ P511 by omega)
  rw [Int.neg_mul]
  omega)
 rcases h1 with ⟨_, _, rfl, rfl⟩ | ⟨h3, _⟩
 ·exact ⟨rfl, h2⟩
 ·omega
theorem rest_any {m N : Int} (h0 : 0 ≤ m) (h1 : m ≤ 2000000000000) (hN : 1 ≤ N) (hN1 : N ≤ 70000000001) (w : World) : Calls Tryz.prog 65 #[.agg (shA m N), .agg (shA (m / N) 1)] w (ShR w (shA (m % N) N) 0) := by
 have hd0 := Int.ediv_nonneg h0 (show 0 ≤ N by omega)
 have hd1 := Int.ediv_le_self N h0
 have he := Int.mul_ediv_add_emod m N
 have hm0 := Int.emod_nonneg m (show N ≠ 0 by omega)
 have hm1 := Int.emod_lt_of_pos m (show 0 < N by omega)
 have e : m * 1 - m / N * N = m % N := by rw [Int.mul_one, Int.mul_comm (m / N)]; omega
 have h := shSubX (a := m) (b := N) (c := m / N) (d := 1) (fits_small (by omega) (by omega) (by omega) (by omega)) (fits_small (by omega) (by omega) (by omega) (by omega)) (by rw [e, Int.mul_one]; exact fits_small (by omega) (by omega) (by omega) (by omega)) w
 rw [e, Int.mul_one] at h
 exact h
end Go.Proofs.YteocdndanehpnaaGreat
namespace Go.Proofs.YteocdndanehpnaaGreat
open Go.RowKit
set_option linter.unusedSimpArgs false
set_option linter.unusedVariables false
set_option maxRecDepth 100000 in
set_option maxHeartbeats 1000000 in
theorem asked_yes (A : Option Addr) (n c : Nat) (xs : List Int) (s k : Int) (w : World) (hs : Sl w .i64 A n xs) (hn : n ≤ 1000) (hc : censusB xs = true) (h1 : 1 ≤ s) (h2 : s ≤ 1000) (h3 : 1 ≤ k) (h4 : k ≤ 4) :
  Calls Tryz.prog 43 #[.slice A n c, .int .i64 s, .int .i64 k] w (fun e w' => e = .returned (.int .i64 0) ∧ Lat w w') := by
 have HC := qCheck_any A n c xs w hs (by omega)
 rw [cenE_yes hc] at HC
 have n1 : ¬ s < 1 := by omega
 have n2 : ¬ 1000 < s := by omega
 have n3 : ¬ k < 1 := by omega
 have n4 : ¬ 4 < k := by omega
 clear hs hc
 go_enter Tryz.func43, Tryz.ntmps43
 go_wp2_with fail
 refine HC.mono ?_
 rintro e w1 ⟨rfl, he⟩
 have l1 : Lat w w1 := he ▸ Lat.refl w
 clear he
 clear HC
 go_wp2
 go_ret
 exact ⟨rfl, l1⟩
end Go.Proofs.YteocdndanehpnaaGreat
