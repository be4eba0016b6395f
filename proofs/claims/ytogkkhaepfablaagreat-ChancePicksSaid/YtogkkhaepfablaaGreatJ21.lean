/- Several texts in one: RefP, RefQ. -/
import Derived.Test.YtogkkhaepfablaaGreatJ20
import Derived.Test.YtogkkhaepfablaaGreatJ11
namespace Go.Proofs.YtogkkhaepfablaaGreat
open Go.RowKit
def whole17 : List Int := [0, 0, 0, 0, 0, 0, 0, 0, 0, 0, 0, 0, 0, 0, 0, 0, 1]
theorem whole17_val : val B32 whole17 = P512 := by decide +kernel
theorem whole17_inr : InR B32 whole17 := by
 intro y hy
 simp [whole17] at hy
 unfold B32
 omega
set_option maxRecDepth 100000 in
set_option maxHeartbeats 2000000 in
theorem rIn_pos (x : W8) (hx : x.ok) (w : World) (h7 : x.a7 < 9223372036854775808) :
  Calls Tryz.prog 49 #[.agg #[.int .u64 x.a0, .int .u64 x.a1, .int .u64 x.a2, .int .u64 x.a3, .int .u64 x.a4, .int .u64 x.a5, .int .u64 x.a6, .int .u64 x.a7]] w (RefPost w x.toInt 17) := by
 have HI : Hid (x.toInt = val B32 (halL x.list)) := by show _ = _; rw [W8.toInt, if_pos h7, halL_val]; rfl
 have HH := halves_any x hx
 have HR := halL_inr hx
 go_enter Tryz.func49, Tryz.ntmps49
 go_wp2_with fail
 refine name2 (Q := fun W => Calls _ _ _ W _) ?_
 intro W hl hs k1 k2
 refine (HH W).mono ?_
 rintro e w1 ⟨A, c, rfl, q1, q2, q3⟩
 have K1 := k1.later q3
 have K2 := k2.later q3
 have d7 := K1.cell 7
 clear k1 k2 K1 HH
 go_wp2_with fail
 refine (made_any false A 16 c w1 _ q1 HR q2 (by omega)).mono ?_
 rintro e w2 ⟨b, A', n, c', rfl, r1, r2, r3⟩
 have K3 := K2.later r3
 have c0 := K3.cell 0
 have c1 := K3.cell 1
 have f0 := K3.frozen 0
 have f1 := K3.frozen 1
 clear d7
 go_wp2
 refine bodyPost_ret (v := .agg #[.bool b, .slice A' n c']) (by simp [results, Tryz.results49, go_sem, c0, c1]) rfl ?_
 have := RefPost.close (N := 17) K3 r1 ((hl.trans q3).trans r3) (by omega) (by omega)
 rw [HI.out]
 exact this
set_option maxRecDepth 100000 in
set_option maxHeartbeats 2000000 in
theorem rIn_neg (x : W8) (hx : x.ok) (w : World) (h7 : 9223372036854775808 ≤ x.a7) :
  Calls Tryz.prog 49 #[.agg #[.int .u64 x.a0, .int .u64 x.a1, .int .u64 x.a2, .int .u64 x.a3, .int .u64 x.a4, .int .u64 x.a5, .int .u64 x.a6, .int .u64 x.a7]] w (RefPost w x.toInt 17) := by
 have HI : Hid (x.toInt = - (P512 - val B32 (halL x.list))) := by show _ = _; rw [W8.toInt, if_neg (by omega), halL_val, W8.mag]; omega
 have HM : Hid (val B32 (halL x.list) < P512) := by show _ < _; rw [halL_val]; exact (W8.mag_bounds hx).2
 have HH := halves_any x hx
 have HR := halL_inr hx
 have hmk : ∀ W, (Instr.makeSlice 71 (.int .i64 17) (.int .i64 17)).run Tryz.prog W = .ok (.slice (some ⟨W.heap.size, 0, none⟩) 17 17) (W.alloc (.cells #[.int .i64 0, .int .i64 0, .int .i64 0, .int .i64 0, .int .i64 0, .int .i64 0, .int .i64 0, .int .i64 0, .int .i64 0, .int .i64 0, .int .i64 0, .int .i64 0, .int .i64 0, .int .i64 0, .int .i64 0, .int .i64 0, .int .i64 0] 3)) := fun W => run_make_nums (P := Tryz.prog) Tryz.underlying71 infoI64 17 17 rfl (by omega) (by omega) W
 go_enter Tryz.func49, Tryz.ntmps49
 go_wp2_with fail
 refine name2 (Q := fun W => Calls _ _ _ W _) ?_
 intro W hl hs k1 k2
 refine (HH W).mono ?_
 rintro e w1 ⟨A, c, rfl, q1, q2, q3⟩
 have K1 := k1.later q3
 have K2 := k2.later q3
 have d7 := K1.cell 7
 clear k1 k2 K1 HH
 go_wp2_with fail
 refine name1 (Q := fun W => Calls _ _ _ W _) ?_
 intro W2 hl2 hs2 kw
 have hw17 : Sl W2 .i64 (some ⟨w1.heap.size, 0, none⟩) 17 whole17 := Sl.of_blk' (t := 3) kw rfl
 have K3 := K2.later hl2
 clear hmk d7 kw K2
 refine (cut_any A 16 c W2 _ (q1.later hl2) q2 (by omega)).mono ?_
 rintro e w2 ⟨m, rfl, u1, u2, u3, u4, u5⟩
 have K4 := K3.later u5
 have U3 := Lib.hid u3
 have hm : m ≤ 16 := by have := q1.1; omega
 clear u3 u4 K3
 go_wp2_with fail
 refine (less_any _ 17 17 whole17 A m c _ w2 (hw17.later u5) u1 whole17_inr (HR.take m) (by omega) (by rw [U3.out, whole17_val]; exact Int.le_of_lt HM.out) (by omega)).mono ?_
 rintro e w3 ⟨A3, n3, c3, zs, rfl, v1, v2, v3, v4, v5, v6, v7, v8⟩
 have V4 : Hid (val B32 zs = P512 - val B32 (halL x.list)) := by show _ = _; rw [v4, U3.out, whole17_val]
 have K5 := K4.later v7
 clear v4 K4
 go_wp2_with fail
 refine (made_any true A3 n3 c3 w3 zs v1 v2 v5 (by omega)).mono ?_
 rintro e w4 ⟨b, A', n, c', rfl, r1, r2, r3⟩
 have K6 := K5.later r3
 have c0 := K6.cell 0
 have c1 := K6.cell 1
 have f0 := K6.frozen 0
 have f1 := K6.frozen 1
 go_wp2
 refine bodyPost_ret (v := .agg #[.bool b, .slice A' n c']) (by simp [results, Tryz.results49, go_sem, c0, c1]) rfl ?_
 have := RefPost.close (N := 17) K6 r1 (((((hl.trans q3).trans hl2).trans u5).trans v7).trans r3) (by omega) (by omega)
 rw [HI.out, ← V4.out]
 exact this
theorem rIn_any (x : W8) (hx : x.ok) (w : World) : Calls Tryz.prog 49 #[.agg #[.int .u64 x.a0, .int .u64 x.a1, .int .u64 x.a2, .int .u64 x.a3, .int .u64 x.a4, .int .u64 x.a5, .int .u64 x.a6, .int .u64 x.a7]] w (RefPost w x.toInt 17) := by
 by_cases h7 : x.a7 < 9223372036854775808
 ·exact rIn_pos x hx w h7
 ·exact rIn_neg x hx w (by omega)
end Go.Proofs.YtogkkhaepfablaaGreat
namespace Go.Proofs.YtogkkhaepfablaaGreat
open Go.RowKit
def limit16 : List Int := [0, 0, 0, 0, 0, 0, 0, 0, 0, 0, 0, 0, 0, 0, 0, 2147483648]
theorem limit16_val : val B32 limit16 = P511 := by decide +kernel
theorem limit16_inr : InR B32 limit16 := by
 intro y hy
 simp [limit16] at hy
 unfold B32
 omega
theorem limit16_nz : Nz limit16 := by simp [Nz, limit16]
theorem B32_16 : B32 ^ 16 = P512 := by decide +kernel
def OutInv (ds : List Int) (k : Nat) (os : List Int) : Prop :=
 os.length = 8 ∧ InR W64 os ∧ val W64 os = val B32 (ds.take k) ∧ (∀ j, (k + 1) / 2 ≤ j → os.getD j 0 = 0) ∧ (k % 2 = 1 → os.getD (k / 2) 0 < 4294967296)
theorem OutInv.start (ds : List Int) : OutInv ds 0 (List.replicate 8 0) := by
 refine ⟨rfl, InR.zeros W64_pos _, by rw [val_zeros]; rfl, fun j _ => ?_, fun h => by omega⟩
 rw [List.getD_eq_getElem?_getD, List.getElem?_replicate]
 split <;> rfl
theorem B32_even (q : Nat) : B32 ^ (2 * q) = W64 ^ q := by
 rw [Int.pow_mul]; congr 1
theorem OutInv.even {ds os : List Int} {q : Nat} {d : Int} (h : OutInv ds (2 * q) os) (hq : q < 8) (hd : ds.getD (2 * q) 0 = d) (rd : 0 ≤ d ∧ d < 4294967296) :
  os[q]? = some 0 ∧ OutInv ds (2 * q + 1) (os.set q (0 + d)) := by
 obtain ⟨hl, hr, hv, hz, _⟩ := h
 have hoz := hz q (by omega)
 have ho : os[q]? = some 0 := by
  rw [List.getD_eq_getElem?_getD, List.getElem?_eq_getElem (by omega)] at hoz
  rw [List.getElem?_eq_getElem (by omega)]
  simpa using hoz
 refine ⟨ho, by simpa using hl, hr.set q (by unfold W64; omega), ?_, fun j hj => ?_, fun _ => ?_⟩
 ·rw [val_set _ _ _ _ (by omega), hoz, hv, val_take_succ, hd, B32_even]
  congr 2; omega
 ·rw [List.getD_eq_getElem?_getD, List.getElem?_set_ne (by omega), ← List.getD_eq_getElem?_getD]
  exact hz j (by omega)
 ·rw [show (2 * q + 1) / 2 = q by omega, List.getD_eq_getElem?_getD, List.getElem?_set_self (by omega)]
  simp; omega
theorem OutInv.odd {ds os : List Int} {q : Nat} {d o : Int} (h : OutInv ds (2 * q + 1) os) (hq : q < 8) (hd : ds.getD (2 * q + 1) 0 = d) (rd : 0 ≤ d ∧ d < 4294967296) (ho : os[q]? = some o) :
  (0 ≤ o ∧ o < 4294967296) ∧ OutInv ds (2 * q + 2) (os.set q (o + d * 4294967296)) := by
 obtain ⟨hl, hr, hv, hz, hlt⟩ := h
 have hgo : os.getD q 0 = o := by rw [List.getD_eq_getElem?_getD, ho]; rfl
 have h1 := hlt (by omega)
 rw [show (2 * q + 1) / 2 = q by omega, hgo] at h1
 have h0 := (hr.at ho).1
 refine ⟨⟨h0, h1⟩, by simpa using hl, hr.set q (by unfold W64; omega), ?_, fun j hj => ?_, fun h => by omega⟩
 ·rw [val_set _ _ _ _ (by omega), hgo, hv, val_take_succ B32 ds (2 * q + 1), hd, pw_succ, B32_even]
  have : B32 = 4294967296 := rfl
  rw [this]
  generalize W64 ^ q = p
  grind
 ·rw [List.getD_eq_getElem?_getD, List.getElem?_set_ne (by omega), ← List.getD_eq_getElem?_getD]
  exact hz j (by omega)
theorem OutInv.done {ds os : List Int} {n : Nat} (h : OutInv ds n os) (hn : ds.length ≤ n) : ∃ u : W8, u.ok ∧ u.list = os ∧ u.mag = val B32 ds := by
 obtain ⟨hl, hr, hv, _, _⟩ := h
 rw [List.take_of_length_le hn] at hv
 have e : (W8.ofList os).list = os := by rw [W8.ofList_list (by omega), hl]; simp
 exact ⟨W8.ofList os, W8.ofList_ok (by omega) hr, e, by rw [W8.ofList_mag (by omega), hv]⟩
theorem dig_len {ds : List Int} (hr : InR B32 ds) (hz : Nz ds) (h : val B32 ds < P512) : ds.length ≤ 16 := by
 rcases Nat.lt_or_ge 16 ds.length with hlt | hge
 ·have h1 := val_ge B32_pos hr hz (by intro e; rw [e] at hlt; simp at hlt)
  have h2 : B32 ^ 16 ≤ B32 ^ (ds.length - 1) := pw_le B32_pos (by omega)
  rw [B32_16] at h2
  omega
 ·exact hge
theorem toldPost_is {w w' : World} {z Z : Int} {u : W8} (h0 : -P511 ≤ z) (h1 : z < P511) (hu : u.ok) (hm : u.mag = Z) (hZ : Z = z % P512) (hL : Lat w w') : ToldPost w z (.returned (.tuple #[.agg #[.int .u64 u.a0, .int .u64 u.a1, .int .u64 u.a2, .int .u64 u.a3, .int .u64 u.a4, .int .u64 u.a5, .int .u64 u.a6, .int .u64 u.a7], .int .i64 0])) w' :=
 ⟨u, 0, rfl, .inl ⟨h0, h1, W8.mag_inj hu (W8.of_ok z) (by rw [hm, hZ, W8.of_mag]), rfl⟩, hL⟩
end Go.Proofs.YtogkkhaepfablaaGreat
