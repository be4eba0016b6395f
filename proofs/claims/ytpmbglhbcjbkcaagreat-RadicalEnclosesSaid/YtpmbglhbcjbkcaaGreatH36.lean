/- Several texts in one: RdEs. -/
import Derived.Test.YtpmbglhbcjbkcaaGreatH35
import Derived.Test.YtpmbglhbcjbkcaaGreatH30
namespace Go.Proofs.YtpmbglhbcjbkcaaGreat
set_option maxHeartbeats 16000000
set_option maxRecDepth 100000
open Go.RowKit
set_option linter.unusedSimpArgs false
set_option linter.unusedVariables false
theorem zhE (T : Array Value) (h : T.size = 44) : ∃ f : Nat → Value, (∀ k, f k = T.getD k undef) ∧ T = #[f 0, f 1, f 2, f 3, f 4, f 5, f 6, f 7, f 8, f 9, f 10, f 11, f 12, f 13, f 14, f 15, f 16, f 17, f 18, f 19, f 20, f 21, f 22, f 23, f 24, f 25, f 26, f 27, f 28, f 29, f 30, f 31, f 32, f 33, f 34, f 35, f 36, f 37, f 38, f 39, f 40, f 41, f 42, f 43] := ⟨fun k => T.getD k undef, fun _ => rfl, (spell 44 T h).trans (by kernel_rfl)⟩
noncomputable def zf1 (g10 g11 : Nat) (bd : Bool) (Ad : Option Addr) (nd cd : Nat) (bu : Bool) (Au : Option Addr) (nu cu : Nat) (x y : Int) (N : Nat) : List SRow := [
 ⟨.load 88 (.tmp 11), some 31, none, [], fun v _ => v = .agg #[.bool bu, .slice Au nu cu]⟩,
 ⟨.call { callee := .value (.func 79), args := #[.tmp 31], argTypes := #[88] }, some 32, none, [0], GV (-y) N⟩,
 ⟨.load 88 (.tmp 10), some 33, none, [], fun v _ => v = .agg #[.bool bd, .slice Ad nd cd]⟩,
 ⟨.call { callee := .value (.func 79), args := #[.tmp 33], argTypes := #[88] }, some 34, none, [2, 1], GV (-x) N⟩]
noncomputable def ziu (g10 g11 : Nat) (bd : Bool) (Ad : Option Addr) (nd cd : Nat) (bu : Bool) (Au : Option Addr) (nu cu : Nat) (x y : Int) (N : Nat) (v0 v1 v2 v3 v4 v5 v6 v7 v8 v9 v12 v13 v14 v15 v16 v17 v18 v42 v43 : Value) : List (Nat × Value) := [(10, .pointer (some ⟨g10, 0, none⟩)), (11, .pointer (some ⟨g11, 0, none⟩)), (0, v0), (1, v1), (2, v2), (3, v3), (4, v4), (5, v5), (6, v6), (7, v7), (8, v8), (9, v9), (12, v12), (13, v13), (14, v14), (15, v15), (16, v16), (17, v17), (18, v18), (42, v42), (43, v43)]
theorem zkV (V : World) (g10 g11 : Nat) (bd : Bool) (Ad : Option Addr) (nd cd : Nat) (bu : Bool) (Au : Option Addr) (nu cu : Nat) (x y : Int) (N : Nat) (v0 v1 v2 v3 v4 v5 v6 v7 v8 v9 v12 v13 v14 v15 v16 v17 v18 v42 v43 : Value) (RD : ∀ w', Lat V w' → w'.rangeAt g10 0 [.bool bd, .slice Ad nd cd]) (RU : ∀ w', Lat V w' → w'.rangeAt g11 0 [.bool bu, .slice Au nu cu]) (J2 : (Tryz.prog.info? 88).map (·.size) = some 2)
  (HTU : ∀ w, Lat V w → Calls Tryz.prog 79 #[.agg #[.bool bu, .slice Au nu cu]] w (LongPost w (-y) N)) (HTD : ∀ w, Lat V w → Calls Tryz.prog 79 #[.agg #[.bool bd, .slice Ad nd cd]] w (LongPost w (-x) N)) :
  AllSteps Tryz.prog (zf1 g10 g11 bd Ad nd cd bu Au nu cu x y N) (ziu g10 g11 bd Ad nd cd bu Au nu cu x y N v0 v1 v2 v3 v4 v5 v6 v7 v8 v9 v12 v13 v14 v15 v16 v17 v18 v42 v43) V (zf1 g10 g11 bd Ad nd cd bu Au nu cu x y N) := by
 refine nS ?_ fun a w hl hb hd o ho => by have e1 := hb 11 _ rfl; exact Runs.val (zah (S := Lat V) e1 RU Tryz.underlying88 rfl J2 o w ho hl) ⟨Lat.refl _, fun _ => rfl⟩
 refine nS ?_ fun a w hl hb hd o ho => by obtain ⟨_, e1, rfl⟩ := hd 0 _ _ (by simp) rfl rfl; exact Runs.call (zan (f := 79) (fun _ => by go_simp) o ho (by simp only [List.map_toArray, List.map_cons, List.map_nil, eval_const, e1])) ((HTU w hl).mono fun e w' h => h.run)
 refine nS ?_ fun a w hl hb hd o ho => by have e1 := hb 10 _ rfl; exact Runs.val (zah (S := Lat V) e1 RD Tryz.underlying88 rfl J2 o w ho hl) ⟨Lat.refl _, fun _ => rfl⟩
 refine nS ?_ fun a w hl hb hd o ho => by obtain ⟨_, e1, rfl⟩ := hd 2 _ _ (by simp) rfl rfl; exact Runs.call (zan (f := 79) (fun _ => by go_simp) o ho (by simp only [List.map_toArray, List.map_cons, List.map_nil, eval_const, e1])) ((HTD w hl).mono fun e w' h => h.run)
 exact AllSteps.none
noncomputable def zdd (g4 g5 g10 g11 : Nat) (bl : Bool) (Al : Option Addr) (nl cl : Nat) (bh : Bool) (Ah : Option Addr) (nh ch : Nat) (bd : Bool) (Ad : Option Addr) (nd cd : Nat) (bu : Bool) (Au : Option Addr) (nu cu : Nat) (zl zh x y : Int) (N : Nat) : List SRow := [
 ⟨.load 88 (.tmp 4), some 35, none, [], fun v _ => v = .agg #[.bool bl, .slice Al nl cl]⟩,
 ⟨.load 88 (.tmp 10), some 36, none, [], fun v _ => v = .agg #[.bool bd, .slice Ad nd cd]⟩,
 ⟨.call { callee := .value (.func 61), args := #[.tmp 35, .tmp 36], argTypes := #[88, 88] }, some 37, none, [0, 1], GV (zl + x) N⟩,
 ⟨.load 88 (.tmp 5), some 38, none, [], fun v _ => v = .agg #[.bool bh, .slice Ah nh ch]⟩,
 ⟨.load 88 (.tmp 11), some 39, none, [], fun v _ => v = .agg #[.bool bu, .slice Au nu cu]⟩,
 ⟨.call { callee := .value (.func 61), args := #[.tmp 38, .tmp 39], argTypes := #[88, 88] }, some 40, none, [3, 4, 2], GV (zh + y) N⟩]
noncomputable def zes (g4 g5 g10 g11 : Nat) (bl : Bool) (Al : Option Addr) (nl cl : Nat) (bh : Bool) (Ah : Option Addr) (nh ch : Nat) (bd : Bool) (Ad : Option Addr) (nd cd : Nat) (bu : Bool) (Au : Option Addr) (nu cu : Nat) (zl zh x y : Int) (N : Nat) (v0 v1 v2 v3 v6 v7 v8 v9 v12 v13 v14 v15 v16 v17 v18 v42 v43 : Value) : List (Nat × Value) := [(4, .pointer (some ⟨g4, 0, none⟩)), (5, .pointer (some ⟨g5, 0, none⟩)), (10, .pointer (some ⟨g10, 0, none⟩)), (11, .pointer (some ⟨g11, 0, none⟩)), (0, v0), (1, v1), (2, v2), (3, v3), (6, v6), (7, v7), (8, v8), (9, v9), (12, v12), (13, v13), (14, v14), (15, v15), (16, v16), (17, v17), (18, v18), (42, v42), (43, v43)]
theorem zfm (V : World) (g4 g5 g10 g11 : Nat) (bl : Bool) (Al : Option Addr) (nl cl : Nat) (bh : Bool) (Ah : Option Addr) (nh ch : Nat) (bd : Bool) (Ad : Option Addr) (nd cd : Nat) (bu : Bool) (Au : Option Addr) (nu cu : Nat) (zl zh x y : Int) (N : Nat) (v0 v1 v2 v3 v6 v7 v8 v9 v12 v13 v14 v15 v16 v17 v18 v42 v43 : Value) (RL : ∀ w', Lat V w' → w'.rangeAt g4 0 [.bool bl, .slice Al nl cl]) (RH : ∀ w', Lat V w' → w'.rangeAt g5 0 [.bool bh, .slice Ah nh ch]) (RD : ∀ w', Lat V w' → w'.rangeAt g10 0 [.bool bd, .slice Ad nd cd]) (RU : ∀ w', Lat V w' → w'.rangeAt g11 0 [.bool bu, .slice Au nu cu]) (J2 : (Tryz.prog.info? 88).map (·.size) = some 2)
  (HPL : ∀ w, Lat V w → Calls Tryz.prog 61 #[.agg #[.bool bl, .slice Al nl cl], .agg #[.bool bd, .slice Ad nd cd]] w (LongPost w (zl + x) N)) (HPH : ∀ w, Lat V w → Calls Tryz.prog 61 #[.agg #[.bool bh, .slice Ah nh ch], .agg #[.bool bu, .slice Au nu cu]] w (LongPost w (zh + y) N)) :
  AllSteps Tryz.prog (zdd g4 g5 g10 g11 bl Al nl cl bh Ah nh ch bd Ad nd cd bu Au nu cu zl zh x y N) (zes g4 g5 g10 g11 bl Al nl cl bh Ah nh ch bd Ad nd cd bu Au nu cu zl zh x y N v0 v1 v2 v3 v6 v7 v8 v9 v12 v13 v14 v15 v16 v17 v18 v42 v43) V (zdd g4 g5 g10 g11 bl Al nl cl bh Ah nh ch bd Ad nd cd bu Au nu cu zl zh x y N) := by
 refine nS ?_ fun a w hl hb hd o ho => by have e1 := hb 4 _ rfl; exact Runs.val (zah (S := Lat V) e1 RL Tryz.underlying88 rfl J2 o w ho hl) ⟨Lat.refl _, fun _ => rfl⟩
 refine nS ?_ fun a w hl hb hd o ho => by have e1 := hb 10 _ rfl; exact Runs.val (zah (S := Lat V) e1 RD Tryz.underlying88 rfl J2 o w ho hl) ⟨Lat.refl _, fun _ => rfl⟩
 refine nS ?_ fun a w hl hb hd o ho => by obtain ⟨_, e1, rfl⟩ := hd 0 _ _ (by simp) rfl rfl; obtain ⟨_, e2, rfl⟩ := hd 1 _ _ (by simp) rfl rfl; exact Runs.call (zan (f := 61) (fun _ => by go_simp) o ho (by simp only [List.map_toArray, List.map_cons, List.map_nil, eval_const, e1, e2])) ((HPL w hl).mono fun e w' h => h.run)
 refine nS ?_ fun a w hl hb hd o ho => by have e1 := hb 5 _ rfl; exact Runs.val (zah (S := Lat V) e1 RH Tryz.underlying88 rfl J2 o w ho hl) ⟨Lat.refl _, fun _ => rfl⟩
 refine nS ?_ fun a w hl hb hd o ho => by have e1 := hb 11 _ rfl; exact Runs.val (zah (S := Lat V) e1 RU Tryz.underlying88 rfl J2 o w ho hl) ⟨Lat.refl _, fun _ => rfl⟩
 refine nS ?_ fun a w hl hb hd o ho => by obtain ⟨_, e1, rfl⟩ := hd 3 _ _ (by simp) rfl rfl; obtain ⟨_, e2, rfl⟩ := hd 4 _ _ (by simp) rfl rfl; exact Runs.call (zan (f := 61) (fun _ => by go_simp) o ho (by simp only [List.map_toArray, List.map_cons, List.map_nil, eval_const, e1, e2])) ((HPH w hl).mono fun e w' h => h.run)
 exact AllSteps.none
theorem ziv (A : Option Addr) (n c : Nat) (l : List (Int × Int)) (k : Nat) (w : World) (hs : RowM w A 2 n (zab l)) (hv : ∀ x ∈ l, (-9223372036854775808 ≤ x.1 ∧ x.1 < 9223372036854775808) ∧ 0 ≤ x.2 ∧ x.2 < 9223372036854775808) (hn : n ≤ 1000) (hk : k ≤ 1000) :
  Calls Tryz.prog 33 #[.slice A n c, .int .i64 (k : Nat)] w (PartsPost w (sLo l k) (sHi l k) 11000 11000) := by
 have hlen : l.length = n := by have := hs.1; rwa [zam] at this
 have HS := Lib.hid hs
 have HV := Lib.hid hv
 have HN := Lib.hid hn
 have HK := Lib.hid hk
 have HLEN := Lib.hid hlen
 have HF0 := fun w => zaY 0 (by decide) (by decide) w
 have HF1 := fun w => zaY 1 (by decide) (by decide) w
 clear hs hv hn hk hlen
 go_enter Tryz.func33, Tryz.ntmps33
 go_upto_region 1 with (fail)
 refine za0 (Q := fun W => Code.wp _ _ _ _ W) ?_
 intro W hl hsz k3 k4 k5
 obtain ⟨g5, hg5⟩ : ∃ z, w.heap.size + 1 + 1 = z := ⟨_, rfl⟩
 obtain ⟨g4, hg4⟩ : ∃ z, w.heap.size + 1 = z := ⟨_, rfl⟩
 obtain ⟨g3, hg3⟩ : ∃ z, w.heap.size = z := ⟨_, rfl⟩
 have HG : Hid (g3 < g4 ∧ g4 < g5 ∧ w.heap.size = g3) := by show g3 < g4 ∧ g4 < g5 ∧ w.heap.size = g3; omega
 rw [hg5] at k5 ⊢
 rw [hg4] at k4 ⊢
 rw [hg3] at k3 ⊢
 clear hg5 hg4 hg3 hsz
 go_wp2_with fail
 refine (HF0 W).mono ?_
 rintro e w1 ⟨bL, AL, nL, cL, rfl, rL, mL, l1⟩
 replace k3 := k3.later l1
 replace k4 := k4.later l1
 replace k5 := k5.later l1
 have L1 := hl.trans l1
 clear hl l1
 go_wp2_with fail
 refine (HF0 w1).mono ?_
 rintro e w2 ⟨bH, AH, nH, cH, rfl, rH, mH, l2⟩
 replace k3 := k3.later l2
 replace k4 := k4.later l2
 replace k5 := k5.later l2
 replace L1 := L1.trans l2
 replace rL := rL.later l2
 clear l2 HF0
 have f0 := k4.frozen 0
 have f1 := k4.frozen 1
 have d0 := k4.cell 0
 have d1 := k4.cell 1
 have hlt := k4.lt
 have q0 := k5.frozen 0
 have q1 := k5.frozen 1
 have q2 := k5.cell 0
 have q3 := k5.cell 1
 have hlt5 := k5.lt
 have ne1 : ¬ g4 = g5 := by have := HG.out; omega
 have ne2 : ¬ g5 = g4 := by have := HG.out; omega
 go_upto_region 2 with (fail)
 refine za6 (Q := fun W => Code.wp _ _ _ _ ((W.setCell ⟨g5, 0, none⟩ (.bool bH)).setCell ⟨g5, 1, none⟩ (.slice AH nH cH))) k4 ?_
 intro w3 j4 l3 hr3
 replace k3 := k3.keepP l3 (by have := HG.out; omega)
 replace k5 := k5.keepP l3 (by have := HG.out; omega)
 replace L1 := l3.narrow L1 (by have := HG.out; omega)
 replace rL := hr3 rL
 replace rH := hr3 rH
 refine za6 (Q := fun W => Code.wp _ _ _ _ W) k5 ?_
 intro w4 j5 l4 hr4
 replace k3 := k3.keepP l4 (by have := HG.out; omega)
 replace k4 := j4.keepP l4 (by have := HG.out; omega)
 obtain ⟨k5, _⟩ := (⟨j5, trivial⟩ : ∃ _ : Blk w4 g5 88 #[.bool bH, .slice AH nH cH], True)
 replace L1 := l4.narrow L1 (by have := HG.out; omega)
 replace rL := hr4 rL
 replace rH := hr4 rH
 clear l3 l4 hr3 hr4 j4 j5 f0 f1 d0 d1 hlt q0 q1 q2 q3 hlt5 ne1 ne2
 go_wp2_with fail
 refine (HF1 w4).mono ?_
 rintro e w5 ⟨b6, A6, n6, c6, rfl, r6, m6, l5⟩
 replace k3 := k3.later l5
 replace k4 := k4.later l5
 replace k5 := k5.later l5
 replace L1 := L1.trans l5
 replace rL := rL.later l5
 replace rH := rH.later l5
 clear l5 HF1
 go_upto_region 3 with (fail)
 refine zas (Q := fun W => Code.wp _ _ _ _ W) ?_
 intro w6 l6 hs6 k6
 obtain ⟨g6, hg6⟩ : ∃ z, w5.heap.size = z := ⟨_, rfl⟩
 have HG6 : Hid (g5 < g6) := by have := k5.lt; show g5 < g6; omega
 rw [hg6] at k6 ⊢
 replace k3 := k3.later l6
 replace k4 := k4.later l6
 replace k5 := k5.later l6
 replace L1 := L1.trans l6
 replace rL := rL.later l6
 replace rH := rH.later l6
 replace r6 := r6.later l6
 have M6 := Lib.hid m6
 have ML : Hid (nL ≤ 9010 + 0) := by show nL ≤ 9010 + 0; omega
 have MH : Hid (nH ≤ 9010 + 0) := by show nH ≤ 9010 + 0; omega
 clear l6 hs6 hg6 m6 mL mH
 go_wp2_with fail
 go_loopw [18] (fun iv wr => ∃ (j : Nat) (bL : Bool) (AL : Option Addr) (nL cL : Nat) (bH : Bool) (AH : Option Addr) (nH cH : Nat), iv = .int .i64 (j : Nat) ∧ Hid (j ≤ n) ∧ Lg wr bL AL nL cL (sLo (l.take j) k) ∧ Hid (nL ≤ 9010 + j) ∧ Lg wr bH AH nH cH (sHi (l.take j) k) ∧ Hid (nH ≤ 9010 + j) ∧
  Blk wr g3 3 #[.int .i64 (k : Nat)] ∧ Blk wr g4 88 #[.bool bL, .slice AL nL cL] ∧ Blk wr g5 88 #[.bool bH, .slice AH nH cH] ∧ Blk wr g6 88 #[.bool b6, .slice A6 n6 c6] ∧ Lg wr b6 A6 n6 c6 1 ∧ Lat w wr) (fun iv _ => n - (RowKit.intOf iv).toNat)
 case atStart => exact ⟨0, bL, AL, nL, cL, bH, AH, nH, cH, rfl, Nat.zero_le _, rL, ML, rH, MH, k3, k4, k5, k6, r6, L1⟩
 case round =>
  clear rL ML rH MH k3 k4 k5 k6 r6 L1
  obtain ⟨j, bL, AL, nL, cL, bH, AH, nH, cH, rfl, hj, rL, ML, rH, MH, k3, k4, k5, k6, r6, L1⟩ := hrel
  by_cases hjn : j < n
  ·obtain ⟨gg, oo, x, rfl, hgg, hx, c0, c1⟩ := zaL (HS.out.later L1) hjn
   have hxv := HV.out x (List.mem_of_getElem? hx)
   have hT1 : sLo (l.take (j + 1)) k = sLo (l.take j) k + eLo x k := by
    obtain ⟨h1, h2⟩ := List.getElem?_eq_some_iff.1 hx
    rw [List.take_succ_eq_append_getElem h1, h2, ziq]
   have hT2 : sHi (l.take (j + 1)) k = sHi (l.take j) k + eHi x k := by
    obtain ⟨h1, h2⟩ := List.getElem?_eq_some_iff.1 hx
    rw [List.take_succ_eq_append_getElem h1, h2, zir]
   have HT1 := Lib.hid hT1
   have HT2 := Lib.hid hT2
   have HXV := Lib.hid hxv
   have HJN := Lib.hid hjn
   have hjI : (j : Int) < (n : Int) := by omega
   have hj0 : (0 : Int) ≤ (j : Int) := by omega
   have wj : wrap64 ((j : Int) + 1) = (j : Int) + 1 := IntWalk.wrap64_in _ ⟨by omega, by have := HN.out; omega⟩
   clear hT1 hT2 hxv hx hgg hj
   go_upto_region 7 with (fail)
   refine zas (Q := fun W => Code.wp _ _ _ _ W) ?_
   intro X1 la hsx k9
   obtain ⟨g9, hg9⟩ : ∃ z, wr.heap.size = z := ⟨_, rfl⟩
   have HG9 : Hid (g6 < g9) := by have := k6.lt; show g6 < g9; omega
   rw [hg9] at k9 ⊢
   replace k3 := k3.later la
   replace k4 := k4.later la
   replace k5 := k5.later la
   replace k6 := k6.later la
   replace rL := rL.later la
   replace rH := rH.later la
   replace r6 := r6.later la
   replace L1 := L1.trans la
   have d0 := k9.cell 0
   have d1 := k9.cell 1
   clear la hsx hg9 c0 c1 hjn
   have HEN := znC x.1 x.2 k g3 g6 b6 A6 n6 c6 X1 k3 k6 r6 M6.out HXV.out.1.1 HXV.out.1.2 HXV.out.2.1 HXV.out.2.2 HK.out
   go_wp2_with fail
   refine HEN.mono ?_
   rintro e X2 ⟨bD, AD, nD, cD, bU, AU, nU, cU, rfl, rD, mD, rU, mU, la⟩
   replace k3 := k3.later la
   replace k4 := k4.later la
   replace k5 := k5.later la
   replace k6 := k6.later la
   replace k9 := k9.later la
   replace rL := rL.later la
   replace rH := rH.later la
   replace r6 := r6.later la
   replace L1 := L1.trans la
   clear la d0 d1 HEN
   go_upto_region 8 with (fail)
   refine zaK (Q := fun W => Code.wp _ _ _ _ W) ?_
   intro X3 la hsx k10 k11
   obtain ⟨g11, hg11⟩ : ∃ z, X2.heap.size + 1 = z := ⟨_, rfl⟩
   obtain ⟨g10, hg10⟩ : ∃ z, X2.heap.size = z := ⟨_, rfl⟩
   have HG2 : Hid (g9 < g10 ∧ g10 < g11) := by have := k9.lt; show g9 < g10 ∧ g10 < g11; omega
   rw [hg11] at k11 ⊢
   rw [hg10] at k10 ⊢
   replace k3 := k3.later la
   replace k4 := k4.later la
   replace k5 := k5.later la
   replace k6 := k6.later la
   replace k9 := k9.later la
   replace rL := rL.later la
   replace rH := rH.later la
   replace r6 := r6.later la
   replace rD := rD.later la
   replace rU := rU.later la
   replace L1 := L1.trans la
   have ex : (x.1, x.2) = x := rfl
   rw [ex] at rD rU
   clear la hsx hg11 hg10 ex
   have MD := Lib.hid mD
   have MU := Lib.hid mU
   clear mD mU
   have d0 := k9.cell 0
   have J2 : (Tryz.prog.info? 88).map (·.size) = some 2 := by kernel_rfl
   by_cases ht : x.1 < 0
   ·have hE1 : eLo x k = -(eUp x k) := by unfold eLo; rw [if_pos ht]
    have hE2 : eHi x k = -(eDn x k) := by unfold eHi; rw [if_pos ht]
    have HE := Lib.hid (And.intro hE1 hE2)
    clear hE1 hE2
    go_upto_region 9 with (fail)
    clear d0 ht
    obtain ⟨X0, rfl⟩ : ∃ z, z = X3 := ⟨_, rfl⟩
    obtain ⟨N, hN⟩ : ∃ z, 9010 = z := ⟨_, rfl⟩
    have RD : ∀ w', Lat X0 w' → w'.rangeAt g10 0 [.bool bD, .slice AD nD cD] := fun w' hl => (k10.later hl).rangeAll
    have RU : ∀ w', Lat X0 w' → w'.rangeAt g11 0 [.bool bU, .slice AU nU cU] := fun w' hl => (k11.later hl).rangeAll
    have HTU := fun (w : World) (hl : Lat X0 w) => (zbU bU AU nU cU (eUp x k) w (rU.later hl) (by have := MU.out; omega)).mono fun _ _ h => h.le (M := N) (by have := MU.out; omega)
    have HTD := fun (w : World) (hl : Lat X0 w) => (zbU bD AD nD cD (eDn x k) w (rD.later hl) (by have := MD.out; omega)).mono fun _ _ h => h.le (M := N) (by have := MD.out; omega)
    rename_i KN hKN
    refine zau (zf1 g10 g11 bD AD nD cD bU AU nU cU (eDn x k) (eUp x k) N) (ziu g10 g11 bD AD nD cD bU AU nU cU (eDn x k) (eUp x k) N _ _ _ _ _ _ _ _ _ _ _ _ _ _ _ _ _ _ _) 44 4 [[], [0], [], [2, 1], [1, 3, 0, 1, 2], [3, 4, 0, 1, 2, 3, 4]] (by kernel_rfl) _ rfl rfl _ rfl rfl (by kernel_rfl) (by kernel_rfl) (by kernel_rfl) (by kernel_rfl) (by kernel_rfl) (by kernel_rfl) (by kernel_rfl) (by rfl) rfl (base_of (by repeat (first | exact base_nil _ | refine zad rfl ?_))) (zkV X0 g10 g11 bD AD nD cD bU AU nU cU (eDn x k) (eUp x k) N _ _ _ _ _ _ _ _ _ _ _ _ _ _ _ _ _ _ _ RD RU J2 HTU HTD) ?_
    intro a9 W9 hsz9 hdf9 hL9 hbs hsl
    obtain ⟨v8, h8, q8⟩ := hsl 1 _ _ rfl rfl
    obtain ⟨p0, pA, pn, pc, rfl, rp, mp⟩ := (show GV _ _ v8 W9 from q8)
    have K8 := k10.later hL9
    obtain ⟨v9, h9, q9⟩ := hsl 3 _ _ rfl rfl
    obtain ⟨q0, qA, qn, qc, rfl, rq, mq⟩ := (show GV _ _ v9 W9 from q9)
    have K9 := k11.later hL9
    refine wp_store_mid 88 (.tmp 10) (.tmp 32) rfl g10 0 #[.bool p0, .slice pA pn pc] (hbs 10 _ rfl).ev h8.ev (K8.thereAll _ rfl) (by kernel_rfl) (by simp [Value.oneCell']) ?_
    refine zaE (Q := fun W => Oper.wp _ _ _ W _ _) K8 rfl (by simp [zbJ]) (fun V8 i8 l8 kw8 => ?_)
    replace K9 := K9.keepP l8 (by have := HG2.out; omega)
    refine wp_store_mid 88 (.tmp 11) (.tmp 34) rfl g11 0 #[.bool q0, .slice qA qn qc] (hbs 11 _ rfl).ev h9.ev (K9.thereAll _ rfl) (by kernel_rfl) (by simp [Value.oneCell']) ?_
    refine hKN _ _ ?_
    refine zaE (Q := fun W => Code.wp _ _ _ _ W) K9 rfl (by simp [zbJ]) (fun V9 i9 l9 kw9 => ?_)
    obtain ⟨T9, df9⟩ := a9
    obtain rfl : df9 = [] := hdf9
    obtain ⟨f, hf, rfl⟩ := zhE T9 hsz9
    have X9 := fun k v h => (hf k).trans (zaa (hbs k v h))
    clear hbs hsl hf hsz9 hKN h8 h9 K8 K9
    simp only [Act.put, X9 10 _ rfl, X9 11 _ rfl, X9 0 _ rfl, X9 1 _ rfl, X9 2 _ rfl, X9 3 _ rfl, X9 4 _ rfl, X9 5 _ rfl, X9 6 _ rfl, X9 7 _ rfl, X9 8 _ rfl, X9 9 _ rfl, X9 12 _ rfl, X9 13 _ rfl, X9 14 _ rfl, X9 15 _ rfl, X9 16 _ rfl, X9 17 _ rfl, X9 18 _ rfl, X9 42 _ rfl, X9 43 _ rfl]
    clear X9
    replace k3 := ((k3.later hL9).keepP l8 (by have := HG.out; have := HG6.out; have := HG9.out; have := HG2.out; omega)).keepP l9 (by have := HG.out; have := HG6.out; have := HG9.out; have := HG2.out; omega)
    replace k4 := ((k4.later hL9).keepP l8 (by have := HG.out; have := HG6.out; have := HG9.out; have := HG2.out; omega)).keepP l9 (by have := HG.out; have := HG6.out; have := HG9.out; have := HG2.out; omega)
    replace k5 := ((k5.later hL9).keepP l8 (by have := HG.out; have := HG6.out; have := HG9.out; have := HG2.out; omega)).keepP l9 (by have := HG.out; have := HG6.out; have := HG9.out; have := HG2.out; omega)
    replace k6 := ((k6.later hL9).keepP l8 (by have := HG.out; have := HG6.out; have := HG9.out; have := HG2.out; omega)).keepP l9 (by have := HG.out; have := HG6.out; have := HG9.out; have := HG2.out; omega)
    replace rL := ((rL.later hL9).keepW kw8).keepW kw9
    replace rH := ((rH.later hL9).keepW kw8).keepW kw9
    replace r6 := ((r6.later hL9).keepW kw8).keepW kw9
    replace rp := (rp.keepW kw8).keepW kw9
    replace rq := (rq.keepW kw8).keepW kw9
    replace L1 := l9.narrow (l8.narrow (L1.trans hL9) (by have := HG.out; have := HG6.out; have := HG9.out; have := HG2.out; omega)) (by have := HG.out; have := HG6.out; have := HG9.out; have := HG2.out; omega)
    replace k10 := i8.keepP l9 (by have := HG.out; have := HG6.out; have := HG9.out; have := HG2.out; omega)
    replace k11 := i9
    rw [← HE.out.1] at rp
    rw [← HE.out.2] at rq
    have MP : Hid (pn ≤ 9010) := by show pn ≤ 9010; omega
    have MQ : Hid (qn ≤ 9010) := by show qn ≤ 9010; omega
    obtain ⟨X4, rfl⟩ : ∃ z, z = V9 := ⟨_, rfl⟩
    clear hL9 i8 i9 l8 l9 kw8 kw9 RD RU HTU HTD mp mq hN rD rU HE
    go_upto_region 10 with (fail)
    have RL : ∀ w', Lat X4 w' → w'.rangeAt g4 0 [.bool bL, .slice AL nL cL] := fun w' hl => (k4.later hl).rangeAll
    have RH : ∀ w', Lat X4 w' → w'.rangeAt g5 0 [.bool bH, .slice AH nH cH] := fun w' hl => (k5.later hl).rangeAll
    have RD : ∀ w', Lat X4 w' → w'.rangeAt g10 0 [.bool p0, .slice pA pn pc] := fun w' hl => (k10.later hl).rangeAll
    have RU : ∀ w', Lat X4 w' → w'.rangeAt g11 0 [.bool q0, .slice qA qn qc] := fun w' hl => (k11.later hl).rangeAll
    have HPL := fun (w : World) (hl : Lat X4 w) => (zbp bL AL nL cL (sLo (l.take j) k) p0 pA pn pc (eLo x k) w (rL.later hl) (rp.later hl) (by have := ML.out; have := HJN.out; have := HN.out; omega) (by have := MP.out; omega)).mono fun _ _ h => h.le (M := 9010 + (j + 1)) (by have := ML.out; have := MP.out; omega)
    have HPH := fun (w : World) (hl : Lat X4 w) => (zbp bH AH nH cH (sHi (l.take j) k) q0 qA qn qc (eHi x k) w (rH.later hl) (rq.later hl) (by have := MH.out; have := HJN.out; have := HN.out; omega) (by have := MQ.out; omega)).mono fun _ _ h => h.le (M := 9010 + (j + 1)) (by have := MH.out; have := MQ.out; omega)
    rename_i KN hKN
    refine zau (zdd g4 g5 g10 g11 bL AL nL cL bH AH nH cH p0 pA pn pc q0 qA qn qc (sLo (l.take j) k) (sHi (l.take j) k) (eLo x k) (eHi x k) (9010 + (j + 1))) (zes g4 g5 g10 g11 bL AL nL cL bH AH nH cH p0 pA pn pc q0 qA qn qc (sLo (l.take j) k) (sHi (l.take j) k) (eLo x k) (eHi x k) (9010 + (j + 1)) _ _ _ _ _ _ _ _ _ _ _ _ _ _ _ _ _) 44 6 [[], [], [0, 1], [], [], [3, 4, 2], [2, 5, 0, 1, 2], [5, 6, 0, 1, 2, 3, 4, 5, 6]] (by kernel_rfl) _ rfl rfl _ rfl rfl (by kernel_rfl) (by kernel_rfl) (by kernel_rfl) (by kernel_rfl) (by kernel_rfl) (by kernel_rfl) (by kernel_rfl) (by rfl) rfl (base_of (by repeat (first | exact base_nil _ | refine zad rfl ?_))) (zfm X4 g4 g5 g10 g11 bL AL nL cL bH AH nH cH p0 pA pn pc q0 qA qn qc (sLo (l.take j) k) (sHi (l.take j) k) (eLo x k) (eHi x k) (9010 + (j + 1)) _ _ _ _ _ _ _ _ _ _ _ _ _ _ _ _ _ RL RH RD RU J2 HPL HPH) ?_
    intro a9 W9 hsz9 hdf9 hL9 hbs hsl
    obtain ⟨v8, h8, q8⟩ := hsl 2 _ _ rfl rfl
    obtain ⟨y0, yA, yn, yc, rfl, ry, my⟩ := (show GV _ _ v8 W9 from q8)
    have K8 := k4.later hL9
    obtain ⟨v9, h9, q9⟩ := hsl 5 _ _ rfl rfl
    obtain ⟨z0, zA, zn, zc, rfl, rz, mz⟩ := (show GV _ _ v9 W9 from q9)
    have K9 := k5.later hL9
    refine wp_store_mid 88 (.tmp 4) (.tmp 37) rfl g4 0 #[.bool y0, .slice yA yn yc] (hbs 4 _ rfl).ev h8.ev (K8.thereAll _ rfl) (by kernel_rfl) (by simp [Value.oneCell']) ?_
    refine zaE (Q := fun W => Oper.wp _ _ _ W _ _) K8 rfl (by simp [zbJ]) (fun V8 i8 l8 kw8 => ?_)
    replace K9 := K9.keepP l8 (by have := HG.out; omega)
    refine wp_store_mid 88 (.tmp 5) (.tmp 40) rfl g5 0 #[.bool z0, .slice zA zn zc] (hbs 5 _ rfl).ev h9.ev (K9.thereAll _ rfl) (by kernel_rfl) (by simp [Value.oneCell']) ?_
    refine hKN _ _ ?_
    refine zaE (Q := fun W => Code.wp _ _ _ _ W) K9 rfl (by simp [zbJ]) (fun V9 i9 l9 kw9 => ?_)
    obtain ⟨T9, df9⟩ := a9
    obtain rfl : df9 = [] := hdf9
    obtain ⟨f, hf, rfl⟩ := zhE T9 hsz9
    have X9 := fun k v h => (hf k).trans (zaa (hbs k v h))
    clear hbs hsl hf hsz9 hKN h8 h9 K8 K9
    simp only [Act.put, X9 4 _ rfl, X9 5 _ rfl, X9 10 _ rfl, X9 11 _ rfl, X9 0 _ rfl, X9 1 _ rfl, X9 2 _ rfl, X9 3 _ rfl, X9 6 _ rfl, X9 7 _ rfl, X9 8 _ rfl, X9 9 _ rfl, X9 12 _ rfl, X9 13 _ rfl, X9 14 _ rfl, X9 15 _ rfl, X9 16 _ rfl, X9 17 _ rfl, X9 18 _ rfl, X9 42 _ rfl, X9 43 _ rfl]
    clear X9
    replace k3 := ((k3.later hL9).keepP l8 (by have := HG.out; have := HG6.out; have := HG9.out; have := HG2.out; omega)).keepP l9 (by have := HG.out; have := HG6.out; have := HG9.out; have := HG2.out; omega)
    replace k6 := ((k6.later hL9).keepP l8 (by have := HG.out; have := HG6.out; have := HG9.out; have := HG2.out; omega)).keepP l9 (by have := HG.out; have := HG6.out; have := HG9.out; have := HG2.out; omega)
    replace k4 := i8.keepP l9 (by have := HG.out; have := HG6.out; have := HG9.out; have := HG2.out; omega)
    replace k5 := i9
    replace r6 := ((r6.later hL9).keepW kw8).keepW kw9
    replace ry := (ry.keepW kw8).keepW kw9
    replace rz := (rz.keepW kw8).keepW kw9
    replace L1 := l9.narrow (l8.narrow (L1.trans hL9) (by have := HG.out; have := HG6.out; have := HG9.out; have := HG2.out; omega)) (by have := HG.out; have := HG6.out; have := HG9.out; have := HG2.out; omega)
    rw [← HT1.out] at ry
    rw [← HT2.out] at rz
    have MY := Lib.hid my
    have MZ := Lib.hid mz
    obtain ⟨X5, rfl⟩ : ∃ z, z = V9 := ⟨_, rfl⟩
    clear hL9 i8 i9 l8 l9 kw8 kw9 RL RH RD RU HPL HPH my mz rL rH k9 k10 k11
    go_wp2
    go_roundw
    case rel => exact ⟨j + 1, y0, yA, yn, yc, z0, zA, zn, zc, (by rw [wj]; exact zac j), HJN.out, ry, MY, rz, MZ, k3, k4, k5, k6, r6, L1⟩
    case measure => (rw [wj]; exact zar HJN.out)
   ·have hE1 : eLo x k = eDn x k := by unfold eLo; rw [if_neg ht]
    have hE2 : eHi x k = eUp x k := by unfold eHi; rw [if_neg ht]
    rw [← hE1] at rD
    rw [← hE2] at rU
    clear hE1 hE2
    go_upto_region 10 with (fail)
    clear d0 ht
    obtain ⟨X0, rfl⟩ : ∃ z, z = X3 := ⟨_, rfl⟩
    have RL : ∀ w', Lat X0 w' → w'.rangeAt g4 0 [.bool bL, .slice AL nL cL] := fun w' hl => (k4.later hl).rangeAll
    have RH : ∀ w', Lat X0 w' → w'.rangeAt g5 0 [.bool bH, .slice AH nH cH] := fun w' hl => (k5.later hl).rangeAll
    have RD : ∀ w', Lat X0 w' → w'.rangeAt g10 0 [.bool bD, .slice AD nD cD] := fun w' hl => (k10.later hl).rangeAll
    have RU : ∀ w', Lat X0 w' → w'.rangeAt g11 0 [.bool bU, .slice AU nU cU] := fun w' hl => (k11.later hl).rangeAll
    have HPL := fun (w : World) (hl : Lat X0 w) => (zbp bL AL nL cL (sLo (l.take j) k) bD AD nD cD (eLo x k) w (rL.later hl) (rD.later hl) (by have := ML.out; have := HJN.out; have := HN.out; omega) (by have := MD.out; omega)).mono fun _ _ h => h.le (M := 9010 + (j + 1)) (by have := ML.out; have := MD.out; omega)
    have HPH := fun (w : World) (hl : Lat X0 w) => (zbp bH AH nH cH (sHi (l.take j) k) bU AU nU cU (eHi x k) w (rH.later hl) (rU.later hl) (by have := MH.out; have := HJN.out; have := HN.out; omega) (by have := MU.out; omega)).mono fun _ _ h => h.le (M := 9010 + (j + 1)) (by have := MH.out; have := MU.out; omega)
    rename_i KN hKN
    refine zau (zdd g4 g5 g10 g11 bL AL nL cL bH AH nH cH bD AD nD cD bU AU nU cU (sLo (l.take j) k) (sHi (l.take j) k) (eLo x k) (eHi x k) (9010 + (j + 1))) (zes g4 g5 g10 g11 bL AL nL cL bH AH nH cH bD AD nD cD bU AU nU cU (sLo (l.take j) k) (sHi (l.take j) k) (eLo x k) (eHi x k) (9010 + (j + 1)) _ _ _ _ _ _ _ _ _ _ _ _ _ _ _ _ _) 44 6 [[], [], [0, 1], [], [], [3, 4, 2], [2, 5, 0, 1, 2], [5, 6, 0, 1, 2, 3, 4, 5, 6]] (by kernel_rfl) _ rfl rfl _ rfl rfl (by kernel_rfl) (by kernel_rfl) (by kernel_rfl) (by kernel_rfl) (by kernel_rfl) (by kernel_rfl) (by kernel_rfl) (by rfl) rfl (base_of (by repeat (first | exact base_nil _ | refine zad rfl ?_))) (zfm X0 g4 g5 g10 g11 bL AL nL cL bH AH nH cH bD AD nD cD bU AU nU cU (sLo (l.take j) k) (sHi (l.take j) k) (eLo x k) (eHi x k) (9010 + (j + 1)) _ _ _ _ _ _ _ _ _ _ _ _ _ _ _ _ _ RL RH RD RU J2 HPL HPH) ?_
    intro a9 W9 hsz9 hdf9 hL9 hbs hsl
    obtain ⟨v8, h8, q8⟩ := hsl 2 _ _ rfl rfl
    obtain ⟨y0, yA, yn, yc, rfl, ry, my⟩ := (show GV _ _ v8 W9 from q8)
    have K8 := k4.later hL9
    obtain ⟨v9, h9, q9⟩ := hsl 5 _ _ rfl rfl
    obtain ⟨z0, zA, zn, zc, rfl, rz, mz⟩ := (show GV _ _ v9 W9 from q9)
    have K9 := k5.later hL9
    refine wp_store_mid 88 (.tmp 4) (.tmp 37) rfl g4 0 #[.bool y0, .slice yA yn yc] (hbs 4 _ rfl).ev h8.ev (K8.thereAll _ rfl) (by kernel_rfl) (by simp [Value.oneCell']) ?_
    refine zaE (Q := fun W => Oper.wp _ _ _ W _ _) K8 rfl (by simp [zbJ]) (fun V8 i8 l8 kw8 => ?_)
    replace K9 := K9.keepP l8 (by have := HG.out; omega)
    refine wp_store_mid 88 (.tmp 5) (.tmp 40) rfl g5 0 #[.bool z0, .slice zA zn zc] (hbs 5 _ rfl).ev h9.ev (K9.thereAll _ rfl) (by kernel_rfl) (by simp [Value.oneCell']) ?_
    refine hKN _ _ ?_
    refine zaE (Q := fun W => Code.wp _ _ _ _ W) K9 rfl (by simp [zbJ]) (fun V9 i9 l9 kw9 => ?_)
    obtain ⟨T9, df9⟩ := a9
    obtain rfl : df9 = [] := hdf9
    obtain ⟨f, hf, rfl⟩ := zhE T9 hsz9
    have X9 := fun k v h => (hf k).trans (zaa (hbs k v h))
    clear hbs hsl hf hsz9 hKN h8 h9 K8 K9
    simp only [Act.put, X9 4 _ rfl, X9 5 _ rfl, X9 10 _ rfl, X9 11 _ rfl, X9 0 _ rfl, X9 1 _ rfl, X9 2 _ rfl, X9 3 _ rfl, X9 6 _ rfl, X9 7 _ rfl, X9 8 _ rfl, X9 9 _ rfl, X9 12 _ rfl, X9 13 _ rfl, X9 14 _ rfl, X9 15 _ rfl, X9 16 _ rfl, X9 17 _ rfl, X9 18 _ rfl, X9 42 _ rfl, X9 43 _ rfl]
    clear X9
    replace k3 := ((k3.later hL9).keepP l8 (by have := HG.out; have := HG6.out; have := HG9.out; have := HG2.out; omega)).keepP l9 (by have := HG.out; have := HG6.out; have := HG9.out; have := HG2.out; omega)
    replace k6 := ((k6.later hL9).keepP l8 (by have := HG.out; have := HG6.out; have := HG9.out; have := HG2.out; omega)).keepP l9 (by have := HG.out; have := HG6.out; have := HG9.out; have := HG2.out; omega)
    replace k4 := i8.keepP l9 (by have := HG.out; have := HG6.out; have := HG9.out; have := HG2.out; omega)
    replace k5 := i9
    replace r6 := ((r6.later hL9).keepW kw8).keepW kw9
    replace ry := (ry.keepW kw8).keepW kw9
    replace rz := (rz.keepW kw8).keepW kw9
    replace L1 := l9.narrow (l8.narrow (L1.trans hL9) (by have := HG.out; have := HG6.out; have := HG9.out; have := HG2.out; omega)) (by have := HG.out; have := HG6.out; have := HG9.out; have := HG2.out; omega)
    rw [← HT1.out] at ry
    rw [← HT2.out] at rz
    have MY := Lib.hid my
    have MZ := Lib.hid mz
    obtain ⟨X5, rfl⟩ : ∃ z, z = V9 := ⟨_, rfl⟩
    clear hL9 i8 i9 l8 l9 kw8 kw9 RL RH RD RU HPL HPH my mz rL rH k9 k10 k11
    go_wp2
    go_roundw
    case rel => exact ⟨j + 1, y0, yA, yn, yc, z0, zA, zn, zc, (by rw [wj]; exact zac j), HJN.out, ry, MY, rz, MZ, k3, k4, k5, k6, r6, L1⟩
    case measure => (rw [wj]; exact zar HJN.out)
  ·obtain rfl : j = n := by have := hj.out; omega
   rw [List.take_of_length_le (by have := HLEN.out; omega)] at rL rH
   have hge : ¬ (j : Int) < (j : Int) := by omega
   have HR4 := Lib.hid rL
   have HR5 := Lib.hid rH
   have HL1 := Lib.hid L1
   clear rL rH L1 hjn k3 k6 r6 hj
   have c0 := k4.cell 0
   have c1' := k4.cell (0 + 1)
   have f0 := k4.frozen 0
   have f1 := k4.frozen (0 + 1)
   have c2' := k5.cell 0
   have c3' := k5.cell (0 + 1)
   have f2 := k5.frozen 0
   have f3 := k5.frozen (0 + 1)
   have hlt4 := k4.lt
   have hlt5 := k5.lt
   have ne1 : ¬ g4 = g5 := by have := HG.out; omega
   have ne2 : ¬ g5 = g4 := by have := HG.out; omega
   go_wp2
   go_region
   all_goals
    go_wp2
    refine bodyPost_ret (v := .tuple #[.agg #[.bool bL, .slice AL nL cL], .agg #[.bool bH, .slice AH nH cH]]) (by simp [results, Tryz.results33, go_sem, c0, c1', c2', c3']) rfl ?_
    exact (PartsPost.close (N := 11000) (M := 11000) k4 k5 HR4.out HR5.out HL1.out (by have := HG.out; omega) (by have := HG.out; omega) (by have := ML.out; have := HN.out; omega) (by have := MH.out; have := HN.out; omega)).drew
end Go.Proofs.YtpmbglhbcjbkcaaGreat
