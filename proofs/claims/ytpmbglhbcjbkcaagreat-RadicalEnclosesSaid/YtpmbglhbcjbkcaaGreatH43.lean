/- Several texts in one: RdCk, RdLn. -/
import Derived.DeepKeys
import Derived.Test.YtpmbglhbcjbkcaaGreatH33
import Derived.Test.YtpmbglhbcjbkcaaGreatH42
import Derived.Deep.DeepCutAuto
namespace Go.Proofs.YtpmbglhbcjbkcaaGreat
set_option maxHeartbeats 16000000
set_option maxRecDepth 100000
open Go.RowKit
set_option linter.unusedSimpArgs false
set_option linter.unusedVariables false
theorem znM : Tryz.prog.cellsOf 40 = 16 := by kernel_rfl
theorem zmp {u v : W8} (hu : u.ok) (hv : v.ok) (d : Nat) : Tryz.prog.keyLits (d + 3) 40 [u.b0, u.b1, u.b2, u.b3, u.b4, u.b5, u.b6, u.b7, v.b0, v.b1, v.b2, v.b3, v.b4, v.b5, v.b6, v.b7] = some (zfG u ++ zfG v) := by
 have h0 := zlL hu d
 have h1 := zlL hv d
 unfold Program.keyLits
 rw [Tryz.underlying40]
 simp [zj7, znM, h0, h1]
theorem zg3 {u v : W8} (h1 : u.ok) (h2 : v.ok) (w : World) : (binOp .eql 40 (.agg (W8.two u v)) (.agg (W8.two u v))).run Tryz.prog w = .ok (.bool true) w := by
 obtain ⟨r, hr, hi⟩ := run_equalIn_deep (P := Tryz.prog) 9990 10 40 (by kernel_rfl) w 10 10 (.agg (W8.two u v)) (.agg (W8.two u v)) _ _ (by kernel_rfl) (by kernel_rfl) (zmp h1 h2 7) (zmp h1 h2 7)
 have e : r = true := hi.2 rfl
 rw [run_eql_struct, hr, e]
 rfl
theorem zox (w : World) : Calls Tryz.prog 16 #[.slice none 0 0] w (fun e w' => ∃ g3 : Nat, e = .returned (.func (.func 55) #[] #[.pointer (some ⟨g3, 0, none⟩)]) ∧ Blk w' g3 27 #[.slice none 0 0] ∧ Lat w w') := by
 go_enter Tryz.func16, Tryz.ntmps16
 go_upto_region 2 with (fail)
 refine zas (Q := fun W => Code.wp _ _ _ _ W) ?_
 intro W hl hsz k3
 obtain ⟨g3, hg3⟩ : ∃ z, w.heap.size = z := ⟨_, rfl⟩
 rw [hg3] at k3 ⊢
 clear hg3 hsz
 go_wp2
 go_loopw [4] (fun iv wr => iv = .int .i64 0 ∧ wr = W) (fun _ _ => 0)
 case atStart => exact ⟨rfl, rfl⟩
 case round =>
  obtain ⟨rfl, rfl⟩ := hrel
  go_wp2
  go_ret
  exact ⟨_, rfl, k3, hl⟩
theorem zcw (A : Option Addr) (n c : Nat) (L : List (Int × Int)) (A' : Option Addr) (c' g : Nat) (w : World) (hs : RowM w A 2 n (zab L)) (ks : RowM w A' 2 n (zab L)) (hg : Blk w g 27 #[.slice A' n c']) (hn : n ≤ 1000000) :
  Calls Tryz.prog 55 #[.slice A n c, .int .i64 0, .pointer (some ⟨g, 0, none⟩)] w (fun e w' => e = .returned (.bool true) ∧ Lat w w') := by
 have HS := Lib.hid (zk9 (c := c) (c' := c') hs ks hn)
 have c0 := hg.cell 0
 clear hs ks hg
 go_enter Tryz.func55, Tryz.ntmps55
 go_wp2_with fail
 refine HS.out.mono ?_
 rintro e w1 ⟨rfl, l1⟩
 clear c0 HS
 go_wp2
 go_ret
 exact ⟨rfl, l1⟩
theorem zmq (z : Int) (w : World) : Calls Tryz.prog 25 #[.int .i64 z] w (fun e w' => ∃ g : Nat, e = .returned (.func (.func 70) #[] #[.pointer (some ⟨g, 0, none⟩)]) ∧ Blk w' g 3 #[.int .i64 z] ∧ Lat w w') := by
 go_enter Tryz.func25, Tryz.ntmps25
 go_wp2
 refine zas (Q := fun W => bodyPost _ _ _ _ _ W) ?_
 intro W hl hs k1
 go_ret
 exact ⟨_, rfl, k1, hl⟩
theorem zdz (z : Int) (g : Nat) (w : World) (hg : Blk w g 3 #[.int .i64 z]) :
  Calls Tryz.prog 70 #[.int .i64 z, .int .i64 0, .pointer (some ⟨g, 0, none⟩)] w (fun e w' => e = .returned (.bool true) ∧ Lat w w') := by
 have c0 := hg.cell 0
 have he : ((z : Int) == z) = true := by simp
 clear hg
 go_enter Tryz.func70, Tryz.ntmps70
 go_wp2
 go_ret
 exact ⟨rfl, Lat.refl _⟩
theorem zhI (u1 v1 u2 v2 : W8) (w : World) : Calls Tryz.prog 23 #[.agg (W8.two u1 v1), .agg (W8.two u2 v2)] w (fun e w' => ∃ g h : Nat, e = .returned (.func (.func 69) #[] #[.pointer (some ⟨g, 0, none⟩), .pointer (some ⟨h, 0, none⟩)]) ∧ Blk w' g 40 (W8.two u1 v1) ∧ Blk w' h 40 (W8.two u2 v2) ∧ Lat w w') := by
 go_enter Tryz.func23, Tryz.ntmps23
 go_wp2
 refine zaK (Q := fun W => bodyPost _ _ _ _ _ W) ?_
 intro W hl hs k1 k2
 go_ret
 exact ⟨_, _, rfl, k1, k2, hl⟩
theorem znN (T : Array Value) (h : T.size = 21) : ∃ f : Nat → Value, (∀ k, f k = T.getD k undef) ∧ T = #[f 0, f 1, f 2, f 3, f 4, f 5, f 6, f 7, f 8, f 9, f 10, f 11, f 12, f 13, f 14, f 15, f 16, f 17, f 18, f 19, f 20] := ⟨fun k => T.getD k undef, fun _ => rfl, (spell 21 T h).trans (by kernel_rfl)⟩
noncomputable def zf8 (g3 g4 g5 g6 : Nat) (u1 v1 u2 v2 : W8) : List SRow := [
 ⟨.load 40 (.tmp 5), some 9, none, [], fun v _ => v = .agg (W8.two u1 v1)⟩,
 ⟨.load 40 (.tmp 3), some 10, none, [], fun v _ => v = .agg (W8.two u1 v1)⟩,
 ⟨.binOp .eql 40 (.tmp 9) (.tmp 10) 40, some 11, none, [0, 1], fun v _ => v = .bool true⟩,
 ⟨.move (.tmp 11), some 12, none, [2], fun v _ => v = .bool true⟩,
 ⟨.load 40 (.tmp 6), some 13, some (3, true), [3], fun v _ => v = .agg (W8.two u2 v2)⟩,
 ⟨.load 40 (.tmp 4), some 14, some (3, true), [3], fun v _ => v = .agg (W8.two u2 v2)⟩,
 ⟨.binOp .eql 40 (.tmp 13) (.tmp 14) 40, some 15, some (3, true), [4, 5, 3], fun v _ => v = .bool true⟩,
 ⟨.pick (.tmp 12) (.tmp 15) (.const (.bool false)), some 16, none, [3, 6], fun v _ => v = .bool true⟩,
 ⟨.move (.tmp 16), some 17, none, [7, 3], fun v _ => v = .bool true⟩,
 ⟨.move (.tmp 2), some 18, some (8, true), [8], fun v _ => v = .int .i64 0⟩,
 ⟨.binOp .eql 28 (.tmp 18) (.const (.int .i64 0)) 28, some 19, some (8, true), [9, 8], fun v _ => v = .bool true⟩,
 ⟨.pick (.tmp 17) (.tmp 19) (.const (.bool false)), some 20, none, [8, 10], fun v _ => v = .bool true⟩,
 ⟨.assign (.tmp 20), some 8, none, [11, 8, 0, 1, 2, 3, 4, 5, 6, 7, 8, 9, 10, 11], fun v _ => v = .bool true⟩]
noncomputable def ziB (g3 g4 g5 g6 : Nat) (u1 v1 u2 v2 : W8) : List (Nat × Value) := [(3, .pointer (some ⟨g3, 0, none⟩)), (4, .pointer (some ⟨g4, 0, none⟩)), (5, .pointer (some ⟨g5, 0, none⟩)), (6, .pointer (some ⟨g6, 0, none⟩)), (2, .int .i64 0)]
theorem zlb (V : World) (g3 g4 g5 g6 : Nat) (u1 v1 u2 v2 : W8) (R5 : ∀ w', Lat V w' → w'.rangeAt g5 0 [u1.b0, u1.b1, u1.b2, u1.b3, u1.b4, u1.b5, u1.b6, u1.b7, v1.b0, v1.b1, v1.b2, v1.b3, v1.b4, v1.b5, v1.b6, v1.b7]) (R3 : ∀ w', Lat V w' → w'.rangeAt g3 0 [u1.b0, u1.b1, u1.b2, u1.b3, u1.b4, u1.b5, u1.b6, u1.b7, v1.b0, v1.b1, v1.b2, v1.b3, v1.b4, v1.b5, v1.b6, v1.b7]) (R6 : ∀ w', Lat V w' → w'.rangeAt g6 0 [u2.b0, u2.b1, u2.b2, u2.b3, u2.b4, u2.b5, u2.b6, u2.b7, v2.b0, v2.b1, v2.b2, v2.b3, v2.b4, v2.b5, v2.b6, v2.b7]) (R4 : ∀ w', Lat V w' → w'.rangeAt g4 0 [u2.b0, u2.b1, u2.b2, u2.b3, u2.b4, u2.b5, u2.b6, u2.b7, v2.b0, v2.b1, v2.b2, v2.b3, v2.b4, v2.b5, v2.b6, v2.b7]) (J16 : (Tryz.prog.info? 40).map (·.size) = some 16)
  (HGD : Tryz.prog.eqGuardType Tryz.prog.depth 40 = false) (HE1 : ∀ w, (binOp .eql 40 (.agg (W8.two u1 v1)) (.agg (W8.two u1 v1))).run Tryz.prog w = .ok (.bool true) w) (HE2 : ∀ w, (binOp .eql 40 (.agg (W8.two u2 v2)) (.agg (W8.two u2 v2))).run Tryz.prog w = .ok (.bool true) w) :
  AllStepsN Tryz.prog (zf8 g3 g4 g5 g6 u1 v1 u2 v2) (ziB g3 g4 g5 g6 u1 v1 u2 v2) V (zf8 g3 g4 g5 g6 u1 v1 u2 v2) := by
 refine nG ?_ fun a w hl hb hd o ho => by have e1 := hb 5 _ rfl; exact Runs.val (zah (S := Lat V) e1 R5 Tryz.underlying40 rfl J16 o w ho hl) ⟨Lat.refl _, fun _ => rfl⟩
 refine nG ?_ fun a w hl hb hd o ho => by have e1 := hb 3 _ rfl; exact Runs.val (zah (S := Lat V) e1 R3 Tryz.underlying40 rfl J16 o w ho hl) ⟨Lat.refl _, fun _ => rfl⟩
 refine nG ?_ fun a w hl hb hd o ho => by obtain ⟨v1, e1, q1⟩ := hd 0 _ _ (by simp) rfl rfl; obtain ⟨v2, e2, q2⟩ := hd 1 _ _ (by simp) rfl rfl; subst q1; subst q2; exact Runs.val (zh4 (S := fun _ => True) e1 e2 HGD HE1 o w ho trivial) ⟨Lat.refl _, fun _ => rfl⟩
 refine nG ?_ fun a w hl hb hd o ho => by obtain ⟨_, e1, rfl⟩ := hd 2 _ _ (by simp) rfl rfl; exact rp1 o ho e1 fun ev ec e1 d ty p af g => by unfold execOp; simp only [e1, ec]; go_simp
 refine nG ?_ fun a w hl hb hd o ho => by have e1 := hb 6 _ rfl; exact Runs.val (zah (S := Lat V) e1 R6 Tryz.underlying40 rfl J16 o w ho hl) ⟨Lat.refl _, fun _ => rfl⟩
 refine nG ?_ fun a w hl hb hd o ho => by have e1 := hb 4 _ rfl; exact Runs.val (zah (S := Lat V) e1 R4 Tryz.underlying40 rfl J16 o w ho hl) ⟨Lat.refl _, fun _ => rfl⟩
 refine nG ?_ fun a w hl hb hd o ho => by obtain ⟨v1, e1, q1⟩ := hd 4 _ _ (by simp) rfl rfl; obtain ⟨v2, e2, q2⟩ := hd 5 _ _ (by simp) rfl rfl; subst q1; subst q2; exact Runs.val (zh4 (S := fun _ => True) e1 e2 HGD HE2 o w ho trivial) ⟨Lat.refl _, fun _ => rfl⟩
 refine nG ?_ fun a w hl hb hd o ho => by obtain ⟨_, e1, rfl⟩ := hd 3 _ _ (by simp) rfl rfl; obtain ⟨_, e2, rfl⟩ := hd 6 _ _ (by simp) rfl rfl; exact Runs.val (zdo (S := fun _ => True) e1 e2 o w ho trivial) ⟨Lat.refl _, fun _ => rfl⟩
 refine nG ?_ fun a w hl hb hd o ho => by obtain ⟨_, e1, rfl⟩ := hd 7 _ _ (by simp) rfl rfl; exact rp1 o ho e1 fun ev ec e1 d ty p af g => by unfold execOp; simp only [e1, ec]; go_simp
 refine nG ?_ fun a w hl hb hd o ho => by have e1 := hb 2 _ rfl; exact rp1 o ho e1 fun ev ec e1 d ty p af g => by unfold execOp; simp only [e1, ec]; go_simp
 refine nG ?_ fun a w hl hb hd o ho => by obtain ⟨_, e1, rfl⟩ := hd 9 _ _ (by simp) rfl rfl; exact rp1 o ho e1 fun ev ec e1 d ty p af g => by unfold execOp; simp only [e1, ec]; go_simp
 refine nG ?_ fun a w hl hb hd o ho => by obtain ⟨_, e1, rfl⟩ := hd 8 _ _ (by simp) rfl rfl; obtain ⟨_, e2, rfl⟩ := hd 10 _ _ (by simp) rfl rfl; exact Runs.val (zdo (S := fun _ => True) e1 e2 o w ho trivial) ⟨Lat.refl _, fun _ => rfl⟩
 refine nG ?_ fun a w hl hb hd o ho => by obtain ⟨_, e1, rfl⟩ := hd 11 _ _ (by simp) rfl rfl; exact rp1 o ho e1 fun ev ec e1 d ty p af g => by unfold execOp; simp only [e1, ec]; go_simp
 exact AllStepsN.none
theorem zcc (u1 v1 u2 v2 : W8) (h1 : u1.ok) (h2 : v1.ok) (h3 : u2.ok) (h4 : v2.ok) (g3 g4 : Nat) (w : World) (k3 : Blk w g3 40 (W8.two u1 v1)) (k4 : Blk w g4 40 (W8.two u2 v2)) :
  Calls Tryz.prog 69 #[.agg (W8.two u1 v1), .agg (W8.two u2 v2), .int .i64 0, .pointer (some ⟨g3, 0, none⟩), .pointer (some ⟨g4, 0, none⟩)] w (fun e w' => e = .returned (.bool true) ∧ Lat w w') := by
 have HE1 := fun w => zg3 h1 h2 w
 have HE2 := fun w => zg3 h3 h4 w
 have HGD : Tryz.prog.eqGuardType Tryz.prog.depth 40 = false := by kernel_rfl
 clear h1 h2 h3 h4
 go_enter Tryz.func69, Tryz.ntmps69
 go_upto_region 1 with (fail)
 refine zaK (Q := fun W => Code.wp _ _ _ _ W) ?_
 intro w1 hl hsz k5 k6
 obtain ⟨g6, hg6⟩ : ∃ z, w.heap.size + 1 = z := ⟨_, rfl⟩
 obtain ⟨g5, hg5⟩ : ∃ z, w.heap.size = z := ⟨_, rfl⟩
 rw [hg6] at k6 ⊢
 rw [hg5] at k5 ⊢
 have R5 : ∀ w', Lat w1 w' → w'.rangeAt g5 0 [u1.b0, u1.b1, u1.b2, u1.b3, u1.b4, u1.b5, u1.b6, u1.b7, v1.b0, v1.b1, v1.b2, v1.b3, v1.b4, v1.b5, v1.b6, v1.b7] := fun w' h => (k5.later h).rangeAll
 have R6 : ∀ w', Lat w1 w' → w'.rangeAt g6 0 [u2.b0, u2.b1, u2.b2, u2.b3, u2.b4, u2.b5, u2.b6, u2.b7, v2.b0, v2.b1, v2.b2, v2.b3, v2.b4, v2.b5, v2.b6, v2.b7] := fun w' h => (k6.later h).rangeAll
 have R3 : ∀ w', Lat w1 w' → w'.rangeAt g3 0 [u1.b0, u1.b1, u1.b2, u1.b3, u1.b4, u1.b5, u1.b6, u1.b7, v1.b0, v1.b1, v1.b2, v1.b3, v1.b4, v1.b5, v1.b6, v1.b7] := fun w' h => (k3.later (hl.trans h)).rangeAll
 have R4 : ∀ w', Lat w1 w' → w'.rangeAt g4 0 [u2.b0, u2.b1, u2.b2, u2.b3, u2.b4, u2.b5, u2.b6, u2.b7, v2.b0, v2.b1, v2.b2, v2.b3, v2.b4, v2.b5, v2.b6, v2.b7] := fun w' h => (k4.later (hl.trans h)).rangeAll
 clear hsz hg6 hg5 k3 k4 k5 k6
 rename_i KN hKN
 refine zae (zf8 g3 g4 g5 g6 u1 v1 u2 v2) (ziB g3 g4 g5 g6 u1 v1 u2 v2) 21 13 [[], [], [0, 1], [2], [3], [3], [4, 5, 3], [3, 6], [7, 3], [8], [9, 8], [8, 10], [11, 8, 0, 1, 2, 3, 4, 5, 6, 7, 8, 9, 10, 11]] (by kernel_rfl) (by kernel_rfl) (by kernel_rfl) (by kernel_rfl) (by kernel_rfl) (by kernel_rfl) (by rfl) rfl (base_of (by repeat (first | exact base_nil _ | refine zad rfl ?_))) (zlb w1 g3 g4 g5 g6 u1 v1 u2 v2 R5 R3 R6 R4 zao HGD HE1 HE2) ?_
 ·intro a9 W9 hsz9 hdf9 hL9 hbs hsl
  obtain ⟨v9, h9, q9⟩ := hsl 12 _ _ rfl rfl
  obtain rfl : v9 = .bool true := q9
  have w8 := zaa h9
  clear h9
  refine hKN _ _ ?_
  obtain ⟨T9, df9⟩ := a9
  obtain rfl : df9 = [] := hdf9
  obtain ⟨f, hf, rfl⟩ := znN T9 hsz9
  have XX := fun k v h => (hf k).trans (zaa (hbs k v h))
  have x3 : f 3 = .pointer (some ⟨g3, 0, none⟩) := XX 3 _ rfl
  have x4 : f 4 = .pointer (some ⟨g4, 0, none⟩) := XX 4 _ rfl
  have x5 : f 5 = .pointer (some ⟨g5, 0, none⟩) := XX 5 _ rfl
  have x6 : f 6 = .pointer (some ⟨g6, 0, none⟩) := XX 6 _ rfl
  have x2 : f 2 = .int .i64 0 := XX 2 _ rfl
  have x8 := (hf 8).trans w8
  clear hbs hsl hf hsz9 hKN w8
  simp only [x3, x4, x5, x6, x2, x8]
  clear XX x3 x4 x5 x6 x2 x8
  have HL := Lib.hid (hl.trans hL9)
  clear hL9 R5 R3 R6 R4 HE1 HE2
  go_wp2
  go_ret
  exact ⟨rfl, HL.out⟩
theorem zaH {N D : Int} {u v : W8} {r : Int} (h : ShareIs N D u v r) : u.ok ∧ v.ok := by
 rcases h with ⟨_, _, _, _, rfl, rfl, _⟩ | ⟨_, rfl, rfl, _⟩
 ·exact ⟨W8.of_ok _, W8.of_ok _⟩
 ·have hz : W8.zero.ok := W8.of_ok 0
  exact ⟨hz, hz⟩
def QPost (w : World) (n d : Int) (e : Ending) (w' : World) : Prop := ∃ (u v : W8) (r : Int), e = .returned (.agg (W8.two u v)) ∧ ShareIs (zaT n d) (zaU n d) u v r ∧ Lat w w'
theorem q_res {W : World} {g : Nat} {u v : W8} {T : Array Value} (h4 : T[4]? = some (.pointer (some ⟨g, 0, none⟩))) (k4 : Blk W g 40 (W8.two u v)) : (results Tryz.f24 T).run Tryz.prog W = .ok (.agg (W8.two u v)) W := by
 have a4 := run_loadVar_mid (P := Tryz.prog) W g 0 40 [u.b0, u.b1, u.b2, u.b3, u.b4, u.b5, u.b6, u.b7, v.b0, v.b1, v.b2, v.b3, v.b4, v.b5, v.b6, v.b7] _ k4.rangeAll Tryz.underlying40 rfl zao
 unfold results
 rw [Tryz.results24]
 simp [h4, asAddr, a4, Sem.run_bind, Sem.run_pure, Result.andThen_ok]
theorem q_any (n d : Int) (h0 : d ≠ 0) (n1 : -9223372036854775808 ≤ n) (n2 : n < 9223372036854775808) (h1 : -9223372036854775808 ≤ d) (h2 : d < 9223372036854775808) (w : World) :
  Calls Tryz.prog 24 #[.int .i64 n, .int .i64 d] w (QPost w n d) := by
 have HOF := Lib.hid (fun w => zkX n d h0 n1 n2 h1 h2 w)
 clear h0 n1 n2 h1 h2
 go_enter Tryz.func24, Tryz.ntmps24
 go_upto_region 1 with (fail)
 refine zas (Q := fun W => Code.wp _ _ _ _ W) ?_
 intro W hl hsz k4
 obtain ⟨g4, hg4⟩ : ∃ z, w.heap.size = z := ⟨_, rfl⟩
 have HG := Lib.hid hg4
 rw [hg4] at k4 ⊢
 clear hsz hg4
 go_wp2_with fail
 refine (HOF.out W).mono ?_
 rintro e w1 ⟨u, v, r, rfl, hI, l1⟩
 replace k4 := k4.later l1
 have L1 := hl.trans l1
 have HI := Lib.hid hI
 have O1 := Lib.hid (show ((W8.two u v) : Array Value).all (·.oneCell') = true by simp [Value.oneCell'])
 clear hl l1 hI HOF
 go_upto_region 2 with (fail)
 refine zas (Q := fun W => Code.wp _ _ _ _ W) ?_
 intro w2 l2 hs2 k5
 obtain ⟨g5, hg5⟩ : ∃ z, w1.heap.size = z := ⟨_, rfl⟩
 rw [hg5] at k5 ⊢
 replace k4 := k4.later l2
 replace L1 := L1.trans l2
 clear hs2 hg5 l2
 go_wp2_with (first
  | (refine zaW (by rfl) 40 (.tmp 5) (by rfl) g5 (by rfl) k5 _ Tryz.underlying40 rfl zao ?_)
  | (refine zat rfl 40 (.tmp 4) (.tmp 13) (by rfl) (by rfl) g4 (by rfl) (W8.two u v) (by rfl) k4 (by rfl) zao O1.out ?_; intro w6 hp; have j4 := hp.blk; have L6 := hp.lat w L1 (by have := HG.out; omega)))
 refine bodyPost_ret (v := .agg (W8.two u v)) (q_res rfl j4) rfl ?_
 exact ⟨u, v, r, rfl, HI.out, L6⟩
def zmr (z : Int) : Prop := ¬ z < -1000000 ∧ ¬ 1000000 < z
instance (z : Int) : Decidable (zmr z) := inferInstanceAs (Decidable (_ ∧ _))
def zg4 (a b c d : Int) : Prop := zmr a ∧ zmr b ∧ zmr c ∧ zmr d
instance (a b c d : Int) : Decidable (zg4 a b c d) := inferInstanceAs (Decidable (_ ∧ _))
def sqD (a b c d : Int) : Int := (a - c) * (a - c) + (b - d) * (b - d)
noncomputable def zoy (a b c d : Int) : Int := if zg4 a b c d then zal [(1, sqD a b c d)] else 2
noncomputable def zoz (a b c d : Int) : List (Int × Int) := if zg4 a b c d then zdq [(1, sqD a b c d)] else []
def LenP (w : World) (a b c d : Int) (e : Ending) (w' : World) : Prop :=
 ∃ v, e = .returned (.tuple #[v, .int .i64 (zoy a b c d)]) ∧ OwnM w' w.heap.size 72 2 v (zab (zoz a b c d)) ∧ Lat w w'
theorem idxP (a b c d : Int) {i : Nat} (h : i < 4) : ∃ x : Int, (x = a ∨ x = b ∨ x = c ∨ x = d) ∧ [a, b, c, d][i]? = some x ∧ ∀ w, (Instr.index 130 (.agg #[.int .i64 a, .int .i64 b, .int .i64 c, .int .i64 d]) (.int .i64 (i : Nat))).run Tryz.prog w = .ok (.int .i64 x) w := by
 have hk : i = 0 ∨ i = 1 ∨ i = 2 ∨ i = 3 := by omega
 rcases hk with rfl | rfl | rfl | rfl
 ·exact ⟨a, .inl rfl, rfl, fun w => by unfold Instr.index; go_simp⟩
 ·exact ⟨b, .inr (.inl rfl), rfl, fun w => by unfold Instr.index; go_simp⟩
 ·exact ⟨c, .inr (.inr (.inl rfl)), rfl, fun w => by unfold Instr.index; go_simp⟩
 ·exact ⟨d, .inr (.inr (.inr rfl)), rfl, fun w => by unfold Instr.index; go_simp⟩
theorem zms {a b c d : Int} (h : zg4 a b c d) : wrap64 (a - c) = a - c ∧ wrap64 (b - d) = b - d ∧ wrap64 ((a - c) * (a - c)) = (a - c) * (a - c) ∧ wrap64 ((b - d) * (b - d)) = (b - d) * (b - d) ∧ wrap64 ((a - c) * (a - c) + (b - d) * (b - d)) = sqD a b c d := by
 obtain ⟨h1, h2, h3, h4⟩ := h
 unfold zmr at h1 h2 h3 h4
 have s : ∀ z : Int, -2000000 ≤ z → z ≤ 2000000 → 0 ≤ z * z ∧ z * z ≤ 4000000000000 := fun z h0 h5 => by
  refine ⟨?_, ?_⟩
  ·rcases Int.lt_or_le z 0 with h | h
   ·exact Int.mul_nonneg_of_nonpos_of_nonpos (Int.le_of_lt h) (Int.le_of_lt h)
   ·exact Int.mul_nonneg h h
  ·have := zek (a := z) (n := z) (M := 2000000) (N := 2000000) h0 h5 h0 h5
   omega
 have s1 := s (a - c) (by omega) (by omega)
 have s2 := s (b - d) (by omega) (by omega)
 unfold sqD
 exact ⟨IntWalk.wrap64_in _ ⟨by omega, by omega⟩, IntWalk.wrap64_in _ ⟨by omega, by omega⟩, IntWalk.wrap64_in _ ⟨by omega, by omega⟩, IntWalk.wrap64_in _ ⟨by omega, by omega⟩, IntWalk.wrap64_in _ ⟨by omega, by omega⟩⟩
theorem row_one {w : World} {g : Nat} {T : TypeId} {t u : Int} (h : Blk w g T #[.int .i64 t, .int .i64 u]) : RowM w (some ⟨g, 0, none⟩) 2 1 (zab [(t, u)]) := by
 refine ⟨rfl, fun x hx => by simp [zab] at hx; subst hx; rfl, fun _ => ⟨g, 0, rfl, h.lt, fun i x hx => ?_⟩⟩
 match i, hx with
 | 0, hx =>
   simp [zab] at hx
   subst hx
   exact h.rangeAll
theorem zhJ (a b c d : Int) (w : World) (hok : zg4 a b c d) :
  Calls Tryz.prog 22 #[.agg #[.int .i64 a, .int .i64 b], .agg #[.int .i64 c, .int .i64 d]] w (LenP w a b c d) := by
 obtain ⟨w1, w2, w3, w4, w5⟩ := zms hok
 have HE : Hid (zoy a b c d = zal [(1, sqD a b c d)] ∧ zoz a b c d = zdq [(1, sqD a b c d)]) := ⟨if_pos hok, if_pos hok⟩
 have HOK := Lib.hid hok
 obtain ⟨x, hx⟩ : ∃ z, a - c = z := ⟨_, rfl⟩
 obtain ⟨y, hy⟩ : ∃ z, b - d = z := ⟨_, rfl⟩
 obtain ⟨q, hq⟩ : ∃ z, sqD a b c d = z := ⟨_, rfl⟩
 rw [hx] at w1 w3 w5
 rw [hy] at w2 w4 w5
 rw [hq] at w5 HE
 have hw1 : wrap64 (a - c) = x := by rw [hx, w1]
 have hw2 : wrap64 (b - d) = y := by rw [hy, w2]
 have W5 := Lib.hid (And.intro hw1 (And.intro hw2 (And.intro w3 (And.intro w4 w5))))
 have HM := Lib.hid (fun (A : Option Addr) w' (hs : RowM w' A 2 1 (zab [(1, q)])) => zfU A 1 1 [(1, q)] w' hs)
 clear hok hx hy hq w1 w2 w3 w4 w5 hw1 hw2
 go_enter Tryz.func22, Tryz.ntmps22
 go_upto_region 1 with (fail)
 refine zaK (Q := fun W => Code.wp _ _ _ _ W) ?_
 intro W hl hsz k2 k3
 obtain ⟨g3, hg3⟩ : ∃ z, w.heap.size + 1 = z := ⟨_, rfl⟩
 obtain ⟨g2, hg2⟩ : ∃ z, w.heap.size = z := ⟨_, rfl⟩
 rw [hg3] at k3 ⊢
 rw [hg2] at k2 ⊢
 clear hsz hg3 hg2
 have c0 := k2.cell 0
 have c1 := k2.cell 1
 have d0 := k3.cell 0
 have d1 := k3.cell 1
 go_upto_region 2 with (fail)
 go_loopw [19] (fun iv wr => ∃ i : Nat, i ≤ 4 ∧ iv = .int .i64 (i : Nat) ∧ wr = W) (fun iv _ => 4 - (RowKit.intOf iv).toNat)
 case atStart => exact ⟨0, by omega, rfl, rfl⟩
 case round =>
  obtain ⟨i, hi, rfl, rfl⟩ := hrel
  by_cases hlt : i < 4
  ·have hltI : (i : Int) < 4 := by omega
   have HLT := Lib.hid hlt
   obtain ⟨z, hz, _, hix⟩ := idxP a b c d hlt
   have hin : zmr z := by
    obtain ⟨o1, o2, o3, o4⟩ := HOK.out
    rcases hz with rfl | rfl | rfl | rfl <;> assumption
   have hn1 := hin.1
   have hn2 := hin.2
   have wi : wrap64 ((i : Int) + 1) = (i : Int) + 1 := IntWalk.wrap64_in _ ⟨by omega, by omega⟩
   clear hz hlt hin
   go_wp2
   go_roundw
   case rel => exact ⟨i + 1, HLT.out, zac i, by first | rfl | trivial⟩
   case measure => exact zar HLT.out
  ·obtain rfl : i = 4 := by omega
   obtain ⟨hw1, hw2, w3, w4, w5⟩ := W5.out
   go_upto_region 7 with (fail)
   go_region
   go_wp2_with fail
   refine zas (Q := fun W => Calls _ _ _ W.drew _) ?_
   intro w6 l6 hs6 k6
   refine (HM.out _ w6.drew (row_one (k6.later (Lat.drew _)))).mono ?_
   rintro e w7 ⟨v, rfl, o, l7⟩
   have L6 := (hl.trans l6).trans (Lat.drew _)
   have HL := Lib.hid (L6.trans l7)
   have HO := Lib.hid (o.base L6.size)
   clear L6 l6 l7 o hs6 k6 hw1 hw2 w3 w4 w5
   go_wp2
   go_ret2
   exact ⟨v, by first | (rw [HE.out.1]; done) | (rw [HE.out.1]; rfl), by rw [HE.out.2]; exact HO.out, HL.out⟩
theorem zjq (a b c d : Int) (w : World) (hok : ¬ zg4 a b c d) :
  Calls Tryz.prog 22 #[.agg #[.int .i64 a, .int .i64 b], .agg #[.int .i64 c, .int .i64 d]] w (LenP w a b c d) := by
 have HE : Hid (zoy a b c d = 2 ∧ zoz a b c d = []) := ⟨if_neg hok, if_neg hok⟩
 have HOK := Lib.hid hok
 clear hok
 go_enter Tryz.func22, Tryz.ntmps22
 go_upto_region 1 with (fail)
 refine zaK (Q := fun W => Code.wp _ _ _ _ W) ?_
 intro W hl hsz k2 k3
 obtain ⟨g3, hg3⟩ : ∃ z, w.heap.size + 1 = z := ⟨_, rfl⟩
 obtain ⟨g2, hg2⟩ : ∃ z, w.heap.size = z := ⟨_, rfl⟩
 rw [hg3] at k3 ⊢
 rw [hg2] at k2 ⊢
 clear hsz hg3 hg2
 have c0 := k2.cell 0
 have c1 := k2.cell 1
 have d0 := k3.cell 0
 have d1 := k3.cell 1
 go_upto_region 2 with (fail)
 go_loopw [19] (fun iv wr => ∃ i : Nat, i ≤ 4 ∧ iv = .int .i64 (i : Nat) ∧ Hid (∀ j x, j < i → [a, b, c, d][j]? = some x → zmr x) ∧ wr = W) (fun iv _ => 4 - (RowKit.intOf iv).toNat)
 case atStart => exact ⟨0, by omega, rfl, fun j x h => absurd h (by omega), rfl⟩
 case round =>
  obtain ⟨i, hi, rfl, hI, rfl⟩ := hrel
  by_cases hlt : i < 4
  ·have hltI : (i : Int) < 4 := by omega
   have HLT := Lib.hid hlt
   obtain ⟨z, _, hz, hix⟩ := idxP a b c d hlt
   have HZ := Lib.hid hz
   have wi : wrap64 ((i : Int) + 1) = (i : Int) + 1 := IntWalk.wrap64_in _ ⟨by omega, by omega⟩
   clear hlt hz
   by_cases h1 : z < -1000000
   ·go_wp2
    go_ret2
    exact ⟨.slice none 0 0, by first | (rw [HE.out.1]; done) | (rw [HE.out.1]; rfl), by rw [HE.out.2]; exact OwnM.nil _ _ _ _, hl⟩
   ·by_cases h2 : 1000000 < z
    ·go_wp2
     go_ret2
     exact ⟨.slice none 0 0, by first | (rw [HE.out.1]; done) | (rw [HE.out.1]; rfl), by rw [HE.out.2]; exact OwnM.nil _ _ _ _, hl⟩
    ·have hI2 : Hid (∀ j x, j < i + 1 → [a, b, c, d][j]? = some x → zmr x) := fun j x hj hx => by
      rcases Nat.lt_or_ge j i with h | h
      ·exact hI.out j x h hx
      ·obtain rfl : j = i := by omega
       rw [HZ.out] at hx
       cases hx
       exact ⟨h1, h2⟩
     go_wp2
     go_roundw
     case rel => exact ⟨i + 1, HLT.out, zac i, hI2, by first | rfl | trivial⟩
     case measure => exact zar HLT.out
  ·exfalso
   obtain rfl : i = 4 := by omega
   exact HOK.out ⟨hI.out 0 _ (by omega) rfl, hI.out 1 _ (by omega) rfl, hI.out 2 _ (by omega) rfl, hI.out 3 _ (by omega) rfl⟩
theorem zjr (a b c d : Int) (w : World) :
  Calls Tryz.prog 22 #[.agg #[.int .i64 a, .int .i64 b], .agg #[.int .i64 c, .int .i64 d]] w (LenP w a b c d) := by
 by_cases h : zg4 a b c d
 ·exact zhJ a b c d w h
 ·exact zjq a b c d w h
end Go.Proofs.YtpmbglhbcjbkcaaGreat
