/- Several texts in one: RdCm. -/
import Derived.Test.YtpmbglhbcjbkcaaGreatH45
import Derived.Test.YtpmbglhbcjbkcaaGreatH37
namespace Go.Proofs.YtpmbglhbcjbkcaaGreat
set_option maxHeartbeats 16000000
set_option maxRecDepth 100000
open Go.RowKit
set_option linter.unusedSimpArgs false
set_option linter.unusedVariables false
noncomputable def zcx (L : List (Int × Int)) (u v : Int) : List Nat → Int × Int
 | [] => (0, 9)
 | k :: ks => if 0 < zaT (sLo L k) (2 ^ k) * v - u * zaU (sLo L k) (2 ^ k) then (1, 0) else if zaT (sHi L k) (2 ^ k) * v - u * zaU (sHi L k) (2 ^ k) < 0 then (-1, 0) else zcx L u v ks
noncomputable def zey (L : List (Int × Int)) (u v : Int) : Int × Int :=
 if ckE L = 0 then (@ite _ (zhk u v) (Classical.propDecidable _) (match L with
  | [] => (zaq (0 * v - u * 1), 0)
  | [(t, w)] => if w = 1 then (zaq (t * v - u * 1), 0) else zcx [(t, w)] u v za1
  | l => zcx l u v za1) (0, 20)) else (0, 30)
theorem zmu {L : List (Int × Int)} {u v : Int} (h : ¬ ValidR L) : zey L u v = (0, 30) := by unfold zey; rw [zcm h]; rfl
theorem zjt {L : List (Int × Int)} {u v : Int} (h : ValidR L) (h2 : ¬ zhk u v) : zey L u v = (0, 20) := by
 unfold zey; rw [if_pos (zaG h)]; exact if_neg h2
theorem zmv {u v : Int} (h : ValidR []) (h2 : zhk u v) : zey [] u v = (zaq (0 * v - u * 1), 0) := by
 unfold zey; rw [if_pos (zaG h)]; exact if_pos h2
theorem ziH {t u v : Int} (h : ValidR [(t, 1)]) (h2 : zhk u v) : zey [(t, 1)] u v = (zaq (t * v - u * 1), 0) := by
 unfold zey; rw [if_pos (zaG h)]; refine (if_pos h2).trans ?_; simp
theorem zdg {L : List (Int × Int)} {u v : Int} (h : ValidR L) (h2 : zhk u v) (h0 : L ≠ []) (h1 : ∀ t, L ≠ [(t, 1)]) : zey L u v = zcx L u v za1 := by
 unfold zey; rw [if_pos (zaG h)]; refine (if_pos h2).trans ?_
 match L, h0, h1 with
 | [(t, w)], _, h1 =>
   have hw : w ≠ 1 := fun e => h1 t (by rw [e])
   simp [hw]
 | _ :: _ :: _, _, _ => rfl
def zm5 (w : World) (p : Int × Int) (e : Ending) (w' : World) : Prop := e = .returned (.tuple #[.int .i64 p.1, .int .i64 p.2]) ∧ Lat w w'
theorem cell_far {w : World} {g h : Nat} (v : Value) (hne : h ≠ g) : (w.setCell ⟨g, 0, none⟩ v).cell? ⟨h, 0, none⟩ = w.cell? ⟨h, 0, none⟩ := World.cell?_of_block (Below.heap_setCell w ⟨g, 0, none⟩ v h hne)
theorem frozen_far {w : World} {g h : Nat} (v : Value) (hne : h ≠ g) : (w.setCell ⟨g, 0, none⟩ v).frozen? ⟨h, 0, none⟩ = w.frozen? ⟨h, 0, none⟩ := by
 unfold World.frozen?
 rw [Below.heap_setCell w ⟨g, 0, none⟩ v h hne]
section
variable {o : Oper} {a : Act} {w : World} {K : Act → World → Prop} {Q : Exit → Act → World → Prop}
theorem zm6 (x y : Operand) (ho : o.op = .store 3 x y) (g : Nat) {z : Int} {old : Value} (hx : a.eval x = .pointer (some ⟨g, 0, none⟩)) (hy : a.eval y = .int .i64 z) (hc : w.cell? ⟨g, 0, none⟩ = some old) (hf : w.frozen? ⟨g, 0, none⟩ = false)
  (h : K (a.put o.dst undef) (w.setCell ⟨g, 0, none⟩ (.int .i64 z))) : o.wp Tryz.prog a w K Q := by
 obtain ⟨d, op, ty, p, af, gg⟩ := o
 simp only at ho
 subst ho
 unfold Oper.wp execOp
 generalize he : a.eval = ev at hx hy
 simp only [hx, hy]
 go_simp
 exact h
theorem zm7 (x y : Operand) (ho : o.op = .store 28 x y) (g : Nat) {z : Int} {old : Value} (hx : a.eval x = .pointer (some ⟨g, 0, none⟩)) (hy : a.eval y = .int .i64 z) (hc : w.cell? ⟨g, 0, none⟩ = some old) (hf : w.frozen? ⟨g, 0, none⟩ = false)
  (h : K (a.put o.dst undef) (w.setCell ⟨g, 0, none⟩ (.int .i64 z))) : o.wp Tryz.prog a w K Q := by
 obtain ⟨d, op, ty, p, af, gg⟩ := o
 simp only at ho
 subst ho
 unfold Oper.wp execOp
 generalize he : a.eval = ev at hx hy
 simp only [hx, hy]
 go_simp
 exact h
end
theorem zgd {W : World} {g h : Nat} {s r : Int} {x y : Value} {T : Array Value} (h4 : T[4]? = some (.pointer (some ⟨g, 0, none⟩))) (h5 : T[5]? = some (.pointer (some ⟨h, 0, none⟩))) (hne : h ≠ g) (k4 : Blk W g 3 #[x]) (k5 : Blk W h 28 #[y]) :
  (results Tryz.f14 T).run Tryz.prog ((W.setCell ⟨g, 0, none⟩ (.int .i64 s)).setCell ⟨h, 0, none⟩ (.int .i64 r)) = .ok (.tuple #[.int .i64 s, .int .i64 r]) ((W.setCell ⟨g, 0, none⟩ (.int .i64 s)).setCell ⟨h, 0, none⟩ (.int .i64 r)) := by
 have c5 := ((k5.far (p := ⟨g, 0, none⟩) hne (.int .i64 s)).set 0 (.int .i64 r)).cell 0
 have c4 := ((k4.set 0 (.int .i64 s)).far (p := ⟨h, 0, none⟩) (fun e => hne e.symm) (.int .i64 r)).cell 0
 simp at c4 c5
 unfold results
 rw [Tryz.results14]
 simp [h4, h5, asAddr, go_sem, c4, c5]
theorem zlj (T : Array Value) (h : T.size = 58) : ∃ f : Nat → Value, (∀ k, f k = T.getD k undef) ∧ T = #[f 0, f 1, f 2, f 3, f 4, f 5, f 6, f 7, f 8, f 9, f 10, f 11, f 12, f 13, f 14, f 15, f 16, f 17, f 18, f 19, f 20, f 21, f 22, f 23, f 24, f 25, f 26, f 27, f 28, f 29, f 30, f 31, f 32, f 33, f 34, f 35, f 36, f 37, f 38, f 39, f 40, f 41, f 42, f 43, f 44, f 45, f 46, f 47, f 48, f 49, f 50, f 51, f 52, f 53, f 54, f 55, f 56, f 57] := ⟨fun k => T.getD k undef, fun _ => rfl, (spell 58 T h).trans (by kernel_rfl)⟩
noncomputable def zge (g4 g5 g8 : Nat) (x0 z0 : Bool) (xA zA : Option Addr) (xn xc zn zc : Nat) (s : Int) : List SRow := [
 ⟨.call { callee := .value (.func 48), args := #[.const (.int .i64 0)], argTypes := #[3] }, some 26, none, [], RTV 0 1 8⟩,
 ⟨.load 94 (.tmp 8), some 27, none, [], fun v _ => v = .agg #[.bool x0, .slice xA xn xc, .bool z0, .slice zA zn zc]⟩,
 ⟨.call { callee := .value (.func 49), args := #[.tmp 26, .tmp 27], argTypes := #[94, 94] }, some 28, none, [0, 1, 0], fun v _ => v = .int .i64 s⟩]
noncomputable def ziI (g4 g5 g8 : Nat) (x0 z0 : Bool) (xA zA : Option Addr) (xn xc zn zc : Nat) (s : Int) (v0 v9 v10 v48 v49 : Value) : List (Nat × Value) := [(4, .pointer (some ⟨g4, 0, none⟩)), (5, .pointer (some ⟨g5, 0, none⟩)), (8, .pointer (some ⟨g8, 0, none⟩)), (0, v0), (9, v9), (10, v10), (48, v48), (49, v49)]
theorem zlk (V : World) (g4 g5 g8 : Nat) (x0 z0 : Bool) (xA zA : Option Addr) (xn xc zn zc : Nat) (s : Int) (v0 v9 v10 v48 v49 : Value) (R8 : ∀ w', Lat V w' → w'.rangeAt g8 0 [.bool x0, .slice xA xn xc, .bool z0, .slice zA zn zc]) (J4 : (Tryz.prog.info? 94).map (·.size) = some 4)
  (HF : ∀ w, Calls Tryz.prog 48 #[.int .i64 0] w (RatPost w 0 1 8))
  (HCM : ∀ b A n c b' A' n' c' w, Lat V w → Lg w b A n c 0 → n ≤ 8 → Lg w b' A' n' c' 1 → n' ≤ 8 → Calls Tryz.prog 49 #[.agg #[.bool b, .slice A n c, .bool b', .slice A' n' c'], .agg #[.bool x0, .slice xA xn xc, .bool z0, .slice zA zn zc]] w (fun e w' => e = .returned (.int .i64 s) ∧ Lat w w')) :
  AllSteps Tryz.prog (zge g4 g5 g8 x0 z0 xA zA xn xc zn zc s) (ziI g4 g5 g8 x0 z0 xA zA xn xc zn zc s v0 v9 v10 v48 v49) V (zge g4 g5 g8 x0 z0 xA zA xn xc zn zc s) := by
 refine nS ?_ fun a w hl hb hd o ho => by exact Runs.call (zan (f := 48) (fun _ => by go_simp) o ho (by simp only [List.map_toArray, List.map_cons, List.map_nil, eval_const])) ((HF w).mono fun e w' h => h.runR)
 refine nS ?_ fun a w hl hb hd o ho => by have e1 := hb 8 _ rfl; exact Runs.val (zah (S := Lat V) e1 R8 Tryz.underlying94 rfl J4 o w ho hl) ⟨Lat.refl _, fun _ => rfl⟩
 refine nS ?_ fun a w hl hb hd o ho => by obtain ⟨v1, e1, q1⟩ := hd 0 _ _ (by simp) rfl rfl; obtain ⟨b1, A1, n1, c1, d1, B1, i1, j1, rfl, r1, m1, s1, t1⟩ := (show RTV 0 1 8 v1 w from q1); obtain ⟨_, e2, rfl⟩ := hd 1 _ _ (by simp) rfl rfl; exact rcC o ho (HCM _ _ _ _ _ _ _ _ w hl r1 m1 s1 t1)
 exact AllSteps.none
noncomputable def zez (g4 g5 g8 : Nat) (x0 z0 : Bool) (xA zA : Option Addr) (xn xc zn zc : Nat) (s : Int) (gr oo c : Nat) (t : Int) : List SRow := [
 ⟨.move (.tmp 0), some 39, none, [], fun v _ => v = .slice (some ⟨gr, oo, none⟩) 1 c⟩,
 ⟨.indexAddr 27 (.tmp 39) (.const (.int .i64 0)), some 40, none, [0], fun v _ => v = .pointer (some ⟨gr, oo, none⟩)⟩,
 ⟨.fieldAddr 72 (.tmp 40) 0, some 41, none, [1], fun v _ => v = .pointer (some ⟨gr, oo, none⟩)⟩,
 ⟨.load 3 (.tmp 41), some 42, none, [2], fun v _ => v = .int .i64 t⟩,
 ⟨.call { callee := .value (.func 48), args := #[.tmp 42], argTypes := #[3] }, some 43, none, [3], RTV t 1 8⟩,
 ⟨.load 94 (.tmp 8), some 44, none, [], fun v _ => v = .agg #[.bool x0, .slice xA xn xc, .bool z0, .slice zA zn zc]⟩,
 ⟨.call { callee := .value (.func 49), args := #[.tmp 43, .tmp 44], argTypes := #[94, 94] }, some 45, none, [4, 5, 4], fun v _ => v = .int .i64 s⟩]
noncomputable def zg5 (g4 g5 g8 : Nat) (x0 z0 : Bool) (xA zA : Option Addr) (xn xc zn zc : Nat) (s : Int) (gr oo c : Nat) (t : Int) (v9 v10 v48 v49 : Value) : List (Nat × Value) := [(4, .pointer (some ⟨g4, 0, none⟩)), (5, .pointer (some ⟨g5, 0, none⟩)), (8, .pointer (some ⟨g8, 0, none⟩)), (0, .slice (some ⟨gr, oo, none⟩) 1 c), (9, v9), (10, v10), (48, v48), (49, v49)]
theorem zju (V : World) (g4 g5 g8 : Nat) (x0 z0 : Bool) (xA zA : Option Addr) (xn xc zn zc : Nat) (s : Int) (gr oo c : Nat) (t : Int) (v9 v10 v48 v49 : Value) (R8 : ∀ w', Lat V w' → w'.rangeAt g8 0 [.bool x0, .slice xA xn xc, .bool z0, .slice zA zn zc]) (J4 : (Tryz.prog.info? 94).map (·.size) = some 4)
  (HF : ∀ w, Calls Tryz.prog 48 #[.int .i64 t] w (RatPost w t 1 8))
  (HCM : ∀ b A n c b' A' n' c' w, Lat V w → Lg w b A n c t → n ≤ 8 → Lg w b' A' n' c' 1 → n' ≤ 8 → Calls Tryz.prog 49 #[.agg #[.bool b, .slice A n c, .bool b', .slice A' n' c'], .agg #[.bool x0, .slice xA xn xc, .bool z0, .slice zA zn zc]] w (fun e w' => e = .returned (.int .i64 s) ∧ Lat w w'))
  (HT : ∀ w', Lat V w' → w'.cell? ⟨gr, oo, none⟩ = some (.int .i64 t)) :
  AllSteps Tryz.prog (zez g4 g5 g8 x0 z0 xA zA xn xc zn zc s gr oo c t) (zg5 g4 g5 g8 x0 z0 xA zA xn xc zn zc s gr oo c t v9 v10 v48 v49) V (zez g4 g5 g8 x0 z0 xA zA xn xc zn zc s gr oo c t) := by
 refine nS ?_ fun a w hl hb hd o ho => by have e1 := hb 0 _ rfl; exact rp1 o ho e1 fun ev ec e1 d ty p af g => by unfold execOp; simp only [e1, ec]; go_simp
 refine nS ?_ fun a w hl hb hd o ho => by obtain ⟨_, e1, rfl⟩ := hd 0 _ _ (by simp) rfl rfl; exact rp1 o ho e1 fun ev ec e1 d ty p af g => by unfold execOp; simp only [e1, ec]; go_simp
 refine nS ?_ fun a w hl hb hd o ho => by obtain ⟨_, e1, rfl⟩ := hd 1 _ _ (by simp) rfl rfl; exact rp1 o ho e1 fun ev ec e1 d ty p af g => by unfold execOp; simp only [e1, ec]; go_simp
 refine nS ?_ fun a w hl hb hd o ho => by obtain ⟨_, e1, rfl⟩ := hd 2 _ _ (by simp) rfl rfl; exact rp1 o ho e1 fun ev ec e1 d ty p af g => by unfold execOp; simp only [e1, ec]; have hc := HT w hl; go_simp
 refine nS ?_ fun a w hl hb hd o ho => by obtain ⟨_, e1, rfl⟩ := hd 3 _ _ (by simp) rfl rfl; exact Runs.call (zan (f := 48) (fun _ => by go_simp) o ho (by simp only [List.map_toArray, List.map_cons, List.map_nil, eval_const, e1])) ((HF w).mono fun e w' h => h.runR)
 refine nS ?_ fun a w hl hb hd o ho => by have e1 := hb 8 _ rfl; exact Runs.val (zah (S := Lat V) e1 R8 Tryz.underlying94 rfl J4 o w ho hl) ⟨Lat.refl _, fun _ => rfl⟩
 refine nS ?_ fun a w hl hb hd o ho => by obtain ⟨v1, e1, q1⟩ := hd 4 _ _ (by simp) rfl rfl; obtain ⟨b1, A1, n1, c1, d1, B1, i1, j1, rfl, r1, m1, s1, t1⟩ := (show RTV t 1 8 v1 w from q1); obtain ⟨_, e2, rfl⟩ := hd 5 _ _ (by simp) rfl rfl; exact rcC o ho (HCM _ _ _ _ _ _ _ _ w hl r1 m1 s1 t1)
 exact AllSteps.none
theorem znQ (A : Option Addr) (n c : Nat) (L : List (Int × Int)) (u v : W8) (w : World) (hs : RowM w A 2 n (zab L)) (hn : n ≤ 1000000) (hL : ¬ ValidR L) :
  Calls Tryz.prog 14 #[.slice A n c, .agg (W8.two u v)] w (zm5 w (zey L u.toInt v.toInt)) := by
 have HE := Lib.hid (zmu (u := u.toInt) (v := v.toInt) hL)
 have HC := Lib.hid (fun w' (h : Lat w w') => by have := zaP A n c L w' (hs.later h) hn; rwa [zcm hL] at this)
 clear hs hL
 go_enter Tryz.func14, Tryz.ntmps14
 go_upto_region 1 with (fail)
 refine za0 (Q := fun W => Code.wp _ _ _ _ W) ?_
 intro W hl hsz k3 k4 k5
 obtain ⟨g5, hg5⟩ : ∃ z, w.heap.size + 1 + 1 = z := ⟨_, rfl⟩
 obtain ⟨g4, hg4⟩ : ∃ z, w.heap.size + 1 = z := ⟨_, rfl⟩
 obtain ⟨g3, hg3⟩ : ∃ z, w.heap.size = z := ⟨_, rfl⟩
 have HG : Hid (g3 < g4 ∧ g4 < g5 ∧ w.heap.size = g3) := by show g3 < g4 ∧ g4 < g5 ∧ w.heap.size = g3; omega
 rw [hg5] at k5 ⊢
 rw [hg4] at k4 ⊢
 rw [hg3] at k3 ⊢
 clear hg5 hg4 hg3 hsz
 go_wp2_with fail
 refine (HC.out W hl).mono ?_
 rintro e w1 ⟨rfl, l1⟩
 replace k3 := k3.later l1
 replace k4 := k4.later l1
 replace k5 := k5.later l1
 have L1 := hl.trans l1
 clear hl l1 HC
 have HL := Lib.hid L1
 have c4 := k4.cell 0
 have f4 := k4.frozen 0
 have c5 := k5.cell 0
 have f5 := k5.frozen 0
 have ne1 : ¬ g4 = g5 := by have := HG.out; omega
 have ne2 : ¬ g5 = g4 := by have := HG.out; omega
 have K4 := Lib.hid k4
 have K5 := Lib.hid k5
 clear k3 k4 k5 L1
 go_wp2
 refine bodyPost_ret (v := .tuple #[.int .i64 0, .int .i64 30]) (zgd rfl rfl ne2 K4.out K5.out) rfl ?_
 exact ⟨by rw [HE.out], (HL.out.setCell (p := ⟨g4, 0, none⟩) (by have := HG.out; show _ ≤ g4; omega) _).setCell (p := ⟨g5, 0, none⟩) (by have := HG.out; show _ ≤ g5; omega) _⟩
theorem zll (A : Option Addr) (n c : Nat) (L : List (Int × Int)) (u v : W8) (hu : u.ok) (hv : v.ok) (w : World) (hs : RowM w A 2 n (zab L)) (hn : n ≤ 1000000) (hL : ValidR L) (hok : ¬ zhk u.toInt v.toInt) :
  Calls Tryz.prog 14 #[.slice A n c, .agg (W8.two u v)] w (zm5 w (zey L u.toInt v.toInt)) := by
 have HE := Lib.hid (zjt hL hok)
 have HC := Lib.hid (fun w' (h : Lat w w') => by have := zaP A n c L w' (hs.later h) hn; rwa [zaG hL] at this)
 have HSC := Lib.hid (fun w => zhL u v hu hv hok w)
 clear hs hL hok
 go_enter Tryz.func14, Tryz.ntmps14
 go_upto_region 1 with (fail)
 refine za0 (Q := fun W => Code.wp _ _ _ _ W) ?_
 intro W hl hsz k3 k4 k5
 obtain ⟨g5, hg5⟩ : ∃ z, w.heap.size + 1 + 1 = z := ⟨_, rfl⟩
 obtain ⟨g4, hg4⟩ : ∃ z, w.heap.size + 1 = z := ⟨_, rfl⟩
 obtain ⟨g3, hg3⟩ : ∃ z, w.heap.size = z := ⟨_, rfl⟩
 have HG : Hid (g3 < g4 ∧ g4 < g5 ∧ w.heap.size = g3) := by show g3 < g4 ∧ g4 < g5 ∧ w.heap.size = g3; omega
 rw [hg5] at k5 ⊢
 rw [hg4] at k4 ⊢
 rw [hg3] at k3 ⊢
 clear hg5 hg4 hg3 hsz
 go_wp2_with fail
 refine (HC.out W hl).mono ?_
 rintro e w1 ⟨rfl, l1⟩
 replace k3 := k3.later l1
 replace k4 := k4.later l1
 replace k5 := k5.later l1
 have L1 := hl.trans l1
 clear hl l1 HC
 go_wp2_with (refine zaW (by rfl) 40 (.tmp 3) (by rfl) g3 (by rfl) k3 _ Tryz.underlying40 rfl zao ?_)
 refine (HSC.out w1).mono ?_
 rintro e w2 ⟨rfl, l2⟩
 replace k4 := k4.later l2
 replace k5 := k5.later l2
 replace L1 := L1.trans l2
 clear l2 HSC
 have HL := Lib.hid L1
 have c4 := k4.cell 0
 have f4 := k4.frozen 0
 have c5 := k5.cell 0
 have f5 := k5.frozen 0
 have ne1 : ¬ g4 = g5 := by have := HG.out; omega
 have ne2 : ¬ g5 = g4 := by have := HG.out; omega
 have K4 := Lib.hid k4
 have K5 := Lib.hid k5
 clear k3 k4 k5 L1
 go_wp2
 refine bodyPost_ret (v := .tuple #[.int .i64 0, .int .i64 20]) (zgd rfl rfl ne2 K4.out K5.out) rfl ?_
 exact ⟨by rw [HE.out], (HL.out.setCell (p := ⟨g4, 0, none⟩) (by have := HG.out; show _ ≤ g4; omega) _).setCell (p := ⟨g5, 0, none⟩) (by have := HG.out; show _ ≤ g5; omega) _⟩
theorem znR (A : Option Addr) (c : Nat) (u v : W8) (hu : u.ok) (hv : v.ok) (w : World) (hs : RowM w A 2 0 (zab [])) (hL : ValidR []) (hok : zhk u.toInt v.toInt) :
  Calls Tryz.prog 14 #[.slice A 0 c, .agg (W8.two u v)] w (zm5 w (zey [] u.toInt v.toInt)) := by
 obtain ⟨n, hn0⟩ : ∃ z, 0 = z := ⟨_, rfl⟩
 obtain ⟨L, hLd⟩ : ∃ z : List (Int × Int), [] = z := ⟨_, rfl⟩
 have HE : Hid (zey L u.toInt v.toInt = (zaq (0 * v.toInt - u.toInt * 1), 0)) := by rw [← hLd]; exact zmv hL hok
 rw [hn0] at hs ⊢
 rw [hLd] at hs hL ⊢
 have hn : n ≤ 1000000 := by omega
 have HC := Lib.hid (fun w' (h : Lat w w') => by have := zaP A n c L w' (hs.later h) hn; rwa [zaG hL] at this)
 have HSC := Lib.hid (fun w => zcr u v hu hv hok w)
 have HRD := Lib.hid (fun w => zbn u v hu hv w)
 have HF := fun w => zfr 0 (by decide) (by decide) w
 have hnI : (n : Int) = 0 := by omega
 clear hs hL hok hn hLd hn0
 go_enter Tryz.func14, Tryz.ntmps14
 go_upto_region 1 with (fail)
 refine za0 (Q := fun W => Code.wp _ _ _ _ W) ?_
 intro W hl hsz k3 k4 k5
 obtain ⟨g5, hg5⟩ : ∃ z, w.heap.size + 1 + 1 = z := ⟨_, rfl⟩
 obtain ⟨g4, hg4⟩ : ∃ z, w.heap.size + 1 = z := ⟨_, rfl⟩
 obtain ⟨g3, hg3⟩ : ∃ z, w.heap.size = z := ⟨_, rfl⟩
 have HG : Hid (g3 < g4 ∧ g4 < g5 ∧ w.heap.size = g3) := by show g3 < g4 ∧ g4 < g5 ∧ w.heap.size = g3; omega
 rw [hg5] at k5 ⊢
 rw [hg4] at k4 ⊢
 rw [hg3] at k3 ⊢
 clear hg5 hg4 hg3 hsz
 go_wp2_with fail
 refine (HC.out W hl).mono ?_
 rintro e w1 ⟨rfl, l1⟩
 replace k3 := k3.later l1
 replace k4 := k4.later l1
 replace k5 := k5.later l1
 have L1 := hl.trans l1
 clear hl l1 HC
 go_wp2_with (refine zaW (by rfl) 40 (.tmp 3) (by rfl) g3 (by rfl) k3 _ Tryz.underlying40 rfl zao ?_)
 refine (HSC.out w1).mono ?_
 rintro e w2 ⟨rfl, l2⟩
 replace k3 := k3.later l2
 replace k4 := k4.later l2
 replace k5 := k5.later l2
 replace L1 := L1.trans l2
 clear l2 HSC
 go_wp2_with (refine zaW (by rfl) 40 (.tmp 3) (by rfl) g3 (by rfl) k3 _ Tryz.underlying40 rfl zao ?_)
 refine (HRD.out w2).mono ?_
 rintro e w3 ⟨x0, xA, xn, xc, z0, zA, zn, zc, rfl, rx, mx, rz, mz, l3⟩
 replace k4 := k4.later l3
 replace k5 := k5.later l3
 replace L1 := L1.trans l3
 clear l3 HRD k3
 go_upto_region 8 with (fail)
 refine zas (Q := fun W => Code.wp _ _ _ _ W) ?_
 intro w8 la hsx k8
 obtain ⟨g8, hg8⟩ : ∃ z, w3.heap.size = z := ⟨_, rfl⟩
 have HG8 : Hid (g5 < g8) := by have := k5.lt; show g5 < g8; omega
 rw [hg8] at k8 ⊢
 replace k4 := k4.later la
 replace k5 := k5.later la
 replace rx := rx.later la
 replace rz := rz.later la
 replace L1 := L1.trans la
 clear la hsx hg8
 obtain ⟨s, hsd⟩ : ∃ z, zaq (0 * v.toInt - u.toInt * 1) = z := ⟨_, rfl⟩
 rw [hsd] at HE
 have R8 : ∀ w', Lat w8 w' → w'.rangeAt g8 0 [.bool x0, .slice xA xn xc, .bool z0, .slice zA zn zc] := fun w' hl => (k8.later hl).rangeAll
 have J4 : (Tryz.prog.info? 94).map (·.size) = some 4 := by kernel_rfl
 have HCM : ∀ b A n c b' A' n' c' w, Lat w8 w → Lg w b A n c 0 → n ≤ 8 → Lg w b' A' n' c' 1 → n' ≤ 8 → Calls Tryz.prog 49 #[.agg #[.bool b, .slice A n c, .bool b', .slice A' n' c'], .agg #[.bool x0, .slice xA xn xc, .bool z0, .slice zA zn zc]] w (fun e w' => e = .returned (.int .i64 s) ∧ Lat w w') := fun b A n c b' A' n' c' w hl h1 h2 h3 h4 => by
  rw [← hsd]
  exact zbB b A n c 0 b' A' n' c' 1 x0 xA xn xc u.toInt z0 zA zn zc v.toInt w h1 h3 (rx.later hl) (rz.later hl) (by omega) (by omega) (by omega) (by omega)
 have hne9 : g5 ≠ g4 := by have := HG.out; omega
 obtain rfl : n = 0 := by omega
 clear hnI hsd
 go_upto_region 9 with (fail)
 rename_i KN hKN
 refine zau (zge g4 g5 g8 x0 z0 xA zA xn xc zn zc s) (ziI g4 g5 g8 x0 z0 xA zA xn xc zn zc s _ _ _ _ _) 58 3 [[], [], [0, 1, 0], [2, 2, 0, 1, 2], [3, 0, 1, 2, 3]] (by kernel_rfl) _ rfl rfl _ rfl rfl (by kernel_rfl) (by kernel_rfl) (by kernel_rfl) (by kernel_rfl) (by kernel_rfl) (by kernel_rfl) (by kernel_rfl) (by rfl) rfl (base_of (by repeat (first | exact base_nil _ | refine zad rfl ?_))) (zlk w8 g4 g5 g8 x0 z0 xA zA xn xc zn zc s _ _ _ _ _ R8 J4 HF HCM) ?_
 intro a9 W9 hsz9 hdf9 hL9 hbs hsl
 obtain ⟨v8, h8, q8⟩ := hsl 2 _ _ rfl rfl
 obtain rfl := q8
 have K8 := k4.later hL9
 have K9 := k5.later hL9
 refine zm6 (.tmp 4) (.tmp 28) rfl g4 (hbs 4 _ rfl).ev h8.ev (K8.cell 0) (K8.frozen 0) ?_
 refine zm7 (.tmp 5) (.const _) rfl g5 (hbs 5 _ rfl).ev rfl (by rw [cell_far _ hne9]; exact K9.cell 0) (by rw [frozen_far _ hne9]; exact K9.frozen 0) ?_
 refine hKN _ _ ?_
 obtain ⟨T9, df9⟩ := a9
 obtain rfl : df9 = [] := hdf9
 obtain ⟨f, hf, rfl⟩ := zlj T9 hsz9
 have X9 := fun k v h => (hf k).trans (zaa (hbs k v h))
 clear hbs hsl hf hsz9 hKN
 simp only [Act.put, X9 4 _ rfl, X9 5 _ rfl, X9 8 _ rfl, X9 0 _ rfl, X9 9 _ rfl, X9 10 _ rfl, X9 48 _ rfl, X9 49 _ rfl]
 clear X9
 have HL := Lib.hid ((L1.trans hL9).setCell (p := ⟨g4, 0, none⟩) (by have := HG.out; show _ ≤ g4; omega) (.int .i64 s))
 have K4 := Lib.hid K8
 have K5 := Lib.hid K9
 have HL2 := Lib.hid (HL.out.setCell (p := ⟨g5, 0, none⟩) (by have := HG.out; show _ ≤ g5; omega) (.int .i64 0))
 clear K8 K9 k4 k5 k8 rx rz L1 hL9 R8 HF HCM
 go_wp2
 refine bodyPost_ret (v := .tuple #[.int .i64 s, .int .i64 0]) (zgd rfl rfl hne9 K4.out K5.out) rfl ?_
 exact ⟨by rw [HE.out], HL2.out⟩
theorem znS (A : Option Addr) (c : Nat) (t : Int) (u v : W8) (hu : u.ok) (hv : v.ok) (w : World) (hs : RowM w A 2 1 (zab [(t, 1)])) (hL : ValidR [(t, 1)]) (hok : zhk u.toInt v.toInt) :
  Calls Tryz.prog 14 #[.slice A 1 c, .agg (W8.two u v)] w (zm5 w (zey [(t, 1)] u.toInt v.toInt)) := by
 obtain ⟨gr, oo, x, rfl, hgr, hx, c0, c1⟩ := zaL hs (k := 0) (by decide)
 have hxe : x = (t, 1) := by simpa using hx.symm
 subst hxe
 simp only [Nat.zero_mul, Nat.add_zero] at c0 c1
 have ht := (hL.term (t, 1) (by simp)).2.2.2.1
 unfold zbo at ht
 obtain ⟨L, hLd⟩ : ∃ z : List (Int × Int), [(t, 1)] = z := ⟨_, rfl⟩
 have HE : Hid (zey L u.toInt v.toInt = (zaq (t * v.toInt - u.toInt * 1), 0)) := by rw [← hLd]; exact ziH hL hok
 rw [hLd] at hs hL ⊢
 obtain ⟨n, hn0⟩ : ∃ z, 1 = z := ⟨_, rfl⟩
 obtain ⟨A, hA⟩ : ∃ z, some (⟨gr, oo, none⟩ : Addr) = z := ⟨_, rfl⟩
 have CE0 := Lib.hid (fun w' (h : Lat w w') => h.cell (p := ⟨gr, oo, none⟩) hgr c0)
 have CE1 := Lib.hid (fun w' (h : Lat w w') => h.cell (p := ⟨gr, oo + 1, none⟩) hgr c1)
 rw [hn0, hA] at hs ⊢
 have hn : n ≤ 1000000 := by omega
 have HC := Lib.hid (fun w' (h : Lat w w') => by have := zaP A n c L w' (hs.later h) hn; rwa [zaG hL] at this)
 have HSC := Lib.hid (fun w => zcr u v hu hv hok w)
 have HRD := Lib.hid (fun w => zbn u v hu hv w)
 have HF := Lib.hid (fun w => zfr t (by omega) (by omega) w)
 have HN0 := Lib.hid hn0
 have HA0 := Lib.hid hA
 clear hs hL hok hn hLd hgr c0 c1 hx ht hn0 hA
 go_enter Tryz.func14, Tryz.ntmps14
 go_upto_region 1 with (fail)
 refine za0 (Q := fun W => Code.wp _ _ _ _ W) ?_
 intro W hl hsz k3 k4 k5
 obtain ⟨g5, hg5⟩ : ∃ z, w.heap.size + 1 + 1 = z := ⟨_, rfl⟩
 obtain ⟨g4, hg4⟩ : ∃ z, w.heap.size + 1 = z := ⟨_, rfl⟩
 obtain ⟨g3, hg3⟩ : ∃ z, w.heap.size = z := ⟨_, rfl⟩
 have HG : Hid (g3 < g4 ∧ g4 < g5 ∧ w.heap.size = g3) := by show g3 < g4 ∧ g4 < g5 ∧ w.heap.size = g3; omega
 rw [hg5] at k5 ⊢
 rw [hg4] at k4 ⊢
 rw [hg3] at k3 ⊢
 clear hg5 hg4 hg3 hsz
 go_wp2_with fail
 refine (HC.out W hl).mono ?_
 rintro e w1 ⟨rfl, l1⟩
 replace k3 := k3.later l1
 replace k4 := k4.later l1
 replace k5 := k5.later l1
 have L1 := hl.trans l1
 clear hl l1 HC
 go_wp2_with (refine zaW (by rfl) 40 (.tmp 3) (by rfl) g3 (by rfl) k3 _ Tryz.underlying40 rfl zao ?_)
 refine (HSC.out w1).mono ?_
 rintro e w2 ⟨rfl, l2⟩
 replace k3 := k3.later l2
 replace k4 := k4.later l2
 replace k5 := k5.later l2
 replace L1 := L1.trans l2
 clear l2 HSC
 go_wp2_with (refine zaW (by rfl) 40 (.tmp 3) (by rfl) g3 (by rfl) k3 _ Tryz.underlying40 rfl zao ?_)
 refine (HRD.out w2).mono ?_
 rintro e w3 ⟨x0, xA, xn, xc, z0, zA, zn, zc, rfl, rx, mx, rz, mz, l3⟩
 replace k4 := k4.later l3
 replace k5 := k5.later l3
 replace L1 := L1.trans l3
 clear l3 HRD k3
 go_upto_region 8 with (fail)
 refine zas (Q := fun W => Code.wp _ _ _ _ W) ?_
 intro w8 la hsx k8
 obtain ⟨g8, hg8⟩ : ∃ z, w3.heap.size = z := ⟨_, rfl⟩
 have HG8 : Hid (g5 < g8) := by have := k5.lt; show g5 < g8; omega
 rw [hg8] at k8 ⊢
 replace k4 := k4.later la
 replace k5 := k5.later la
 replace rx := rx.later la
 replace rz := rz.later la
 replace L1 := L1.trans la
 clear la hsx hg8
 obtain rfl := HN0.out
 obtain rfl := HA0.out
 have hc0 := CE0.out w8 L1
 have hc1 := CE1.out w8 L1
 go_upto_region 11 with (fail)
 clear hc0 hc1
 obtain ⟨s, hsd⟩ : ∃ z, zaq (t * v.toInt - u.toInt * 1) = z := ⟨_, rfl⟩
 rw [hsd] at HE
 have R8 : ∀ w', Lat w8 w' → w'.rangeAt g8 0 [.bool x0, .slice xA xn xc, .bool z0, .slice zA zn zc] := fun w' hl => (k8.later hl).rangeAll
 have J4 : (Tryz.prog.info? 94).map (·.size) = some 4 := by kernel_rfl
 have HCM : ∀ b A n c b' A' n' c' w, Lat w8 w → Lg w b A n c t → n ≤ 8 → Lg w b' A' n' c' 1 → n' ≤ 8 → Calls Tryz.prog 49 #[.agg #[.bool b, .slice A n c, .bool b', .slice A' n' c'], .agg #[.bool x0, .slice xA xn xc, .bool z0, .slice zA zn zc]] w (fun e w' => e = .returned (.int .i64 s) ∧ Lat w w') := fun b A n c b' A' n' c' w hl h1 h2 h3 h4 => by
  rw [← hsd]
  exact zbB b A n c t b' A' n' c' 1 x0 xA xn xc u.toInt z0 zA zn zc v.toInt w h1 h3 (rx.later hl) (rz.later hl) (by omega) (by omega) (by omega) (by omega)
 have hne9 : g5 ≠ g4 := by have := HG.out; omega
 clear hsd
 have HT : ∀ w', Lat w8 w' → w'.cell? ⟨gr, oo, none⟩ = some (.int .i64 t) := fun w' hl => CE0.out w' (L1.trans hl)
 replace HF := HF.out
 rename_i KN hKN
 refine zau (zez g4 g5 g8 x0 z0 xA zA xn xc zn zc s gr oo c t) (zg5 g4 g5 g8 x0 z0 xA zA xn xc zn zc s gr oo c t _ _ _ _) 58 7 [[], [0], [1], [2], [3], [], [4, 5, 4], [6, 6, 0, 1, 2, 3, 4, 5, 6], [7, 0, 1, 2, 3, 4, 5, 6, 7]] (by kernel_rfl) _ rfl rfl _ rfl rfl (by kernel_rfl) (by kernel_rfl) (by kernel_rfl) (by kernel_rfl) (by kernel_rfl) (by kernel_rfl) (by kernel_rfl) (by rfl) rfl (base_of (by repeat (first | exact base_nil _ | refine zad rfl ?_))) (zju w8 g4 g5 g8 x0 z0 xA zA xn xc zn zc s gr oo c t _ _ _ _ R8 J4 HF HCM HT) ?_
 intro a9 W9 hsz9 hdf9 hL9 hbs hsl
 obtain ⟨v8, h8, q8⟩ := hsl 6 _ _ rfl rfl
 obtain rfl := q8
 have K8 := k4.later hL9
 have K9 := k5.later hL9
 refine zm6 (.tmp 4) (.tmp 45) rfl g4 (hbs 4 _ rfl).ev h8.ev (K8.cell 0) (K8.frozen 0) ?_
 refine zm7 (.tmp 5) (.const _) rfl g5 (hbs 5 _ rfl).ev rfl (by rw [cell_far _ hne9]; exact K9.cell 0) (by rw [frozen_far _ hne9]; exact K9.frozen 0) ?_
 refine hKN _ _ ?_
 obtain ⟨T9, df9⟩ := a9
 obtain rfl : df9 = [] := hdf9
 obtain ⟨f, hf, rfl⟩ := zlj T9 hsz9
 have X9 := fun k v h => (hf k).trans (zaa (hbs k v h))
 clear hbs hsl hf hsz9 hKN
 simp only [Act.put, X9 4 _ rfl, X9 5 _ rfl, X9 8 _ rfl, X9 0 _ rfl, X9 9 _ rfl, X9 10 _ rfl, X9 48 _ rfl, X9 49 _ rfl]
 clear X9
 have HL := Lib.hid ((L1.trans hL9).setCell (p := ⟨g4, 0, none⟩) (by have := HG.out; show _ ≤ g4; omega) (.int .i64 s))
 have K4 := Lib.hid K8
 have K5 := Lib.hid K9
 have HL2 := Lib.hid (HL.out.setCell (p := ⟨g5, 0, none⟩) (by have := HG.out; show _ ≤ g5; omega) (.int .i64 0))
 clear HT K8 K9 k4 k5 k8 rx rz L1 hL9 R8 HF HCM
 go_wp2
 refine bodyPost_ret (v := .tuple #[.int .i64 s, .int .i64 0]) (zgd rfl rfl hne9 K4.out K5.out) rfl ?_
 exact ⟨by rw [HE.out], HL2.out⟩
end Go.Proofs.YtpmbglhbcjbkcaaGreat
