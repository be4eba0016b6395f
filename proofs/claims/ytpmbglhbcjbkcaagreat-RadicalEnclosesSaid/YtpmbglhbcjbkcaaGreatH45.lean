/- Several texts in one: RdSh, ShBaR. -/
import Derived.Test.YtpmbglhbcjbkcaaGreatH44
namespace Go.Proofs.YtpmbglhbcjbkcaaGreat
set_option maxHeartbeats 16000000
set_option maxRecDepth 100000
open Go.RowKit
set_option linter.unusedSimpArgs false
set_option linter.unusedVariables false
theorem Lg.put0 {w w' : World} {b : Bool} {A : Option Addr} {n c : Nat} {z : Int} {g : Nat} {t : TypeId} {cs old : Array Value} (h : Lg w b A n c z) (hp : Put w w' g t cs) (hb : Blk w g t old) (hz : ∀ (j : Nat) (x : Int), old[j]? ≠ some (.int .u64 x)) : Lg w' b A n c z := by
 have ha := h.apart hb hz
 obtain ⟨hn, xs, hs, r⟩ := h
 refine ⟨hn, xs, ⟨hs.1, fun h0 => ?_⟩, r⟩
 obtain ⟨a, e, hlt, hc⟩ := hs.2 h0
 refine ⟨a, e, by rw [hp.size]; exact hlt, fun i x hx => ?_⟩
 have hk : w'.heap[(a.add i).block]? = w.heap[(a.add i).block]? := by rw [block_add]; exact hp.far _ (ha h0 a e)
 exact (World.cell?_of_block hk).trans (hc i x hx)
theorem zoA (T : Array Value) (h : T.size = 6) : ∃ f : Nat → Value, (∀ k, f k = T.getD k undef) ∧ T = #[f 0, f 1, f 2, f 3, f 4, f 5] := ⟨fun k => T.getD k undef, fun _ => rfl, (spell 6 T h).trans (by kernel_rfl)⟩
noncomputable def zga (b : Bool) (A : Option Addr) (n c N : Nat) (z : Int) : List SRow := [
 ⟨.load 88 (.tmp 1), some 3, none, [], fun v _ => v = .agg #[.bool b, .slice A n c]⟩,
 ⟨.call { callee := .value (.func 34), args := #[.const (.int .i64 1)], argTypes := #[3] }, some 4, none, [], GV 1 8⟩,
 ⟨.build 94 #[(0, .tmp 3), (1, .tmp 4)], some 5, none, [0, 1], RTV z 1 N⟩]
noncomputable def ziE (g1 g2 : Nat) (v0 : Value) : List (Nat × Value) := [(1, .pointer (some ⟨g1, 0, none⟩)), (2, .pointer (some ⟨g2, 0, none⟩)), (0, v0)]
theorem zld (V : World) (b : Bool) (A : Option Addr) (n c N : Nat) (z : Int) (g1 g2 : Nat) (v0 : Value) (R1 : ∀ w', Lat V w' → w'.rangeAt g1 0 [.bool b, .slice A n c]) (J2 : (Tryz.prog.info? 88).map (·.size) = some 2) (HF : ∀ w, Calls Tryz.prog 34 #[.int .i64 1] w (LongPost w 1 8)) (HZ : Lg V b A n c z) (hN : n ≤ N) (h8 : 8 ≤ N) :
  AllSteps Tryz.prog (zga b A n c N z) (ziE g1 g2 v0) V (zga b A n c N z) := by
 refine nS ?_ fun a w hl hb hd o ho => by have e1 := hb 1 _ rfl; exact Runs.val (zah (S := Lat V) e1 R1 Tryz.underlying88 rfl J2 o w ho hl) ⟨Lat.refl _, fun _ => rfl⟩
 refine nS ?_ fun a w hl hb hd o ho => by exact Runs.call (zan (f := 34) (fun _ => by go_simp) o ho (by simp only [List.map_toArray, List.map_cons, List.map_nil, eval_const])) ((HF w).mono fun e w' h => h.run)
 refine nS ?_ fun a w hl hb hd o ho => by obtain ⟨_, e1, rfl⟩ := hd 0 _ _ (by simp) rfl rfl; obtain ⟨v2, e2, q2⟩ := hd 1 _ _ (by simp) rfl rfl; obtain ⟨b2, A2, n2, c2, rfl, r2, m2⟩ := (show GV 1 8 v2 w from q2); obtain ⟨d, op, ty, p, af, gg⟩ := o; simp only at ho; subst ho; have ec : ∀ v, a.eval (.const v) = v := fun _ => rfl; exact Runs.val (by unfold execOp; generalize a.eval = ev at e1 e2 ec ⊢; simp only [e1, e2]; go_simp) ⟨Lat.refl _, fun _ => ⟨_, _, _, _, _, _, _, _, rfl, HZ.later hl, hN, r2, Nat.le_trans m2 h8⟩⟩
 exact AllSteps.none
theorem zle (b : Bool) (A : Option Addr) (n c N : Nat) (z : Int) (w : World) (h : Lg w b A n c z) (hN : n ≤ N) (h8 : 8 ≤ N) :
  Calls Tryz.prog 90 #[.agg #[.bool b, .slice A n c]] w (RatPost w z 1 N) := by
 have HF := fun w => zaY 1 (by decide) (by decide) w
 go_enter Tryz.func90, Tryz.ntmps90
 go_upto_region 1 with (fail)
 refine zaK (Q := fun W => Code.wp _ _ _ _ W) ?_
 intro W hl hsz k1 k2
 obtain ⟨g2, hg2⟩ : ∃ z, w.heap.size + 1 = z := ⟨_, rfl⟩
 obtain ⟨g1, hg1⟩ : ∃ z, w.heap.size = z := ⟨_, rfl⟩
 have hw2 : w.heap.size ≤ g2 := by omega
 rw [hg2] at k2 ⊢
 rw [hg1] at k1 ⊢
 have HZ := h.later hl
 clear hsz hg2 hg1 h
 have R1 : ∀ w', Lat W w' → w'.rangeAt g1 0 [.bool b, .slice A n c] := fun w' hl => (k1.later hl).rangeAll
 have J2 : (Tryz.prog.info? 88).map (·.size) = some 2 := by kernel_rfl
 rename_i KN hKN
 refine zby (zga b A n c N z) (ziE g1 g2 _) 6 3 [[], [], [0, 1], [2, 1, 0, 1, 2]] (by kernel_rfl) _ rfl rfl (by kernel_rfl) (by kernel_rfl) (by kernel_rfl) (by kernel_rfl) (by kernel_rfl) (by kernel_rfl) (by rfl) rfl (base_of (by repeat (first | exact base_nil _ | refine zad rfl ?_))) (zld W b A n c N z g1 g2 _ R1 J2 HF HZ hN h8) ?_
 ·intro a9 W9 hsz9 hdf9 hL9 hbs hsl
  obtain ⟨v9, h09, qv9⟩ := hsl 2 _ _ rfl rfl
  obtain ⟨y1, y2, y3, y4, y5, y6, y7, y8, rfl, r9, m9, s9, t9⟩ := (show RTV z 1 N v9 W9 from qv9)
  have K9 := k2.later hL9
  refine wp_store_mid 94 (.tmp 2) (.tmp 5) rfl g2 0 #[.bool y1, .slice y2 y3 y4, .bool y5, .slice y6 y7 y8] (hbs 2 _ rfl).ev h09.ev (K9.thereAll _ rfl) (by kernel_rfl) (by simp [Value.oneCell']) ?_
  refine hKN _ _ ?_
  obtain ⟨T9, df9⟩ := a9
  obtain rfl : df9 = [] := hdf9
  obtain ⟨f, hf, rfl⟩ := zoA T9 hsz9
  have XX := fun k v h => (hf k).trans (zaa (hbs k v h))
  have x1 : f 1 = .pointer (some ⟨g1, 0, none⟩) := XX 1 _ rfl
  have x2 : f 2 = .pointer (some ⟨g2, 0, none⟩) := XX 2 _ rfl
  have x0 := XX 0 _ rfl
  clear XX hbs hsl hf hsz9 h09 qv9 hKN
  simp only [Act.put, x1, x2, x0]
  clear x1 x2 x0
  refine zaE (Q := fun W => Code.wp _ _ _ _ W) K9 rfl (by simp [zbJ]) (fun V9 i9 l9 kw9 => ?_)
  have HL := Lib.hid (l9.narrow (hl.trans hL9) (by omega))
  have HR := Lib.hid (And.intro (r9.keepW kw9) (s9.keepW kw9))
  have HM := Lib.hid (And.intro m9 t9)
  have d0 := i9.cell 0
  have d1 := i9.cell 1
  have d2 := i9.cell 2
  have d3 := i9.cell 3
  clear l9 kw9 K9 i9 r9 s9 m9 t9 hL9
  go_wp2
  refine bodyPost_ret (v := .agg #[.bool y1, .slice y2 y3 y4, .bool y5, .slice y6 y7 y8]) (by simp [results, Tryz.results90, go_sem, d0, d1, d2, d3]) rfl ?_
  exact ⟨y1, y2, y3, y4, y5, y6, y7, y8, rfl, HR.out.1, HM.out.1, HR.out.2, HM.out.2, HL.out⟩
theorem zfr (n : Int) (h0 : -9223372036854775808 ≤ n) (h1 : n < 9223372036854775808) (w : World) :
  Calls Tryz.prog 48 #[.int .i64 n] w (RatPost w n 1 8) := by
 have HF := Lib.hid (fun w => zaY n h0 h1 w)
 clear h0 h1
 go_enter Tryz.func48, Tryz.ntmps48
 go_wp2_with fail
 refine zas (Q := fun W => Calls _ _ _ W _) ?_
 intro W hl hsz k2
 refine (HF.out W).mono ?_
 rintro e w1 ⟨b, A, nn, c, rfl, r, m, l1⟩
 replace k2 := k2.later l1
 have L1 := hl.trans l1
 have HW := zle b A nn c 8 n w1 r m (Nat.le_refl _)
 clear hl l1 hsz HF r m
 go_wp2_with fail
 refine HW.mono ?_
 rintro e w2 ⟨y1, y2, y3, y4, y5, y6, y7, y8, rfl, r9, m9, s9, t9, l2⟩
 replace k2 := k2.later l2
 replace L1 := L1.trans l2
 obtain ⟨g2, hg2⟩ : ∃ z, w.heap.size = z := ⟨_, rfl⟩
 rw [hg2] at k2 ⊢
 have HG := Lib.hid hg2
 clear l2 HW hg2
 go_wp2_with (refine zat rfl 94 (.tmp 2) (.tmp 5) (by rfl) (by rfl) g2 (by rfl) #[.bool y1, .slice y2 y3 y4, .bool y5, .slice y6 y7 y8] (by rfl) k2 (by rfl) (by kernel_rfl) (by simp [Value.oneCell']) ?_; intro w6 hp; have j2 := hp.blk; have L6 := hp.lat w L1 (by have := HG.out; omega); have r9 := r9.put0 hp k2 (zdJ _ _ _ _ _ _ _ _); have s9 := s9.put0 hp k2 (zdJ _ _ _ _ _ _ _ _); have d0 := j2.cell 0; have d1 := j2.cell 1; have d2 := j2.cell 2; have d3 := j2.cell 3)
 refine bodyPost_ret (v := .agg #[.bool y1, .slice y2 y3 y4, .bool y5, .slice y6 y7 y8]) (by simp [results, Tryz.results48, go_sem, d0, d1, d2, d3]) rfl ?_
 exact ⟨y1, y2, y3, y4, y5, y6, y7, y8, rfl, r9, m9, s9, t9, L6⟩
theorem LongPost.leS {w w' : World} {z : Int} {N M : Nat} {e : Ending} (h : LongPost w z N e w') (hN : N ≤ M) : LongPost w z M e w' := by
 obtain ⟨b, A, n, c, e, hr, hn, hl⟩ := h
 exact ⟨b, A, n, c, e, hr, by omega, hl⟩
theorem zlf {z : Int} : decide (zaq z ≤ 0) = decide (z ≤ 0) := by
 refine decide_eq_decide.2 ?_
 unfold zaq
 split
 ·omega
 ·split <;> omega
theorem znP {z : Int} (h : z ≠ 0) : (zaq z != 0) = true := by
 unfold zaq
 rw [bne_iff_ne]
 split
 ·decide
 ·decide
theorem zlg (T : Array Value) (h : T.size = 22) : ∃ f : Nat → Value, (∀ k, f k = T.getD k undef) ∧ T = #[f 0, f 1, f 2, f 3, f 4, f 5, f 6, f 7, f 8, f 9, f 10, f 11, f 12, f 13, f 14, f 15, f 16, f 17, f 18, f 19, f 20, f 21] := ⟨fun k => T.getD k undef, fun _ => rfl, (spell 22 T h).trans (by kernel_rfl)⟩
noncomputable def zgb (b1 b2 b3 : Bool) (A1 A2 A3 : Option Addr) (n1 c1 n2 c2 n3 c3 g3 g4 : Nat) (z s1 s2 : Int) : List SRow := [
 ⟨.fieldAddr 94 (.tmp 4) 1, some 8, none, [], fun v _ => v = .pointer (some ⟨g4, 2, none⟩)⟩,
 ⟨.load 88 (.tmp 8), some 9, none, [0], fun v _ => v = .agg #[.bool b2, .slice A2 n2 c2]⟩,
 ⟨.call { callee := .value (.func 89), args := #[.tmp 9], argTypes := #[88] }, some 10, none, [1], fun v _ => v = .int .i64 s1⟩,
 ⟨.binOp .leq 3 (.tmp 10) (.const (.int .i64 0)) 3, some 11, none, [2], fun v _ => v = .bool true⟩,
 ⟨.move (.tmp 11), some 12, none, [3, 2], fun v _ => v = .bool true⟩,
 ⟨.fieldAddr 94 (.tmp 4) 0, some 13, some (4, false), [4], fun v _ => v = undef⟩,
 ⟨.load 88 (.tmp 13), some 14, some (4, false), [5, 4], fun v _ => v = undef⟩,
 ⟨.fieldAddr 94 (.tmp 4) 1, some 15, some (4, false), [4], fun v _ => v = undef⟩,
 ⟨.load 88 (.tmp 15), some 16, some (4, false), [7, 4], fun v _ => v = undef⟩,
 ⟨.call { callee := .value (.func 81), args := #[.tmp 14, .tmp 16], argTypes := #[88, 88] }, some 17, some (4, false), [6, 8, 4, 4], fun v _ => v = undef⟩,
 ⟨.load 88 (.tmp 3), some 18, some (4, false), [4], fun v _ => v = undef⟩,
 ⟨.call { callee := .value (.func 78), args := #[.tmp 17, .tmp 18], argTypes := #[88, 88] }, some 19, some (4, false), [9, 10, 9, 4], fun v _ => v = undef⟩,
 ⟨.binOp .neq 3 (.tmp 19) (.const (.int .i64 0)) 3, some 20, some (4, false), [11, 4], fun v _ => v = undef⟩,
 ⟨.pick (.tmp 12) (.const (.bool true)) (.tmp 20), some 21, none, [4, 12], fun v _ => v = .bool true⟩]
noncomputable def ziF (b1 b2 b3 : Bool) (A1 A2 A3 : Option Addr) (n1 c1 n2 c2 n3 c3 g3 g4 : Nat) (z s1 s2 : Int) (v0 v1 v2 v5 v6 v7 : Value) : List (Nat × Value) := [(3, .pointer (some ⟨g3, 0, none⟩)), (4, .pointer (some ⟨g4, 0, none⟩)), (0, v0), (1, v1), (2, v2), (5, v5), (6, v6), (7, v7)]
theorem zlh (V : World) (b1 b2 b3 : Bool) (A1 A2 A3 : Option Addr) (n1 c1 n2 c2 n3 c3 g3 g4 : Nat) (z s1 s2 : Int) (v0 v1 v2 v5 v6 v7 : Value) (hob : decide (s1 ≤ 0) = true) (R2 : ∀ w', Lat V w' → w'.rangeAt g4 2 [.bool b2, .slice A2 n2 c2]) (J2 : (Tryz.prog.info? 88).map (·.size) = some 2)
  (HS : ∀ w, Lat V w → Calls Tryz.prog 89 #[.agg #[.bool b2, .slice A2 n2 c2]] w (fun e w' => e = .returned (.int .i64 s1) ∧ Lat w w')) :
  AllStepsN Tryz.prog (zgb b1 b2 b3 A1 A2 A3 n1 c1 n2 c2 n3 c3 g3 g4 z s1 s2) (ziF b1 b2 b3 A1 A2 A3 n1 c1 n2 c2 n3 c3 g3 g4 z s1 s2 v0 v1 v2 v5 v6 v7) V (zgb b1 b2 b3 A1 A2 A3 n1 c1 n2 c2 n3 c3 g3 g4 z s1 s2) := by
 refine AllStepsN.next (fun _ _ _ h _ => h) (fun j b h => by cases h) (fun a w hl hb hd o ho => by have e1 := hb 4 _ rfl; exact rp1 o ho e1 fun ev ec e1 d ty p af g => by unfold execOp; simp only [e1, ec]; go_simp) ?_
 refine AllStepsN.next (fun _ _ _ h _ => h) (fun j b h => by cases h) (fun a w hl hb hd o ho => by obtain ⟨_, e1, rfl⟩ := hd 0 _ _ (by simp) rfl rfl; exact Runs.val (zfV (S := Lat V) e1 R2 Tryz.underlying88 rfl J2 o w ho hl) ⟨Lat.refl _, fun _ => rfl⟩) ?_
 refine AllStepsN.next (fun _ _ _ h _ => h) (fun j b h => by cases h) (fun a w hl hb hd o ho => by obtain ⟨_, e1, rfl⟩ := hd 1 _ _ (by simp) rfl rfl; exact rcC o ho (HS w hl)) ?_
 refine AllStepsN.next (fun _ _ _ h _ => h) (fun j b h => by cases h) (fun a w hl hb hd o ho => by obtain ⟨_, e1, rfl⟩ := hd 2 _ _ (by simp) rfl rfl; obtain ⟨d, op, ty, p, af, g⟩ := o; simp only at ho; subst ho; have ec : ∀ v, a.eval (.const v) = v := fun _ => rfl; exact Runs.val (by unfold execOp; generalize a.eval = ev at e1 ec ⊢; simp only [e1, ec]; rw [← hob]; go_simp) ⟨Lat.refl _, fun _ => rfl⟩) ?_
 refine AllStepsN.next (fun _ _ _ h _ => h) (fun j b h => by cases h) (fun a w hl hb hd o ho => by obtain ⟨_, e1, rfl⟩ := hd 3 _ _ (by simp) rfl rfl; exact Runs.val (zhu (S := fun _ => True) e1 o w ho trivial) ⟨Lat.refl _, fun _ => rfl⟩) ?_
 refine AllStepsN.skip (fun _ _ _ h _ => h) ⟨_, _, _, rfl, rfl, ⟨_, rfl⟩, by simp, fun v w h => (by cases h; exact fun e => by cases e)⟩ (fun _ => rfl) ?_
 refine AllStepsN.skip (fun _ _ _ h _ => h) ⟨_, _, _, rfl, rfl, ⟨_, rfl⟩, by simp, fun v w h => (by cases h; exact fun e => by cases e)⟩ (fun _ => rfl) ?_
 refine AllStepsN.skip (fun _ _ _ h _ => h) ⟨_, _, _, rfl, rfl, ⟨_, rfl⟩, by simp, fun v w h => (by cases h; exact fun e => by cases e)⟩ (fun _ => rfl) ?_
 refine AllStepsN.skip (fun _ _ _ h _ => h) ⟨_, _, _, rfl, rfl, ⟨_, rfl⟩, by simp, fun v w h => (by cases h; exact fun e => by cases e)⟩ (fun _ => rfl) ?_
 refine AllStepsN.skip (fun _ _ _ h _ => h) ⟨_, _, _, rfl, rfl, ⟨_, rfl⟩, by simp, fun v w h => (by cases h; exact fun e => by cases e)⟩ (fun _ => rfl) ?_
 refine AllStepsN.skip (fun _ _ _ h _ => h) ⟨_, _, _, rfl, rfl, ⟨_, rfl⟩, by simp, fun v w h => (by cases h; exact fun e => by cases e)⟩ (fun _ => rfl) ?_
 refine AllStepsN.skip (fun _ _ _ h _ => h) ⟨_, _, _, rfl, rfl, ⟨_, rfl⟩, by simp, fun v w h => (by cases h; exact fun e => by cases e)⟩ (fun _ => rfl) ?_
 refine AllStepsN.skip (fun _ _ _ h _ => h) ⟨_, _, _, rfl, rfl, ⟨_, rfl⟩, by simp, fun v w h => (by cases h; exact fun e => by cases e)⟩ (fun _ => rfl) ?_
 refine AllStepsN.next (fun _ _ _ h _ => h) (fun j b h => by cases h) (fun a w hl hb hd o ho => by obtain ⟨_, e1, rfl⟩ := hd 4 _ _ (by simp) rfl rfl; exact Runs.val (zdo (S := fun _ => True) e1 (eval_const _ _) o w ho trivial) ⟨Lat.refl _, fun _ => rfl⟩) ?_
 exact AllStepsN.none
noncomputable def zgc (b1 b2 b3 : Bool) (A1 A2 A3 : Option Addr) (n1 c1 n2 c2 n3 c3 g3 g4 : Nat) (z s1 s2 : Int) : List SRow := [
 ⟨.fieldAddr 94 (.tmp 4) 1, some 8, none, [], fun v _ => v = .pointer (some ⟨g4, 2, none⟩)⟩,
 ⟨.load 88 (.tmp 8), some 9, none, [0], fun v _ => v = .agg #[.bool b2, .slice A2 n2 c2]⟩,
 ⟨.call { callee := .value (.func 89), args := #[.tmp 9], argTypes := #[88] }, some 10, none, [1], fun v _ => v = .int .i64 s1⟩,
 ⟨.binOp .leq 3 (.tmp 10) (.const (.int .i64 0)) 3, some 11, none, [2], fun v _ => v = .bool false⟩,
 ⟨.move (.tmp 11), some 12, none, [3, 2], fun v _ => v = .bool false⟩,
 ⟨.fieldAddr 94 (.tmp 4) 0, some 13, some (4, false), [4], fun v _ => v = .pointer (some ⟨g4, 0, none⟩)⟩,
 ⟨.load 88 (.tmp 13), some 14, some (4, false), [5, 4], fun v _ => v = .agg #[.bool b1, .slice A1 n1 c1]⟩,
 ⟨.fieldAddr 94 (.tmp 4) 1, some 15, some (4, false), [4], fun v _ => v = .pointer (some ⟨g4, 2, none⟩)⟩,
 ⟨.load 88 (.tmp 15), some 16, some (4, false), [7, 4], fun v _ => v = .agg #[.bool b2, .slice A2 n2 c2]⟩,
 ⟨.call { callee := .value (.func 81), args := #[.tmp 14, .tmp 16], argTypes := #[88, 88] }, some 17, some (4, false), [6, 8, 4, 4], GV z 8⟩,
 ⟨.load 88 (.tmp 3), some 18, some (4, false), [4], fun v _ => v = .agg #[.bool b3, .slice A3 n3 c3]⟩,
 ⟨.call { callee := .value (.func 78), args := #[.tmp 17, .tmp 18], argTypes := #[88, 88] }, some 19, some (4, false), [9, 10, 9, 4], fun v _ => v = .int .i64 s2⟩,
 ⟨.binOp .neq 3 (.tmp 19) (.const (.int .i64 0)) 3, some 20, some (4, false), [11, 4], fun v _ => v = .bool true⟩,
 ⟨.pick (.tmp 12) (.const (.bool true)) (.tmp 20), some 21, none, [4, 12], fun v _ => v = .bool true⟩]
noncomputable def ziG (b1 b2 b3 : Bool) (A1 A2 A3 : Option Addr) (n1 c1 n2 c2 n3 c3 g3 g4 : Nat) (z s1 s2 : Int) (v0 v1 v2 v5 v6 v7 : Value) : List (Nat × Value) := [(3, .pointer (some ⟨g3, 0, none⟩)), (4, .pointer (some ⟨g4, 0, none⟩)), (0, v0), (1, v1), (2, v2), (5, v5), (6, v6), (7, v7)]
theorem zli (V : World) (b1 b2 b3 : Bool) (A1 A2 A3 : Option Addr) (n1 c1 n2 c2 n3 c3 g3 g4 : Nat) (z s1 s2 : Int) (v0 v1 v2 v5 v6 v7 : Value) (hob : decide (s1 ≤ 0) = false) (hob2 : (s2 != 0) = true) (R2 : ∀ w', Lat V w' → w'.rangeAt g4 2 [.bool b2, .slice A2 n2 c2]) (R1 : ∀ w', Lat V w' → w'.rangeAt g4 0 [.bool b1, .slice A1 n1 c1]) (R3 : ∀ w', Lat V w' → w'.rangeAt g3 0 [.bool b3, .slice A3 n3 c3]) (J2 : (Tryz.prog.info? 88).map (·.size) = some 2)
  (HS : ∀ w, Lat V w → Calls Tryz.prog 89 #[.agg #[.bool b2, .slice A2 n2 c2]] w (fun e w' => e = .returned (.int .i64 s1) ∧ Lat w w'))
  (HG : ∀ w, Lat V w → Calls Tryz.prog 81 #[.agg #[.bool b1, .slice A1 n1 c1], .agg #[.bool b2, .slice A2 n2 c2]] w (LongPost w z 8))
  (HC : ∀ b A n c w, Lat V w → Lg w b A n c z → n ≤ 8 → Calls Tryz.prog 78 #[.agg #[.bool b, .slice A n c], .agg #[.bool b3, .slice A3 n3 c3]] w (fun e w' => e = .returned (.int .i64 s2) ∧ Lat w w')) :
  AllStepsN Tryz.prog (zgc b1 b2 b3 A1 A2 A3 n1 c1 n2 c2 n3 c3 g3 g4 z s1 s2) (ziG b1 b2 b3 A1 A2 A3 n1 c1 n2 c2 n3 c3 g3 g4 z s1 s2 v0 v1 v2 v5 v6 v7) V (zgc b1 b2 b3 A1 A2 A3 n1 c1 n2 c2 n3 c3 g3 g4 z s1 s2) := by
 refine AllStepsN.next (fun _ _ _ h _ => h) (fun j b h => by cases h) (fun a w hl hb hd o ho => by have e1 := hb 4 _ rfl; exact rp1 o ho e1 fun ev ec e1 d ty p af g => by unfold execOp; simp only [e1, ec]; go_simp) ?_
 refine AllStepsN.next (fun _ _ _ h _ => h) (fun j b h => by cases h) (fun a w hl hb hd o ho => by obtain ⟨_, e1, rfl⟩ := hd 0 _ _ (by simp) rfl rfl; exact Runs.val (zfV (S := Lat V) e1 R2 Tryz.underlying88 rfl J2 o w ho hl) ⟨Lat.refl _, fun _ => rfl⟩) ?_
 refine AllStepsN.next (fun _ _ _ h _ => h) (fun j b h => by cases h) (fun a w hl hb hd o ho => by obtain ⟨_, e1, rfl⟩ := hd 1 _ _ (by simp) rfl rfl; exact rcC o ho (HS w hl)) ?_
 refine AllStepsN.next (fun _ _ _ h _ => h) (fun j b h => by cases h) (fun a w hl hb hd o ho => by obtain ⟨_, e1, rfl⟩ := hd 2 _ _ (by simp) rfl rfl; obtain ⟨d, op, ty, p, af, g⟩ := o; simp only at ho; subst ho; have ec : ∀ v, a.eval (.const v) = v := fun _ => rfl; exact Runs.val (by unfold execOp; generalize a.eval = ev at e1 ec ⊢; simp only [e1, ec]; rw [← hob]; go_simp) ⟨Lat.refl _, fun _ => rfl⟩) ?_
 refine AllStepsN.next (fun _ _ _ h _ => h) (fun j b h => by cases h) (fun a w hl hb hd o ho => by obtain ⟨_, e1, rfl⟩ := hd 3 _ _ (by simp) rfl rfl; exact Runs.val (zhu (S := fun _ => True) e1 o w ho trivial) ⟨Lat.refl _, fun _ => rfl⟩) ?_
 refine AllStepsN.next (fun _ _ _ h _ => h) (fun j b h => by cases h; exact ⟨_, rfl, ⟨_, rfl⟩, by simp, fun _ _ h => h⟩) (fun a w hl hb hd o ho => by have e1 := hb 4 _ rfl; exact rp1 o ho e1 fun ev ec e1 d ty p af g => by unfold execOp; simp only [e1, ec]; go_simp) ?_
 refine AllStepsN.next (fun _ _ _ h _ => h) (fun j b h => by cases h; exact ⟨_, rfl, ⟨_, rfl⟩, by simp, fun _ _ h => h⟩) (fun a w hl hb hd o ho => by obtain ⟨_, e1, rfl⟩ := hd 5 _ _ (by simp) rfl rfl; exact Runs.val (zah (S := Lat V) e1 R1 Tryz.underlying88 rfl J2 o w ho hl) ⟨Lat.refl _, fun _ => rfl⟩) ?_
 refine AllStepsN.next (fun _ _ _ h _ => h) (fun j b h => by cases h; exact ⟨_, rfl, ⟨_, rfl⟩, by simp, fun _ _ h => h⟩) (fun a w hl hb hd o ho => by have e1 := hb 4 _ rfl; exact rp1 o ho e1 fun ev ec e1 d ty p af g => by unfold execOp; simp only [e1, ec]; go_simp) ?_
 refine AllStepsN.next (fun _ _ _ h _ => h) (fun j b h => by cases h; exact ⟨_, rfl, ⟨_, rfl⟩, by simp, fun _ _ h => h⟩) (fun a w hl hb hd o ho => by obtain ⟨_, e1, rfl⟩ := hd 7 _ _ (by simp) rfl rfl; exact Runs.val (zfV (S := Lat V) e1 R2 Tryz.underlying88 rfl J2 o w ho hl) ⟨Lat.refl _, fun _ => rfl⟩) ?_
 refine AllStepsN.next (fun _ _ _ h hl => h.mono hl) (fun j b h => by cases h; exact ⟨_, rfl, ⟨_, rfl⟩, by simp, fun _ _ h => h⟩) (fun a w hl hb hd o ho => by obtain ⟨_, e1, rfl⟩ := hd 6 _ _ (by simp) rfl rfl; obtain ⟨_, e2, rfl⟩ := hd 8 _ _ (by simp) rfl rfl; exact Runs.call (zan (f := 81) (fun _ => by go_simp) o ho (by simp only [List.map_toArray, List.map_cons, List.map_nil, eval_const, e1, e2])) ((HG w hl).mono fun e w' h => h.run)) ?_
 refine AllStepsN.next (fun _ _ _ h _ => h) (fun j b h => by cases h; exact ⟨_, rfl, ⟨_, rfl⟩, by simp, fun _ _ h => h⟩) (fun a w hl hb hd o ho => by have e1 := hb 3 _ rfl; exact Runs.val (zah (S := Lat V) e1 R3 Tryz.underlying88 rfl J2 o w ho hl) ⟨Lat.refl _, fun _ => rfl⟩) ?_
 refine AllStepsN.next (fun _ _ _ h _ => h) (fun j b h => by cases h; exact ⟨_, rfl, ⟨_, rfl⟩, by simp, fun _ _ h => h⟩) (fun a w hl hb hd o ho => by obtain ⟨v1, e1, q1⟩ := hd 9 _ _ (by simp) rfl rfl; obtain ⟨b1, A1, n1, c1, rfl, r1, m1⟩ := (show GV z 8 v1 w from q1); obtain ⟨_, e2, rfl⟩ := hd 10 _ _ (by simp) rfl rfl; exact rcC o ho (HC _ _ _ _ w hl r1 m1)) ?_
 refine AllStepsN.next (fun _ _ _ h _ => h) (fun j b h => by cases h; exact ⟨_, rfl, ⟨_, rfl⟩, by simp, fun _ _ h => h⟩) (fun a w hl hb hd o ho => by obtain ⟨_, e1, rfl⟩ := hd 11 _ _ (by simp) rfl rfl; obtain ⟨d, op, ty, p, af, g⟩ := o; simp only at ho; subst ho; have ec : ∀ v, a.eval (.const v) = v := fun _ => rfl; exact Runs.val (by unfold execOp; generalize a.eval = ev at e1 ec ⊢; simp only [e1, ec]; rw [← hob2]; go_simp) ⟨Lat.refl _, fun _ => rfl⟩) ?_
 refine AllStepsN.next (fun _ _ _ h _ => h) (fun j b h => by cases h) (fun a w hl hb hd o ho => by obtain ⟨_, e1, rfl⟩ := hd 4 _ _ (by simp) rfl rfl; obtain ⟨_, e2, rfl⟩ := hd 12 _ _ (by simp) rfl rfl; exact Runs.val (zlS (S := fun _ => True) e1 e2 o w ho trivial) ⟨Lat.refl _, fun _ => rfl⟩) ?_
 exact AllStepsN.none
theorem zhL (u v : W8) (hu : u.ok) (hv : v.ok) (hok : ¬ zhk u.toInt v.toInt) (w : World) :
  Calls Tryz.prog 46 #[.agg (W8.two u v)] w (fun e w' => e = .returned (.int .i64 20) ∧ Lat w w') := by
 obtain ⟨N, hN⟩ : ∃ N, N = u.toInt := ⟨_, rfl⟩
 obtain ⟨D, hD⟩ : ∃ D, D = v.toInt := ⟨_, rfl⟩
 have HR : ∀ w, Calls Tryz.prog 47 #[.agg (W8.two u v)] w (RatPost w N D 8) := by intro w; rw [hN, hD]; exact zbn u v hu hv w
 rw [← hN, ← hD] at hok
 have HO := Lib.hid hok
 clear hok
 clear hN hD hu hv
 go_enter Tryz.func46, Tryz.ntmps46
 go_wp2_with fail
 refine zas (Q := fun W => Calls _ _ _ W _) ?_
 intro W l0 hs k1
 refine (zaY 1 (by decide) (by decide) W).mono ?_
 rintro e w1 ⟨b3, A3, n3, c3, rfl, p1, p2, la⟩
 replace k1 := k1.later la
 replace l0 := l0.trans la
 clear la hs
 have d0 := k1.cell 0
 have d1 := k1.cell 1
 have d2 := k1.cell 2
 have d3 := k1.cell 3
 have d4 := k1.cell 4
 have d5 := k1.cell 5
 have d6 := k1.cell 6
 have d7 := k1.cell 7
 have d8 := k1.cell 8
 have d9 := k1.cell 9
 have d10 := k1.cell 10
 have d11 := k1.cell 11
 have d12 := k1.cell 12
 have d13 := k1.cell 13
 have d14 := k1.cell 14
 have d15 := k1.cell 15
 go_upto_region 2 with (fail)
 refine zas (Q := fun W => Code.wp _ _ _ _ W) ?_
 intro V1 la hs k3
 obtain ⟨g3, hg3⟩ : ∃ z, w1.heap.size = z := ⟨_, rfl⟩
 rw [hg3] at k3 ⊢
 replace k1 := k1.later la
 replace l0 := l0.trans la
 replace p1 := p1.later la
 clear d0 d1 d2 d3 d4 d5 d6 d7 d8 d9 d10 d11 d12 d13 d14 d15
 clear la hs hg3
 have d0 := k1.cell 0
 have d1 := k1.cell 1
 have d2 := k1.cell 2
 have d3 := k1.cell 3
 have d4 := k1.cell 4
 have d5 := k1.cell 5
 have d6 := k1.cell 6
 have d7 := k1.cell 7
 have d8 := k1.cell 8
 have d9 := k1.cell 9
 have d10 := k1.cell 10
 have d11 := k1.cell 11
 have d12 := k1.cell 12
 have d13 := k1.cell 13
 have d14 := k1.cell 14
 have d15 := k1.cell 15
 go_wp2_with fail
 refine (HR V1).mono ?_
 rintro e V2 ⟨b1, A1, n1, c1, b2, A2, n2, c2, rfl, q1, m1, q2, m2, la⟩
 replace k3 := k3.later la
 replace l0 := l0.trans la
 replace p1 := p1.later la
 clear d0 d1 d2 d3 d4 d5 d6 d7 d8 d9 d10 d11 d12 d13 d14 d15
 clear la k1
 go_upto_region 3 with (fail)
 refine zas (Q := fun W => Code.wp _ _ _ _ W) ?_
 intro V3 la hs k4
 obtain ⟨g4, hg4⟩ : ∃ z, V2.heap.size = z := ⟨_, rfl⟩
 rw [hg4] at k4 ⊢
 replace k3 := k3.later la
 replace l0 := l0.trans la
 replace p1 := p1.later la
 replace q1 := q1.later la
 replace q2 := q2.later la
 clear la hs hg4
 have R1 : ∀ w', Lat V3 w' → w'.rangeAt g4 0 [.bool b1, .slice A1 n1 c1] := fun w' hl => zmZ (k4.later hl) 0 _ (by intro j v h; match j, h with | 0, h => exact h | 1, h => exact h)
 have R2 : ∀ w', Lat V3 w' → w'.rangeAt g4 2 [.bool b2, .slice A2 n2 c2] := fun w' hl => zmZ (k4.later hl) 2 _ (by intro j v h; match j, h with | 0, h => exact h | 1, h => exact h)
 have R3 : ∀ w', Lat V3 w' → w'.rangeAt g3 0 [.bool b3, .slice A3 n3 c3] := fun w' hl => (k3.later hl).rangeAll
 have J2 : (Tryz.prog.info? 88).map (·.size) = some 2 := by kernel_rfl
 obtain ⟨s1, hs1⟩ : ∃ s, zaq D = s := ⟨_, rfl⟩
 obtain ⟨z, hz⟩ : ∃ z : Int, (Int.gcd N D : Int) = z := ⟨_, rfl⟩
 have HS : ∀ w, Lat V3 w → Calls Tryz.prog 89 #[.agg #[.bool b2, .slice A2 n2 c2]] w (fun e w' => e = .returned (.int .i64 s1) ∧ Lat w w') := fun w hl => by rw [← hs1]; exact zfD b2 A2 n2 c2 D w (q2.later hl) (by omega)
 have HG : ∀ w, Lat V3 w → Calls Tryz.prog 81 #[.agg #[.bool b1, .slice A1 n1 c1], .agg #[.bool b2, .slice A2 n2 c2]] w (LongPost w z 8) := fun w hl => by
  rw [← hz]
  exact (zdm b1 A1 n1 c1 N b2 A2 n2 c2 D w (q1.later hl) (q2.later hl) (by omega) (by omega)).mono fun e w' h => h.leS (by omega)
 by_cases hD : D ≤ 0
 ·have hob : decide (s1 ≤ 0) = true := by rw [← hs1, zlf]; exact decide_eq_true hD
  have hob2 : ((1 : Int) != 0) = true := rfl
  obtain ⟨s2, hs2⟩ : ∃ s2, s2 = (1 : Int) := ⟨_, rfl⟩
  rw [← hs2] at hob2
  clear HO hs1 hz hs2
  go_upto_region 3 with (fail)
  rename_i KN hKN
  refine zae (zgb b1 b2 b3 A1 A2 A3 n1 c1 n2 c2 n3 c3 g3 g4 z s1 s2) (ziF b1 b2 b3 A1 A2 A3 n1 c1 n2 c2 n3 c3 g3 g4 z s1 s2 _ _ _ _ _ _) 22 14 [[], [0], [1], [2], [3, 2], [4], [5, 4], [4], [7, 4], [6, 8, 4, 4], [4], [9, 10, 9, 4], [11, 4], [4, 12]] (by kernel_rfl) (by kernel_rfl) (by kernel_rfl) (by kernel_rfl) (by kernel_rfl) (by kernel_rfl) (by rfl) rfl (base_of (zaD rfl (zaD rfl (zaD rfl (zaD rfl (zaD rfl (zaD rfl (zaD rfl (zaD rfl (base_nil _)))))))))) (zlh V3 b1 b2 b3 A1 A2 A3 n1 c1 n2 c2 n3 c3 g3 g4 z s1 s2 _ _ _ _ _ _ hob R2 J2 HS) ?_
  ·intro a9 W9 hsz9 hdf9 hL9 hbs hsl
   obtain ⟨v9, h9, q9⟩ := hsl 13 _ _ rfl rfl
   obtain rfl : v9 = .bool true := q9
   have w21 := zaa h9
   clear h9
   refine hKN _ _ ?_
   obtain ⟨T9, df9⟩ := a9
   obtain rfl : df9 = [] := hdf9
   obtain ⟨f, hf, rfl⟩ := zlg T9 hsz9
   have X9 := fun k v h => (hf k).trans (zaa (hbs k v h))
   have x21 := (hf 21).trans w21
   clear hbs hsl hf hsz9 hKN w21
   simp only [X9 3 _ rfl, X9 4 _ rfl, X9 0 _ rfl, X9 1 _ rfl, X9 2 _ rfl, X9 5 _ rfl, X9 6 _ rfl, X9 7 _ rfl, x21]
   clear x21 X9
   have LF := l0.trans hL9
   clear l0 hL9
   go_wp2
   go_ret
   exact ⟨rfl, LF⟩
 ·have hob : decide (s1 ≤ 0) = false := by rw [← hs1, zlf]; exact decide_eq_false hD
  obtain ⟨s2, hs2⟩ : ∃ s, zaq (z - 1) = s := ⟨_, rfl⟩
  have hob2 : (s2 != 0) = true := by
   rw [← hs2]
   refine znP ?_
   intro h
   exact HO.out ⟨by omega, by omega⟩
  have HC : ∀ b A n c w, Lat V3 w → Lg w b A n c z → n ≤ 8 → Calls Tryz.prog 78 #[.agg #[.bool b, .slice A n c], .agg #[.bool b3, .slice A3 n3 c3]] w (fun e w' => e = .returned (.int .i64 s2) ∧ Lat w w') := fun b A n c w hl h hn => by
   rw [← hs2]
   exact zcY b A n c z b3 A3 n3 c3 1 w h (p1.later hl) (by omega) (by omega)
  clear HO hs1 hz hs2 hD
  go_upto_region 3 with (fail)
  rename_i KN hKN
  refine zae (zgc b1 b2 b3 A1 A2 A3 n1 c1 n2 c2 n3 c3 g3 g4 z s1 s2) (ziG b1 b2 b3 A1 A2 A3 n1 c1 n2 c2 n3 c3 g3 g4 z s1 s2 _ _ _ _ _ _) 22 14 [[], [0], [1], [2], [3, 2], [4], [5, 4], [4], [7, 4], [6, 8, 4, 4], [4], [9, 10, 9, 4], [11, 4], [4, 12]] (by kernel_rfl) (by kernel_rfl) (by kernel_rfl) (by kernel_rfl) (by kernel_rfl) (by kernel_rfl) (by rfl) rfl (base_of (zaD rfl (zaD rfl (zaD rfl (zaD rfl (zaD rfl (zaD rfl (zaD rfl (zaD rfl (base_nil _)))))))))) (zli V3 b1 b2 b3 A1 A2 A3 n1 c1 n2 c2 n3 c3 g3 g4 z s1 s2 _ _ _ _ _ _ hob hob2 R2 R1 R3 J2 HS HG HC) ?_
  ·intro a9 W9 hsz9 hdf9 hL9 hbs hsl
   obtain ⟨v9, h9, q9⟩ := hsl 13 _ _ rfl rfl
   obtain rfl : v9 = .bool true := q9
   have w21 := zaa h9
   clear h9
   refine hKN _ _ ?_
   obtain ⟨T9, df9⟩ := a9
   obtain rfl : df9 = [] := hdf9
   obtain ⟨f, hf, rfl⟩ := zlg T9 hsz9
   have X9 := fun k v h => (hf k).trans (zaa (hbs k v h))
   have x21 := (hf 21).trans w21
   clear hbs hsl hf hsz9 hKN w21
   simp only [X9 3 _ rfl, X9 4 _ rfl, X9 0 _ rfl, X9 1 _ rfl, X9 2 _ rfl, X9 5 _ rfl, X9 6 _ rfl, X9 7 _ rfl, x21]
   clear x21 X9
   have LF := l0.trans hL9
   clear l0 hL9
   go_wp2
   go_ret
   exact ⟨rfl, LF⟩
end Go.Proofs.YtpmbglhbcjbkcaaGreat
