/- Several texts in one: RdEa. -/
import Derived.Test.YtpmbglhbcjbkcaaGreatH34
namespace Go.Proofs.YtpmbglhbcjbkcaaGreat
set_option maxHeartbeats 16000000
set_option maxRecDepth 100000
open Go.RowKit
set_option linter.unusedSimpArgs false
set_option linter.unusedVariables false
theorem zdt (z : Int) : zaq z < 0 ↔ z < 0 := by
 unfold zaq
 split
 ·simp; omega
 ·split
  ·simp; omega
  ·simp; omega
theorem zkS (T : Array Value) (h : T.size = 36) : ∃ f : Nat → Value, (∀ k, f k = T.getD k undef) ∧ T = #[f 0, f 1, f 2, f 3, f 4, f 5, f 6, f 7, f 8, f 9, f 10, f 11, f 12, f 13, f 14, f 15, f 16, f 17, f 18, f 19, f 20, f 21, f 22, f 23, f 24, f 25, f 26, f 27, f 28, f 29, f 30, f 31, f 32, f 33, f 34, f 35] := ⟨fun k => T.getD k undef, fun _ => rfl, (spell 36 T h).trans (by kernel_rfl)⟩
noncomputable def zdc (g1 g3 g6 k : Nat) (b6 : Bool) (A6 : Option Addr) (n6 c6 : Nat) (t u : Int) : List SRow := [
 ⟨.load 88 (.tmp 6), some 11, none, [], fun v _ => v = .agg #[.bool b6, .slice A6 n6 c6]⟩,
 ⟨.load 88 (.tmp 6), some 12, none, [], fun v _ => v = .agg #[.bool b6, .slice A6 n6 c6]⟩,
 ⟨.call { callee := .value (.func 62), args := #[.tmp 11, .tmp 12], argTypes := #[88, 88] }, some 13, none, [0, 1], GV (t * t) 16⟩,
 ⟨.fieldAddr 72 (.tmp 3) 1, some 14, none, [], fun v _ => v = .pointer (some ⟨g3, 0 + 1, none⟩)⟩,
 ⟨.load 3 (.tmp 14), some 15, none, [3], fun v _ => v = .int .i64 u⟩,
 ⟨.call { callee := .value (.func 34), args := #[.tmp 15], argTypes := #[3] }, some 16, none, [4, 2], GV u 8⟩,
 ⟨.call { callee := .value (.func 62), args := #[.tmp 13, .tmp 16], argTypes := #[88, 88] }, some 17, none, [2, 5, 5], GV (t * t * u) (16 + 8)⟩,
 ⟨.call { callee := .value (.func 34), args := #[.const (.int .i64 4)], argTypes := #[3] }, some 18, none, [6], GV 4 8⟩,
 ⟨.load 3 (.tmp 1), some 19, none, [], fun v _ => v = .int .i64 (k : Nat)⟩,
 ⟨.call { callee := .value (.func 35), args := #[.tmp 18, .tmp 19], argTypes := #[88, 3] }, some 20, none, [7, 8, 7], GV (4 ^ k) (8 + 8 * k)⟩,
 ⟨.call { callee := .value (.func 62), args := #[.tmp 17, .tmp 20], argTypes := #[88, 88] }, some 21, none, [6, 9, 9], GV (t * t * u * 4 ^ k) (16 + 8 + (8 + 8 * k))⟩,
 ⟨.alloc 88, some 7, none, [], fun _ _ => True⟩,
 ⟨.store 88 (.tmp 7) (.tmp 21), none, none, [11, 10, 10, 0, 1, 2, 3, 4, 5, 6, 7, 8, 9, 10, 11], fun _ _ => True⟩]
noncomputable def zis (g1 g3 g6 k : Nat) (b6 : Bool) (A6 : Option Addr) (n6 c6 : Nat) (t u : Int) (v2 v4 v5 : Value) : List (Nat × Value) := [(1, .pointer (some ⟨g1, 0, none⟩)), (3, .pointer (some ⟨g3, 0, none⟩)), (6, .pointer (some ⟨g6, 0, none⟩)), (2, v2), (4, v4), (5, v5)]
def zer : List zca := [⟨11, 7, 88, #[.bool false, .slice none 0 0], 12, 21, 10⟩]
theorem zmi (g1 g3 g6 k : Nat) (b6 : Bool) (A6 : Option Addr) (n6 c6 : Nat) (t u : Int) : AllKeep (zdc g1 g3 g6 k b6 A6 n6 c6 t u) := ⟨fun _ _ _ h hk => h, ⟨fun _ _ _ h hk => h, ⟨fun _ _ _ h hk => h.keepW hk, ⟨fun _ _ _ h hk => h, ⟨fun _ _ _ h hk => h, ⟨fun _ _ _ h hk => h.keepW hk, ⟨fun _ _ _ h hk => h.keepW hk, ⟨fun _ _ _ h hk => h.keepW hk, ⟨fun _ _ _ h hk => h, ⟨fun _ _ _ h hk => h.keepW hk, ⟨fun _ _ _ h hk => h.keepW hk, ⟨fun _ _ _ h hk => h, ⟨fun _ _ _ h hk => h, trivial⟩⟩⟩⟩⟩⟩⟩⟩⟩⟩⟩⟩⟩
theorem zmj (g1 g3 g6 k : Nat) (b6 : Bool) (A6 : Option Addr) (n6 c6 : Nat) (t u : Int) : AllMemK Tryz.prog (zdc g1 g3 g6 k b6 A6 n6 c6 t u) zer := by
 refine ⟨⟨fun ev w o ho => ?_, by rfl, fun r v w hr => ?_, by rfl, fun r hr => ?_, by rfl, fun r v w hr h => ?_, by kernel_rfl, by simp [zbJ]⟩, ?_⟩
 ·obtain ⟨d, op, ty, p, af, g⟩ := o
  simp only at ho
  subst ho
  unfold execOp
  go_simp
 ·obtain rfl := Option.some.inj (show some _ = some r from hr); trivial
 ·obtain rfl := Option.some.inj (show some _ = some r from hr); exact ⟨by simp, by simp⟩
 ·obtain rfl := Option.some.inj (show some _ = some r from hr); exact (by obtain ⟨b, A, n, c, rfl, _, _⟩ := h; exact ⟨_, rfl, rfl, by simp [Value.oneCell']⟩)
 trivial
theorem zkT (V : World) (g1 g3 g6 k : Nat) (b6 : Bool) (A6 : Option Addr) (n6 c6 : Nat) (t u : Int) (v2 v4 v5 : Value) (R6 : ∀ w', Lat V w' → w'.rangeAt g6 0 [.bool b6, .slice A6 n6 c6]) (J2 : (Tryz.prog.info? 88).map (·.size) = some 2)
  (C3 : ∀ w', Lat V w' → w'.cell? ⟨g3, 0 + 1, none⟩ = some (.int .i64 u)) (C1 : ∀ w', Lat V w' → w'.cell? ⟨g1, 0, none⟩ = some (.int .i64 (k : Nat)))
  (HT1 : ∀ w, Lat V w → Calls Tryz.prog 62 #[.agg #[.bool b6, .slice A6 n6 c6], .agg #[.bool b6, .slice A6 n6 c6]] w (LongPost w (t * t) 16))
  (HFU : ∀ w, Calls Tryz.prog 34 #[.int .i64 u] w (LongPost w u 8)) (HF4 : ∀ w, Calls Tryz.prog 34 #[.int .i64 4] w (LongPost w 4 8))
  (HTG : ∀ (x y : Int) (N M : Nat) b1 A1 n1 c1 b2 A2 n2 c2 w, Lg w b1 A1 n1 c1 x → Lg w b2 A2 n2 c2 y → n1 ≤ N → n2 ≤ M → N ≤ 100000 → M ≤ 100000 → Calls Tryz.prog 62 #[.agg #[.bool b1, .slice A1 n1 c1], .agg #[.bool b2, .slice A2 n2 c2]] w (LongPost w (x * y) (N + M)))
  (HRA : ∀ b1 A1 n1 c1 w, Lg w b1 A1 n1 c1 4 → n1 ≤ 8 → Calls Tryz.prog 35 #[.agg #[.bool b1, .slice A1 n1 c1], .int .i64 (k : Nat)] w (LongPost w (4 ^ k) (8 + 8 * k))) (hk1 : k ≤ 1000) :
  StepsAtK Tryz.prog (zdc g1 g3 g6 k b6 A6 n6 c6 t u) (zis g1 g3 g6 k b6 A6 n6 c6 t u v2 v4 v5) V (zer.flatMap fun M => [M.ia, M.is]) 0 (zdc g1 g3 g6 k b6 A6 n6 c6 t u) := by
 refine StepsAtK.next (fun _ _ _ h _ => h) (fun j b h => by cases h) (fun a w hl hb hd o ho => by have e1 := hb 6 _ rfl; exact Runs.val (zah (S := Lat V) e1 R6 Tryz.underlying88 rfl J2 o w ho hl) ⟨Lat.refl _, fun _ => rfl⟩) ?_
 refine StepsAtK.next (fun _ _ _ h _ => h) (fun j b h => by cases h) (fun a w hl hb hd o ho => by have e1 := hb 6 _ rfl; exact Runs.val (zah (S := Lat V) e1 R6 Tryz.underlying88 rfl J2 o w ho hl) ⟨Lat.refl _, fun _ => rfl⟩) ?_
 refine StepsAtK.next (fun _ _ _ h hl => h.mono hl) (fun j b h => by cases h) (fun a w hl hb hd o ho => by obtain ⟨_, e1, rfl⟩ := hd 0 _ _ (by simp) rfl rfl; obtain ⟨_, e2, rfl⟩ := hd 1 _ _ (by simp) rfl rfl; exact Runs.call (zan (f := 62) (fun _ => by go_simp) o ho (by simp only [List.map_toArray, List.map_cons, List.map_nil, eval_const, e1, e2])) ((HT1 w hl).mono fun e w' h => h.run)) ?_
 refine StepsAtK.next (fun _ _ _ h _ => h) (fun j b h => by cases h) (fun a w hl hb hd o ho => by have e1 := hb 3 _ rfl; exact rp1 o ho e1 fun ev ec e1 d ty p af g => by unfold execOp; simp only [e1, ec]; go_simp) ?_
 refine StepsAtK.next (fun _ _ _ h _ => h) (fun j b h => by cases h) (fun a w hl hb hd o ho => by obtain ⟨_, e1, rfl⟩ := hd 3 _ _ (by simp) rfl rfl; exact rp1 o ho e1 fun ev ec e1 d ty p af g => by unfold execOp; simp only [e1, ec]; have hc := C3 w hl; go_simp) ?_
 refine StepsAtK.next (fun _ _ _ h hl => h.mono hl) (fun j b h => by cases h) (fun a w hl hb hd o ho => by obtain ⟨_, e1, rfl⟩ := hd 4 _ _ (by simp) rfl rfl; exact Runs.call (zan (f := 34) (fun _ => by go_simp) o ho (by simp only [List.map_toArray, List.map_cons, List.map_nil, eval_const, e1])) ((HFU w).mono fun e w' h => h.run)) ?_
 refine StepsAtK.next (fun _ _ _ h hl => h.mono hl) (fun j b h => by cases h) (fun a w hl hb hd o ho => by obtain ⟨v1, e1, q1⟩ := hd 2 _ _ (by simp) rfl rfl; obtain ⟨b1, A1, n1, c1, rfl, r1, m1⟩ := (show GV (t * t) 16 v1 w from q1); obtain ⟨v2, e2, q2⟩ := hd 5 _ _ (by simp) rfl rfl; obtain ⟨b2, A2, n2, c2, rfl, r2, m2⟩ := (show GV u 8 v2 w from q2); exact Runs.call (zan (f := 62) (fun _ => by go_simp) o ho (by simp only [List.map_toArray, List.map_cons, List.map_nil, eval_const, e1, e2])) ((HTG (t * t) u 16 8 _ _ _ _ _ _ _ _ w r1 r2 m1 m2 (by decide) (by decide)).mono fun e w' h => h.run)) ?_
 refine StepsAtK.next (fun _ _ _ h hl => h.mono hl) (fun j b h => by cases h) (fun a w hl hb hd o ho => by exact Runs.call (zan (f := 34) (fun _ => by go_simp) o ho (by simp only [List.map_toArray, List.map_cons, List.map_nil, eval_const])) ((HF4 w).mono fun e w' h => h.run)) ?_
 refine StepsAtK.next (fun _ _ _ h _ => h) (fun j b h => by cases h) (fun a w hl hb hd o ho => by have e1 := hb 1 _ rfl; exact rp1 o ho e1 fun ev ec e1 d ty p af g => by unfold execOp; simp only [e1, ec]; have hc := C1 w hl; go_simp) ?_
 refine StepsAtK.next (fun _ _ _ h hl => h.mono hl) (fun j b h => by cases h) (fun a w hl hb hd o ho => by obtain ⟨v1, e1, q1⟩ := hd 7 _ _ (by simp) rfl rfl; obtain ⟨b1, A1, n1, c1, rfl, r1, m1⟩ := (show GV 4 8 v1 w from q1); obtain ⟨_, e2, rfl⟩ := hd 8 _ _ (by simp) rfl rfl; exact Runs.call (zan (f := 35) (fun _ => by go_simp) o ho (by simp only [List.map_toArray, List.map_cons, List.map_nil, eval_const, e1, e2])) ((HRA _ _ _ _ w r1 m1).mono fun e w' h => h.run)) ?_
 refine StepsAtK.next (fun _ _ _ h hl => h.mono hl) (fun j b h => by cases h) (fun a w hl hb hd o ho => by obtain ⟨v1, e1, q1⟩ := hd 6 _ _ (by simp) rfl rfl; obtain ⟨b1, A1, n1, c1, rfl, r1, m1⟩ := (show GV (t * t * u) (16 + 8) v1 w from q1); obtain ⟨v2, e2, q2⟩ := hd 9 _ _ (by simp) rfl rfl; obtain ⟨b2, A2, n2, c2, rfl, r2, m2⟩ := (show GV (4 ^ k) (8 + 8 * k) v2 w from q2); exact Runs.call (zan (f := 62) (fun _ => by go_simp) o ho (by simp only [List.map_toArray, List.map_cons, List.map_nil, eval_const, e1, e2])) ((HTG (t * t * u) (4 ^ k) (16 + 8) (8 + 8 * k) _ _ _ _ _ _ _ _ w r1 r2 m1 m2 (by decide) (by omega)).mono fun e w' h => h.run)) ?_
 refine StepsAtK.skip (by simp [zer]) ?_
 refine StepsAtK.skip (by simp [zer]) ?_
 exact StepsAtK.none
noncomputable def zf0 (g4 g7 : Nat) (b4 b7 : Bool) (A4 A7 : Option Addr) (n4 c4 n7 c7 M : Nat) (q s : Int) (ob : Bool) : List SRow := [
 ⟨.load 88 (.tmp 4), some 25, none, [], fun v _ => v = .agg #[.bool b4, .slice A4 n4 c4]⟩,
 ⟨.load 88 (.tmp 4), some 26, none, [], fun v _ => v = .agg #[.bool b4, .slice A4 n4 c4]⟩,
 ⟨.call { callee := .value (.func 62), args := #[.tmp 25, .tmp 26], argTypes := #[88, 88] }, some 27, none, [0, 1], GV (q * q) M⟩,
 ⟨.load 88 (.tmp 7), some 28, none, [], fun v _ => v = .agg #[.bool b7, .slice A7 n7 c7]⟩,
 ⟨.call { callee := .value (.func 78), args := #[.tmp 27, .tmp 28], argTypes := #[88, 88] }, some 29, none, [2, 3, 2], fun v _ => v = .int .i64 s⟩,
 ⟨.binOp .lss 3 (.tmp 29) (.const (.int .i64 0)) 3, some 30, none, [4], fun v _ => v = .bool ob⟩]
noncomputable def zit (g4 g7 : Nat) (b4 b7 : Bool) (A4 A7 : Option Addr) (n4 c4 n7 c7 M : Nat) (q s : Int) (ob : Bool) (v2 v5 : Value) : List (Nat × Value) := [(4, .pointer (some ⟨g4, 0, none⟩)), (7, .pointer (some ⟨g7, 0, none⟩)), (2, v2), (5, v5)]
theorem zkU (V : World) (g4 g7 : Nat) (b4 b7 : Bool) (A4 A7 : Option Addr) (n4 c4 n7 c7 M : Nat) (q s : Int) (ob : Bool) (v2 v5 : Value) (R4 : ∀ w', Lat V w' → w'.rangeAt g4 0 [.bool b4, .slice A4 n4 c4]) (R7 : ∀ w', Lat V w' → w'.rangeAt g7 0 [.bool b7, .slice A7 n7 c7]) (J2 : (Tryz.prog.info? 88).map (·.size) = some 2)
  (HTI : ∀ w, Lat V w → Calls Tryz.prog 62 #[.agg #[.bool b4, .slice A4 n4 c4], .agg #[.bool b4, .slice A4 n4 c4]] w (LongPost w (q * q) M))
  (HCM : ∀ b' A' n' c' w, Lat V w → Lg w b' A' n' c' (q * q) → n' ≤ M → Calls Tryz.prog 78 #[.agg #[.bool b', .slice A' n' c'], .agg #[.bool b7, .slice A7 n7 c7]] w (fun e w' => e = .returned (.int .i64 s) ∧ Lat w w'))
  (hob : decide (s < 0) = ob) :
  AllStepsN Tryz.prog (zf0 g4 g7 b4 b7 A4 A7 n4 c4 n7 c7 M q s ob) (zit g4 g7 b4 b7 A4 A7 n4 c4 n7 c7 M q s ob v2 v5) V (zf0 g4 g7 b4 b7 A4 A7 n4 c4 n7 c7 M q s ob) := by
 refine nG ?_ fun a w hl hb hd o ho => by have e1 := hb 4 _ rfl; exact Runs.val (zah (S := Lat V) e1 R4 Tryz.underlying88 rfl J2 o w ho hl) ⟨Lat.refl _, fun _ => rfl⟩
 refine nG ?_ fun a w hl hb hd o ho => by have e1 := hb 4 _ rfl; exact Runs.val (zah (S := Lat V) e1 R4 Tryz.underlying88 rfl J2 o w ho hl) ⟨Lat.refl _, fun _ => rfl⟩
 refine nG ?_ fun a w hl hb hd o ho => by obtain ⟨_, e1, rfl⟩ := hd 0 _ _ (by simp) rfl rfl; obtain ⟨_, e2, rfl⟩ := hd 1 _ _ (by simp) rfl rfl; exact Runs.call (zan (f := 62) (fun _ => by go_simp) o ho (by simp only [List.map_toArray, List.map_cons, List.map_nil, eval_const, e1, e2])) ((HTI w hl).mono fun e w' h => h.run)
 refine nG ?_ fun a w hl hb hd o ho => by have e1 := hb 7 _ rfl; exact Runs.val (zah (S := Lat V) e1 R7 Tryz.underlying88 rfl J2 o w ho hl) ⟨Lat.refl _, fun _ => rfl⟩
 refine nG ?_ fun a w hl hb hd o ho => by obtain ⟨v1, e1, q1⟩ := hd 2 _ _ (by simp) rfl rfl; obtain ⟨b1, A1, n1, c1, rfl, r1, m1⟩ := (show GV (q * q) M v1 w from q1); obtain ⟨_, e2, rfl⟩ := hd 3 _ _ (by simp) rfl rfl; exact rcC o ho (HCM _ _ _ _ w hl r1 m1)
 refine nG ?_ fun a w hl hb hd o ho => by obtain ⟨_, e1, rfl⟩ := hd 4 _ _ (by simp) rfl rfl; obtain ⟨d, op, ty, p, af, gg⟩ := o; simp only at ho; subst ho; have ec : ∀ v, a.eval (.const v) = v := fun _ => rfl; exact Runs.val (by unfold execOp; generalize a.eval = ev at e1 ec ⊢; simp only [e1, ec]; go_simp; try simp [hob]) ⟨Lat.refl _, fun _ => rfl⟩
 exact AllStepsN.none
theorem znC (t u : Int) (k : Nat) (bk : Nat) (bo : Nat) (b1 : Bool) (A1 : Option Addr) (n1 c1 : Nat) (w : World) (hk : Blk w bk 3 #[.int .i64 (k : Nat)]) (ho : Blk w bo 88 #[.bool b1, .slice A1 n1 c1]) (h1 : Lg w b1 A1 n1 c1 1) (hn1 : n1 ≤ 8)
  (ht0 : -9223372036854775808 ≤ t) (ht1 : t < 9223372036854775808) (hu0 : 0 ≤ u) (hu1 : u < 9223372036854775808) (hk0 : k ≤ 1000) :
  Calls Tryz.prog 76 #[.agg #[.int .i64 t, .int .i64 u], .pointer (some ⟨bk, 0, none⟩), .pointer (some ⟨bo, 0, none⟩)] w (PartsPost w (eDn (t, u) k) (eUp (t, u) k) 9000 9001) := by
 have HF1 := Lib.hid (fun w => zaY t ht0 ht1 w)
 have HFU := Lib.hid (fun w => zaY u (by omega) hu1 w)
 have HSQ := Lib.hid (zfl (x := (t, u)) hu0 k)
 have HK0 := Lib.hid hk0
 have HO := Lib.hid h1
 have HN1 := Lib.hid hn1
 have HBO := Lib.hid ho.lt
 clear ht0 ht1 hu0 hu1 hk0 h1 hn1
 go_enter Tryz.func76, Tryz.ntmps76
 go_upto_region 1 with (fail)
 refine za0 (Q := fun W => Code.wp _ _ _ _ W) ?_
 intro W hl hs k3 k4 k5
 replace hk := hk.later hl
 replace ho := ho.later hl
 obtain ⟨g5, hg5⟩ : ∃ z, w.heap.size + 1 + 1 = z := ⟨_, rfl⟩
 obtain ⟨g4, hg4⟩ : ∃ z, w.heap.size + 1 = z := ⟨_, rfl⟩
 obtain ⟨g3, hg3⟩ : ∃ z, w.heap.size = z := ⟨_, rfl⟩
 have HG : Hid (g3 < g4 ∧ g4 < g5 ∧ w.heap.size = g3) := by show g3 < g4 ∧ g4 < g5 ∧ w.heap.size = g3; omega
 rw [hg5] at k5 ⊢
 rw [hg4] at k4 ⊢
 rw [hg3] at k3 ⊢
 clear hg5 hg4 hg3 hs
 have c3 := k3.cell 0
 go_wp2_with fail
 refine (HF1.out W).mono ?_
 rintro e w1 ⟨b6, A6, n6, c6, rfl, r6, m6, l1⟩
 replace hk := hk.later l1
 replace ho := ho.later l1
 replace k3 := k3.later l1
 replace k4 := k4.later l1
 replace k5 := k5.later l1
 have L1 := hl.trans l1
 clear hl l1 c3 HF1
 go_upto_region 2 with (fail)
 refine zas (Q := fun W => Code.wp _ _ _ _ W) ?_
 intro w2 l2 hs2 k6
 obtain ⟨g6, hg6⟩ : ∃ z, w1.heap.size = z := ⟨_, rfl⟩
 have HG6 : Hid (g5 < g6) := by have := k5.lt; show g5 < g6; omega
 rw [hg6] at k6 ⊢
 replace hk := hk.later l2
 replace ho := ho.later l2
 replace k3 := k3.later l2
 replace k4 := k4.later l2
 replace k5 := k5.later l2
 replace r6 := r6.later l2
 replace L1 := L1.trans l2
 clear l2 hs2 hg6
 have R6 : ∀ w', Lat w2 w' → w'.rangeAt g6 0 [.bool b6, .slice A6 n6 c6] := fun w' hl => (k6.later hl).rangeAll
 have J2 : (Tryz.prog.info? 88).map (·.size) = some 2 := by kernel_rfl
 have C3 : ∀ w', Lat w2 w' → w'.cell? ⟨g3, 0 + 1, none⟩ = some (.int .i64 u) := fun w' hl => (k3.later hl).cell (0 + 1)
 have C1 : ∀ w', Lat w2 w' → w'.cell? ⟨bk, 0, none⟩ = some (.int .i64 (k : Nat)) := fun w' hl => (hk.later hl).cell 0
 have HT1 := fun (w : World) (hl : Lat w2 w) => (zbc b6 A6 n6 c6 t b6 A6 n6 c6 t w (r6.later hl) (r6.later hl) (by omega) (by omega)).mono fun _ _ h => h.le (M := 16) (by omega)
 have HF4 : ∀ w, Calls Tryz.prog 34 #[.int .i64 4] w (LongPost w 4 8) := fun w => zaY 4 (by decide) (by decide) w
 have HTG : ∀ (x y : Int) (N M : Nat) b1 A1 n1 c1 b2 A2 n2 c2 w, Lg w b1 A1 n1 c1 x → Lg w b2 A2 n2 c2 y → n1 ≤ N → n2 ≤ M → N ≤ 100000 → M ≤ 100000 → Calls Tryz.prog 62 #[.agg #[.bool b1, .slice A1 n1 c1], .agg #[.bool b2, .slice A2 n2 c2]] w (LongPost w (x * y) (N + M)) := fun x y N M b1 A1 n1 c1 b2 A2 n2 c2 w h1 h2 a1 a2 a3 a4 => by
  refine (zbc b1 A1 n1 c1 x b2 A2 n2 c2 y w h1 h2 (by omega) (by omega)).mono ?_
  rintro e w' ⟨b7, A7, n7, c7, rfl, p1, p2, p3⟩
  exact ⟨b7, A7, n7, c7, rfl, p1, by omega, p3⟩
 have HRA : ∀ b1 A1 n1 c1 w, Lg w b1 A1 n1 c1 4 → n1 ≤ 8 → Calls Tryz.prog 35 #[.agg #[.bool b1, .slice A1 n1 c1], .int .i64 (k : Nat)] w (LongPost w (4 ^ k) (8 + 8 * k)) := fun b1 A1 n1 c1 w h hn => zds b1 A1 n1 c1 4 k w h hn HK0.out
 have hk1 := HK0.out
 rename_i KN hKN
 refine zbt (zdc bk g3 g6 k b6 A6 n6 c6 t u) (zis bk g3 g6 k b6 A6 n6 c6 t u _ _ _) zer 36 13 [[], [], [0, 1], [], [3], [4, 2], [2, 5, 5], [6], [], [7, 8, 7], [6, 9, 9], [], [11, 10, 10, 0, 1, 2, 3, 4, 5, 6, 7, 8, 9, 10, 11]] (by kernel_rfl) (by kernel_rfl) (by kernel_rfl) (by kernel_rfl) (by kernel_rfl) (by kernel_rfl) (by kernel_rfl) (by rfl) rfl (base_of (by repeat (first | exact base_nil _ | refine zad rfl ?_))) (zmi bk g3 g6 k b6 A6 n6 c6 t u) (zmj bk g3 g6 k b6 A6 n6 c6 t u) (zkT w2 bk g3 g6 k b6 A6 n6 c6 t u _ _ _ R6 J2 C3 C1 HT1 HFU HF4 HTG HRA hk1) ?_
 intro a9 W9 hsz9 hdf9 hL9 hbs hsl hmm
 obtain ⟨g7, c7, s7, n7, b7, p7, far7⟩ := hmm 0 _ rfl
 obtain ⟨v9, h9, q9⟩ := hsl 10 _ _ rfl rfl
 obtain ⟨y0, yA, yn, yc, rfl, r7, m7⟩ := (show GV _ _ v9 W9 from q9)
 obtain rfl := zda p7 h9
 clear h9
 have w7 := zaa s7
 refine hKN _ _ ?_
 obtain ⟨T9, df9⟩ := a9
 obtain rfl : df9 = [] := hdf9
 obtain ⟨f, hf, rfl⟩ := zkS T9 hsz9
 have X9 := fun k v h => (hf k).trans (zaa (hbs k v h))
 have x7 : f 7 = .pointer (some ⟨g7, 0, none⟩) := (hf 7).trans w7
 clear hbs hsl hmm hf hsz9 hKN s7 p7 far7 w7
 simp only [X9 1 _ rfl, X9 3 _ rfl, X9 6 _ rfl, X9 2 _ rfl, X9 4 _ rfl, X9 5 _ rfl, x7]
 clear X9 x7
 clear hk1
 replace hk := hk.later hL9
 replace ho := ho.later hL9
 replace k4 := k4.later hL9
 replace k5 := k5.later hL9
 replace L1 := L1.trans hL9
 have HG7 : Hid (g6 < g7) := by have := k6.lt; show g6 < g7; omega
 obtain ⟨k7, hkb⟩ := (⟨b7, trivial⟩ : ∃ _ : Blk W9 g7 88 #[.bool y0, .slice yA yn yc], True)
 clear hkb b7 n7 k3 k6 R6 C3 C1 HT1 HFU HF4 HTG HRA r6
 obtain ⟨sq, hsq⟩ : ∃ z, t * t * u * 4 ^ k = z := ⟨_, rfl⟩
 rw [hsq] at r7
 have HQ : Hid (eSq (t, u) k = sq) := hsq
 have hsq0 : 0 ≤ sq := by rw [← hsq]; exact HSQ.out
 clear hsq HSQ
 obtain ⟨W3, rfl⟩ : ∃ z, z = W9 := ⟨_, rfl⟩
 have e0 := k7.cell 0
 have e1 := k7.cell 1
 have hyn : yn ≤ 8040 := by have := HK0.out; omega
 go_wp2_with fail
 refine (zkR y0 yA yn yc sq W3 r7 hsq0 (by omega)).mono ?_
 rintro e w4 ⟨b4, A4, n4, c4, rfl, r4, m4, l4⟩
 obtain ⟨q, hq⟩ : ∃ z, rtZ sq = z := ⟨_, rfl⟩
 rw [hq] at r4
 have HDN : Hid (eDn (t, u) k = q) := by show rtZ (eSq (t, u) k) = q; rw [HQ.out, hq]
 replace hk := hk.later l4
 replace ho := ho.later l4
 replace k4 := k4.later l4
 replace k5 := k5.later l4
 replace k7 := k7.later l4
 replace r7 := r7.later l4
 replace L1 := L1.trans l4
 have R1 := HO.out.later L1
 have hn4 : n4 ≤ 8040 := by omega
 have HYN := Lib.hid hyn
 have HN4 := Lib.hid hn4
 clear l4 e0 e1 hsq0 hq m4 m7 hyn hn4
 have e0 := k4.cell 0
 have e1 := k4.cell 1
 have f0 := k4.frozen 0
 have f1 := k4.frozen 1
 have hlt := k4.lt
 go_upto_region 4 with (fail)
 refine za6 (Q := fun W => Code.wp _ _ _ _ W) k4 ?_
 intro w5 j4 l5 hr5
 replace ho := ho.keepP l5 (by have := HG.out; have := HBO.out; omega)
 replace k5 := k5.keepP l5 (by have := HG.out; omega)
 replace k7 := k7.keepP l5 (by have := HG.out; have := HG6.out; have := HG7.out; omega)
 replace L1 := l5.narrow L1 (by have := HG.out; omega)
 replace r4 := hr5 r4
 replace r7 := hr5 r7
 replace R1 := hr5 R1
 clear k4 hk e0 e1 f0 f1 hlt l5 hr5
 have e0 := j4.cell 0
 have e1 := j4.cell 1
 have f0 := k5.frozen 0
 have f1 := k5.frozen 1
 have d0 := k5.cell 0
 have d1 := k5.cell 1
 have hlt := k5.lt
 go_upto_region 5 with (fail)
 refine za6 (Q := fun W => Code.wp _ _ _ _ W) k5 ?_
 intro w6 j5 l6 hr6
 replace ho := ho.keepP l6 (by have := HG.out; have := HBO.out; omega)
 replace k7 := k7.keepP l6 (by have := HG.out; have := HG6.out; have := HG7.out; omega)
 replace j4 := j4.keepP l6 (by have := HG.out; omega)
 replace L1 := l6.narrow L1 (by have := HG.out; omega)
 replace r4 := hr6 r4
 replace r7 := hr6 r7
 replace R1 := hr6 R1
 clear k5 e0 e1 f0 f1 d0 d1 hlt l6 hr6
 obtain ⟨W6, rfl⟩ : ∃ z, z = w6 := ⟨_, rfl⟩
 obtain ⟨M, hM⟩ : ∃ z, 20000 = z := ⟨_, rfl⟩
 obtain ⟨s, hsd⟩ : ∃ z, zaq (q * q - sq) = z := ⟨_, rfl⟩
 obtain ⟨ob, hob⟩ : ∃ z, decide (s < 0) = z := ⟨_, rfl⟩
 have HOB : Hid (decide (q * q - sq < 0) = ob) := by
  show _ = ob
  rw [← hob, ← hsd]
  exact (decide_eq_decide.2 (zdt _)).symm
 have R4 : ∀ w', Lat W6 w' → w'.rangeAt g4 0 [.bool b4, .slice A4 n4 c4] := fun w' hl => (j4.later hl).rangeAll
 have R7 : ∀ w', Lat W6 w' → w'.rangeAt g7 0 [.bool y0, .slice yA yn yc] := fun w' hl => (k7.later hl).rangeAll
 have HTI := fun (w : World) (hl : Lat W6 w) => (zbc b4 A4 n4 c4 q b4 A4 n4 c4 q w (r4.later hl) (r4.later hl) (by have := HN4.out; omega) (by have := HN4.out; omega)).mono fun _ _ h => h.le (M := M) (by have := HN4.out; omega)
 have HCM : ∀ b' A' n' c' w, Lat W6 w → Lg w b' A' n' c' (q * q) → n' ≤ M → Calls Tryz.prog 78 #[.agg #[.bool b', .slice A' n' c'], .agg #[.bool y0, .slice yA yn yc]] w (fun e w' => e = .returned (.int .i64 s) ∧ Lat w w') := fun b' A' n' c' w hl h hn => by
  rw [← hsd]
  exact zcY b' A' n' c' (q * q) y0 yA yn yc sq w h (r7.later hl) (by omega) (by have := HYN.out; omega)
 clear hM hsd
 rename_i KN hKN
 refine zae (zf0 g4 g7 b4 y0 A4 yA n4 c4 yn yc M q s ob) (zit g4 g7 b4 y0 A4 yA n4 c4 yn yc M q s ob _ _) 36 6 [[], [], [0, 1], [], [2, 3, 2], [4]] (by kernel_rfl) (by kernel_rfl) (by kernel_rfl) (by kernel_rfl) (by kernel_rfl) (by kernel_rfl) (by rfl) rfl (base_of (by repeat (first | exact base_nil _ | refine zad rfl ?_))) (zkU W6 g4 g7 b4 y0 A4 yA n4 c4 yn yc M q s ob _ _ R4 R7 J2 HTI HCM hob) ?_
 ·intro a9 W9 hsz9 hdf9 hL9 hbs hsl
  obtain ⟨v9, h9, q9⟩ := hsl 5 _ _ rfl rfl
  obtain rfl : v9 = .bool ob := q9
  have w30 := zaa h9
  clear h9
  refine hKN _ _ ?_
  obtain ⟨T9, df9⟩ := a9
  obtain rfl : df9 = [] := hdf9
  obtain ⟨f, hf, rfl⟩ := zkS T9 hsz9
  have XX := fun k v h => (hf k).trans (zaa (hbs k v h))
  have x4 : f 4 = .pointer (some ⟨g4, 0, none⟩) := XX 4 _ rfl
  have x7 : f 7 = .pointer (some ⟨g7, 0, none⟩) := XX 7 _ rfl
  have x30 := (hf 30).trans w30
  clear hbs hsl hf hsz9 hKN w30
  simp only [x4, x7, XX 2 _ rfl, XX 5 _ rfl, x30]
  clear XX x4 x7 x30
  replace ho := ho.later hL9
  replace j4 := j4.later hL9
  replace j5 := j5.later hL9
  replace r4 := r4.later hL9
  replace R1 := R1.later hL9
  replace L1 := L1.trans hL9
  obtain ⟨W7, rfl⟩ : ∃ z, z = W9 := ⟨_, rfl⟩
  clear hL9 R4 R7 J2 HTI HCM hob k7 r7
  cases ob with
  | true =>
    have hlt : q * q < sq := by have := of_decide_eq_true HOB.out; omega
    have HUP : Hid (eUp (t, u) k = q + 1) := by show eUp (t, u) k = q + 1; unfold eUp; rw [HDN.out, HQ.out, if_pos hlt]
    clear HOB hlt
    have e0 := j4.cell 0
    have e1 := j4.cell 1
    have d0 := ho.cell 0
    have d1 := ho.cell 1
    go_wp2_with fail
    refine (zbp b4 A4 n4 c4 q b1 A1 n1 c1 1 W7 r4 R1 (by have := HN4.out; omega) (by have := HN1.out; omega)).mono ?_
    rintro e w8 ⟨b8, A8, n8, c8, rfl, r8, m8, l8⟩
    replace j4 := j4.later l8
    replace j5 := j5.later l8
    replace r4 := r4.later l8
    replace L1 := L1.trans l8
    have hn8 : n8 ≤ 9001 := by have := HN4.out; have := HN1.out; omega
    have HN8 := Lib.hid hn8
    clear e0 e1 d0 d1 ho R1 l8 m8 hn8
    have f0 := j5.frozen 0
    have f1 := j5.frozen 1
    have d0 := j5.cell 0
    have d1 := j5.cell 1
    have hlt := j5.lt
    go_upto_region 7 with (fail)
    refine za6 (Q := fun W => Code.wp _ _ _ _ W) j5 ?_
    intro w9 i5 l9 hr9
    replace j4 := j4.keepP l9 (by have := HG.out; omega)
    replace L1 := l9.narrow L1 (by have := HG.out; omega)
    replace r4 := hr9 r4
    replace r8 := hr9 r8
    have HR4 := Lib.hid r4
    have HR8 := Lib.hid r8
    have HL1 := Lib.hid L1
    clear j5 f0 f1 d0 d1 hlt l9 hr9 r4 r8 L1
    have c0 := j4.cell 0
    have c1' := j4.cell (0 + 1)
    have f0 := j4.frozen 0
    have f1 := j4.frozen (0 + 1)
    have c2' := i5.cell 0
    have c3' := i5.cell (0 + 1)
    have f2 := i5.frozen 0
    have f3 := i5.frozen (0 + 1)
    have hlt4 := j4.lt
    have hlt5 := i5.lt
    have ne1 : ¬ g4 = g5 := by have := HG.out; omega
    have ne2 : ¬ g5 = g4 := by have := HG.out; omega
    go_region
    all_goals
     go_wp2
     refine bodyPost_ret (v := .tuple #[.agg #[.bool b4, .slice A4 n4 c4], .agg #[.bool b8, .slice A8 n8 c8]]) (by simp [results, Tryz.results76, go_sem, c0, c1', c2', c3']) rfl ?_
     have := (PartsPost.close (N := 9000) (M := 9001) j4 i5 HR4.out HR8.out HL1.out (by have := HG.out; omega) (by have := HG.out; omega) (by have := HN4.out; omega) HN8.out).drew
     rw [HDN.out, HUP.out]
     exact this
  | false =>
    have hlt : ¬ q * q < sq := by have := of_decide_eq_false HOB.out; omega
    have HUP : Hid (eUp (t, u) k = q) := by show eUp (t, u) k = q; unfold eUp; rw [HDN.out, HQ.out, if_neg hlt]
    have HR4 := Lib.hid r4
    have HL1 := Lib.hid L1
    clear HOB hlt r4 R1 L1 ho
    have c0 := j4.cell 0
    have c1' := j4.cell (0 + 1)
    have f0 := j4.frozen 0
    have f1 := j4.frozen (0 + 1)
    have c2' := j5.cell 0
    have c3' := j5.cell (0 + 1)
    have f2 := j5.frozen 0
    have f3 := j5.frozen (0 + 1)
    have hlt4 := j4.lt
    have hlt5 := j5.lt
    have ne1 : ¬ g4 = g5 := by have := HG.out; omega
    have ne2 : ¬ g5 = g4 := by have := HG.out; omega
    go_wp2
    go_region
    all_goals
     go_wp2
     refine bodyPost_ret (v := .tuple #[.agg #[.bool b4, .slice A4 n4 c4], .agg #[.bool b4, .slice A4 n4 c4]]) (by simp [results, Tryz.results76, go_sem, c0, c1', c2', c3']) rfl ?_
     have := (PartsPost.close (N := 9000) (M := 9001) j4 j5 HR4.out HR4.out HL1.out (by have := HG.out; omega) (by have := HG.out; omega) (by have := HN4.out; omega) (by have := HN4.out; omega)).drew
     rw [HDN.out, HUP.out]
     exact this
end Go.Proofs.YtpmbglhbcjbkcaaGreat
