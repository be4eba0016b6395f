/- Several texts in one: RdZa, RdZb. -/
import Derived.Test.YtpmbglhbcjbkcaaGreatH41
import Derived.Test.YtpmbglhbcjbkcaaGreatH30
namespace Go.Proofs.YtpmbglhbcjbkcaaGreat
set_option maxHeartbeats 16000000
set_option maxRecDepth 100000
open Go.RowKit
set_option linter.unusedSimpArgs false
set_option linter.unusedVariables false
def RRV (x y : Int) (N : Nat) (v : Value) (w : World) : Prop := ∃ b A n c b' A' n' c', v = .agg #[.bool b, .slice A n c, .bool b', .slice A' n' c'] ∧ Rg w b A n c x ∧ n ≤ N ∧ Rg w b' A' n' c' y ∧ n' ≤ N
theorem RRV.mono {x y : Int} {N : Nat} {v : Value} {w w' : World} (h : RRV x y N v w) (hl : Lat w w') : RRV x y N v w' := by
 obtain ⟨b, A, n, c, b', A', n', c', e, h1, h2, h3, h4⟩ := h
 exact ⟨b, A, n, c, b', A', n', c', e, h1.later hl, h2, h3.later hl, h4⟩
theorem RratPost.runQ {w w' : World} {x y : Int} {N : Nat} {e : Ending} {d : Prop} (h : RratPost w x y N e w') : ∃ v, e = .returned v ∧ (Lat w w' ∧ (d → RRV x y N v w')) := by
 obtain ⟨b, A, n, c, b', A', n', c', e, h1, h2, h3, h4, h5⟩ := h
 exact ⟨_, e, h5, fun _ => ⟨b, A, n, c, b', A', n', c', rfl, h1, h2, h3, h4⟩⟩
def EndsP (w : World) (x y u : Int) (N : Nat) (e : Ending) (w' : World) : Prop :=
 ∃ b A n c b' A' n' c' d D m C d' D' m' C', e = .returned (.tuple #[.agg #[.bool b, .slice A n c, .bool b', .slice A' n' c'], .agg #[.bool d, .slice D m C, .bool d', .slice D' m' C']]) ∧
  (Rg w' b A n c (zaT x u) ∧ n ≤ N ∧ Rg w' b' A' n' c' (zaU x u) ∧ n' ≤ N) ∧ (Rg w' d D m C (zaT y u) ∧ m ≤ N ∧ Rg w' d' D' m' C' (zaU y u) ∧ m' ≤ N) ∧ Lat w w'
theorem zmA {x : Int × Int} (k : Nat) (h0 : x.1 ≠ 0) (h : ¬ 0 < x.1) : eLo x k = -(eUp x k) ∧ eHi x k = -(eDn x k) := by
 have h' : x.1 < 0 := by omega
 unfold eLo eHi
 exact ⟨if_pos h', if_pos h'⟩
theorem zmB {x : Int × Int} (k : Nat) (h : 0 < x.1) : eLo x k = eDn x k ∧ eHi x k = eUp x k := by
 have h' : ¬ x.1 < 0 := by omega
 unfold eLo eHi
 exact ⟨if_neg h', if_neg h'⟩
theorem Rg.sign_false {w : World} {b : Bool} {A : Option Addr} {n c : Nat} {z : Int} (h : Rg w b A n c z) (hz : 0 ≤ z) : b = false := by
 obtain ⟨_, xs, _, h2, h3, h4, h5⟩ := h
 cases b with
 | false => rfl
 | true =>
   have h6 := zeZ (by decide : (0 : Int) < B32) h2 h3 (h4 rfl)
   have h7 : (0 : Int) < B32 ^ (xs.length - 1) := Int.pow_pos (by decide)
   simp only [sgn, if_true] at h5
   omega
theorem znc (k : Nat) : (2 : Int) ^ k ≠ 0 := by have := Int.pow_pos (n := 2) (m := k) (by decide); omega
theorem Rg.none0 (w : World) : Rg w false none 0 0 0 := ⟨Nat.le_refl _, [], Sl.nil _ _ _, InR.nil _, Nz.nil, (fun h => by cases h), rfl⟩
theorem RefPost.le {w w' : World} {z : Int} {N M : Nat} {e : Ending} (h : RefPost w z N e w') (hm : N ≤ M) : RefPost w z M e w' := by
 obtain ⟨b, A, n, c, h1, h2, h3, h4⟩ := h
 exact ⟨b, A, n, c, h1, h2, Nat.le_trans h3 hm, h4⟩
theorem RratPost.le {w w' : World} {x y : Int} {N M : Nat} {e : Ending} (h : RratPost w x y N e w') (hm : N ≤ M) : RratPost w x y M e w' := by
 obtain ⟨b, A, n, c, b', A', n', c', h1, h2, h3, h4, h5, h6⟩ := h
 exact ⟨b, A, n, c, b', A', n', c', h1, h2, Nat.le_trans h3 hm, h4, Nat.le_trans h5 hm, h6⟩
theorem zcS (T : Array Value) (h : T.size = 79) : ∃ f : Nat → Value, (∀ k, f k = T.getD k undef) ∧ T = #[f 0, f 1, f 2, f 3, f 4, f 5, f 6, f 7, f 8, f 9, f 10, f 11, f 12, f 13, f 14, f 15, f 16, f 17, f 18, f 19, f 20, f 21, f 22, f 23, f 24, f 25, f 26, f 27, f 28, f 29, f 30, f 31, f 32, f 33, f 34, f 35, f 36, f 37, f 38, f 39, f 40, f 41, f 42, f 43, f 44, f 45, f 46, f 47, f 48, f 49, f 50, f 51, f 52, f 53, f 54, f 55, f 56, f 57, f 58, f 59, f 60, f 61, f 62, f 63, f 64, f 65, f 66, f 67, f 68, f 69, f 70, f 71, f 72, f 73, f 74, f 75, f 76, f 77, f 78] := ⟨fun k => T.getD k undef, fun _ => rfl, (spell 79 T h).trans (by kernel_rfl)⟩
noncomputable def zdi (gg oo n c j g6 M : Nat) (bu : Bool) (Au : Option Addr) (nu cu : Nat) (t z : Int) : List SRow := [
 ⟨.move (.tmp 0), some 25, none, [], fun v _ => v = .slice (some ⟨gg, oo, none⟩) n c⟩,
 ⟨.move (.tmp 9), some 26, none, [], fun v _ => v = .int .i64 (j : Nat)⟩,
 ⟨.indexAddr 27 (.tmp 25) (.tmp 26), some 27, none, [0, 1], fun v _ => v = .pointer (some ⟨gg, oo + j * 2, none⟩)⟩,
 ⟨.fieldAddr 72 (.tmp 27) 0, some 28, none, [2], fun v _ => v = .pointer (some ⟨gg, oo + j * 2, none⟩)⟩,
 ⟨.load 3 (.tmp 28), some 29, none, [3], fun v _ => v = .int .i64 t⟩,
 ⟨.call { callee := .value (.func 30), args := #[.tmp 29], argTypes := #[3] }, some 30, none, [4], HV t 2⟩,
 ⟨.load 79 (.tmp 6), some 31, none, [], fun v _ => v = .agg #[.bool bu, .slice Au nu cu]⟩,
 ⟨.call { callee := .value (.func 29), args := #[.tmp 30, .tmp 31], argTypes := #[79, 79] }, some 32, none, [5, 6, 5], HV (t * z) (2 + M)⟩,
 ⟨.alloc 79, some 10, none, [], fun _ _ => True⟩,
 ⟨.store 79 (.tmp 10) (.tmp 32), none, none, [8, 7, 7, 0, 1, 2, 3, 4, 5, 6, 7, 8], fun _ _ => True⟩]
noncomputable def ziQ (gg oo n c j g6 M : Nat) (bu : Bool) (Au : Option Addr) (nu cu : Nat) (t z : Int) (v1 v2 v3 v4 v5 v7 v8 v14 v15 v16 v17 v18 v73 v74 v75 v76 v77 v78 : Value) : List (Nat × Value) := [(0, .slice (some ⟨gg, oo, none⟩) n c), (6, .pointer (some ⟨g6, 0, none⟩)), (9, .int .i64 (j : Nat)), (1, v1), (2, v2), (3, v3), (4, v4), (5, v5), (7, v7), (8, v8), (14, v14), (15, v15), (16, v16), (17, v17), (18, v18), (73, v73), (74, v74), (75, v75), (76, v76), (77, v77), (78, v78)]
def zeA : List zca := [⟨8, 10, 79, #[.bool false, .slice none 0 0], 9, 32, 7⟩]
theorem zmC (gg oo n c j g6 M : Nat) (bu : Bool) (Au : Option Addr) (nu cu : Nat) (t z : Int) : AllKeep (zdi gg oo n c j g6 M bu Au nu cu t z) := ⟨fun _ _ _ h hk => h, ⟨fun _ _ _ h hk => h, ⟨fun _ _ _ h hk => h, ⟨fun _ _ _ h hk => h, ⟨fun _ _ _ h hk => h, ⟨fun _ _ _ h hk => h.keepW hk, ⟨fun _ _ _ h hk => h, ⟨fun _ _ _ h hk => h.keepW hk, ⟨fun _ _ _ h hk => h, ⟨fun _ _ _ h hk => h, trivial⟩⟩⟩⟩⟩⟩⟩⟩⟩⟩
theorem zmD (gg oo n c j g6 M : Nat) (bu : Bool) (Au : Option Addr) (nu cu : Nat) (t z : Int) : AllMemK Tryz.prog (zdi gg oo n c j g6 M bu Au nu cu t z) zeA := by
 refine ⟨⟨fun ev w o ho => ?_, by rfl, fun r v w hr => ?_, by rfl, fun r hr => ?_, by rfl, fun r v w hr h => ?_, by kernel_rfl, by simp [zbJ]⟩, ?_⟩
 ·obtain ⟨d, op, ty, p, af, g⟩ := o
  simp only at ho
  subst ho
  unfold execOp
  go_simp
 ·obtain rfl := Option.some.inj (show some _ = some r from hr); trivial
 ·obtain rfl := Option.some.inj (show some _ = some r from hr); exact ⟨by simp, by simp⟩
 ·obtain rfl := Option.some.inj (show some _ = some r from hr); exact (by obtain ⟨b, A, n, c, rfl, _, _⟩ := h; exact ⟨_, rfl, rfl, by simp [Value.oneCell']⟩)
 trivial
theorem zlt (V : World) (gg oo n c j g6 M : Nat) (bu : Bool) (Au : Option Addr) (nu cu : Nat) (t z : Int) (v1 v2 v3 v4 v5 v7 v8 v14 v15 v16 v17 v18 v73 v74 v75 v76 v77 v78 : Value) (C0 : ∀ w', Lat V w' → w'.cell? ⟨gg, oo + j * 2, none⟩ = some (.int .i64 t)) (hkn : (j : Int) < (n : Int)) (hk0 : (0 : Int) ≤ (j : Int)) (RU : ∀ w', Lat V w' → w'.rangeAt g6 0 [.bool bu, .slice Au nu cu]) (J2 : (Tryz.prog.info? 79).map (·.size) = some 2)
  (HF : ∀ w, Calls Tryz.prog 30 #[.int .i64 t] w (RefPost w t 2))
  (HT : ∀ b A m q w, Lat V w → Rg w b A m q t → m ≤ 2 → Calls Tryz.prog 29 #[.agg #[.bool b, .slice A m q], .agg #[.bool bu, .slice Au nu cu]] w (RefPost w (t * z) (2 + M))) :
  StepsAtK Tryz.prog (zdi gg oo n c j g6 M bu Au nu cu t z) (ziQ gg oo n c j g6 M bu Au nu cu t z v1 v2 v3 v4 v5 v7 v8 v14 v15 v16 v17 v18 v73 v74 v75 v76 v77 v78) V (zeA.flatMap fun M => [M.ia, M.is]) 0 (zdi gg oo n c j g6 M bu Au nu cu t z) := by
 refine StepsAtK.next (fun _ _ _ h _ => h) (fun j b h => by cases h) (fun a w hl hb hd o ho => by have e1 := hb 0 _ rfl; exact rp1 o ho e1 fun ev ec e1 d ty p af g => by unfold execOp; simp only [e1, ec]; go_simp) ?_
 refine StepsAtK.next (fun _ _ _ h _ => h) (fun j b h => by cases h) (fun a w hl hb hd o ho => by have e1 := hb 9 _ rfl; exact rp1 o ho e1 fun ev ec e1 d ty p af g => by unfold execOp; simp only [e1, ec]; go_simp) ?_
 refine StepsAtK.next (fun _ _ _ h _ => h) (fun j b h => by cases h) (fun a w hl hb hd o ho => by obtain ⟨_, e1, rfl⟩ := hd 0 _ _ (by simp) rfl rfl; obtain ⟨_, e2, rfl⟩ := hd 1 _ _ (by simp) rfl rfl; exact rp2 o ho e1 e2 fun ev ec e1 e2 d ty p af g => by unfold execOp; simp only [e1, e2, ec]; go_simp) ?_
 refine StepsAtK.next (fun _ _ _ h _ => h) (fun j b h => by cases h) (fun a w hl hb hd o ho => by obtain ⟨_, e1, rfl⟩ := hd 2 _ _ (by simp) rfl rfl; exact rp1 o ho e1 fun ev ec e1 d ty p af g => by unfold execOp; simp only [e1, ec]; go_simp) ?_
 refine StepsAtK.next (fun _ _ _ h _ => h) (fun j b h => by cases h) (fun a w hl hb hd o ho => by obtain ⟨_, e1, rfl⟩ := hd 3 _ _ (by simp) rfl rfl; exact rp1 o ho e1 fun ev ec e1 d ty p af g => by unfold execOp; simp only [e1, ec]; have hc := C0 w hl; go_simp) ?_
 refine StepsAtK.next (fun _ _ _ h hl => h.mono hl) (fun j b h => by cases h) (fun a w hl hb hd o ho => by obtain ⟨_, e1, rfl⟩ := hd 4 _ _ (by simp) rfl rfl; exact Runs.call (zan (f := 30) (fun _ => by go_simp) o ho (by simp only [List.map_toArray, List.map_cons, List.map_nil, eval_const, e1])) ((HF w).mono fun e w' h => h.runH)) ?_
 refine StepsAtK.next (fun _ _ _ h _ => h) (fun j b h => by cases h) (fun a w hl hb hd o ho => by have e1 := hb 6 _ rfl; exact Runs.val (zah (S := Lat V) e1 RU Tryz.underlying79 rfl J2 o w ho hl) ⟨Lat.refl _, fun _ => rfl⟩) ?_
 refine StepsAtK.next (fun _ _ _ h hl => h.mono hl) (fun j b h => by cases h) (fun a w hl hb hd o ho => by obtain ⟨v1, e1, q1⟩ := hd 5 _ _ (by simp) rfl rfl; obtain ⟨b1, A1, n1, c1, rfl, r1, m1⟩ := (show HV t 2 v1 w from q1); obtain ⟨_, e2, rfl⟩ := hd 6 _ _ (by simp) rfl rfl; exact Runs.call (zan (f := 29) (fun _ => by go_simp) o ho (by simp only [List.map_toArray, List.map_cons, List.map_nil, eval_const, e1, e2])) ((HT _ _ _ _ w hl r1 m1).mono fun e w' h => h.runH)) ?_
 refine StepsAtK.skip (by simp [zeA]) ?_
 refine StepsAtK.skip (by simp [zeA]) ?_
 exact StepsAtK.none
noncomputable def zdj (gg oo n c j g10 M : Nat) (bx : Bool) (Ax : Option Addr) (nx cx : Nat) (u z : Int) : List SRow := [
 ⟨.load 79 (.tmp 10), some 33, none, [], fun v _ => v = .agg #[.bool bx, .slice Ax nx cx]⟩,
 ⟨.load 79 (.tmp 10), some 34, none, [], fun v _ => v = .agg #[.bool bx, .slice Ax nx cx]⟩,
 ⟨.call { callee := .value (.func 29), args := #[.tmp 33, .tmp 34], argTypes := #[79, 79] }, some 35, none, [0, 1], HV (z * z) (M + M)⟩,
 ⟨.move (.tmp 0), some 36, none, [], fun v _ => v = .slice (some ⟨gg, oo, none⟩) n c⟩,
 ⟨.move (.tmp 9), some 37, none, [], fun v _ => v = .int .i64 (j : Nat)⟩,
 ⟨.indexAddr 27 (.tmp 36) (.tmp 37), some 38, none, [3, 4], fun v _ => v = .pointer (some ⟨gg, oo + j * 2, none⟩)⟩,
 ⟨.fieldAddr 72 (.tmp 38) 1, some 39, none, [5], fun v _ => v = .pointer (some ⟨gg, oo + j * 2 + 1, none⟩)⟩,
 ⟨.load 3 (.tmp 39), some 40, none, [6], fun v _ => v = .int .i64 u⟩,
 ⟨.call { callee := .value (.func 30), args := #[.tmp 40], argTypes := #[3] }, some 41, none, [7, 2], HV u 2⟩,
 ⟨.call { callee := .value (.func 29), args := #[.tmp 35, .tmp 41], argTypes := #[79, 79] }, some 42, none, [2, 8, 8], HV (z * z * u) (M + M + 2)⟩,
 ⟨.alloc 79, some 11, none, [], fun _ _ => True⟩,
 ⟨.store 79 (.tmp 11) (.tmp 42), none, none, [10, 9, 9, 0, 1, 2, 3, 4, 5, 6, 7, 8, 9, 10], fun _ _ => True⟩]
noncomputable def ziR (gg oo n c j g10 M : Nat) (bx : Bool) (Ax : Option Addr) (nx cx : Nat) (u z : Int) (v1 v2 v3 v4 v5 v6 v7 v8 v14 v15 v16 v17 v18 v73 v74 v75 v76 v77 v78 : Value) : List (Nat × Value) := [(0, .slice (some ⟨gg, oo, none⟩) n c), (10, .pointer (some ⟨g10, 0, none⟩)), (9, .int .i64 (j : Nat)), (1, v1), (2, v2), (3, v3), (4, v4), (5, v5), (6, v6), (7, v7), (8, v8), (14, v14), (15, v15), (16, v16), (17, v17), (18, v18), (73, v73), (74, v74), (75, v75), (76, v76), (77, v77), (78, v78)]
def zeB : List zca := [⟨10, 11, 79, #[.bool false, .slice none 0 0], 11, 42, 9⟩]
theorem zmE (gg oo n c j g10 M : Nat) (bx : Bool) (Ax : Option Addr) (nx cx : Nat) (u z : Int) : AllKeep (zdj gg oo n c j g10 M bx Ax nx cx u z) := ⟨fun _ _ _ h hk => h, ⟨fun _ _ _ h hk => h, ⟨fun _ _ _ h hk => h.keepW hk, ⟨fun _ _ _ h hk => h, ⟨fun _ _ _ h hk => h, ⟨fun _ _ _ h hk => h, ⟨fun _ _ _ h hk => h, ⟨fun _ _ _ h hk => h, ⟨fun _ _ _ h hk => h.keepW hk, ⟨fun _ _ _ h hk => h.keepW hk, ⟨fun _ _ _ h hk => h, ⟨fun _ _ _ h hk => h, trivial⟩⟩⟩⟩⟩⟩⟩⟩⟩⟩⟩⟩
theorem zmF (gg oo n c j g10 M : Nat) (bx : Bool) (Ax : Option Addr) (nx cx : Nat) (u z : Int) : AllMemK Tryz.prog (zdj gg oo n c j g10 M bx Ax nx cx u z) zeB := by
 refine ⟨⟨fun ev w o ho => ?_, by rfl, fun r v w hr => ?_, by rfl, fun r hr => ?_, by rfl, fun r v w hr h => ?_, by kernel_rfl, by simp [zbJ]⟩, ?_⟩
 ·obtain ⟨d, op, ty, p, af, g⟩ := o
  simp only at ho
  subst ho
  unfold execOp
  go_simp
 ·obtain rfl := Option.some.inj (show some _ = some r from hr); trivial
 ·obtain rfl := Option.some.inj (show some _ = some r from hr); exact ⟨by simp, by simp⟩
 ·obtain rfl := Option.some.inj (show some _ = some r from hr); exact (by obtain ⟨b, A, n, c, rfl, _, _⟩ := h; exact ⟨_, rfl, rfl, by simp [Value.oneCell']⟩)
 trivial
theorem zlu (V : World) (gg oo n c j g10 M : Nat) (bx : Bool) (Ax : Option Addr) (nx cx : Nat) (u z : Int) (v1 v2 v3 v4 v5 v6 v7 v8 v14 v15 v16 v17 v18 v73 v74 v75 v76 v77 v78 : Value) (C1 : ∀ w', Lat V w' → w'.cell? ⟨gg, oo + j * 2 + 1, none⟩ = some (.int .i64 u)) (hkn : (j : Int) < (n : Int)) (hk0 : (0 : Int) ≤ (j : Int)) (RX : ∀ w', Lat V w' → w'.rangeAt g10 0 [.bool bx, .slice Ax nx cx]) (J2 : (Tryz.prog.info? 79).map (·.size) = some 2)
  (HF : ∀ w, Calls Tryz.prog 30 #[.int .i64 u] w (RefPost w u 2))
  (HXX : ∀ w, Lat V w → Calls Tryz.prog 29 #[.agg #[.bool bx, .slice Ax nx cx], .agg #[.bool bx, .slice Ax nx cx]] w (RefPost w (z * z) (M + M)))
  (HT : ∀ b A m q b' A' m' q' w, Lat V w → Rg w b A m q (z * z) → Rg w b' A' m' q' u → m ≤ M + M → m' ≤ 2 → Calls Tryz.prog 29 #[.agg #[.bool b, .slice A m q], .agg #[.bool b', .slice A' m' q']] w (RefPost w (z * z * u) (M + M + 2))) :
  StepsAtK Tryz.prog (zdj gg oo n c j g10 M bx Ax nx cx u z) (ziR gg oo n c j g10 M bx Ax nx cx u z v1 v2 v3 v4 v5 v6 v7 v8 v14 v15 v16 v17 v18 v73 v74 v75 v76 v77 v78) V (zeB.flatMap fun M => [M.ia, M.is]) 0 (zdj gg oo n c j g10 M bx Ax nx cx u z) := by
 refine StepsAtK.next (fun _ _ _ h _ => h) (fun j b h => by cases h) (fun a w hl hb hd o ho => by have e1 := hb 10 _ rfl; exact Runs.val (zah (S := Lat V) e1 RX Tryz.underlying79 rfl J2 o w ho hl) ⟨Lat.refl _, fun _ => rfl⟩) ?_
 refine StepsAtK.next (fun _ _ _ h _ => h) (fun j b h => by cases h) (fun a w hl hb hd o ho => by have e1 := hb 10 _ rfl; exact Runs.val (zah (S := Lat V) e1 RX Tryz.underlying79 rfl J2 o w ho hl) ⟨Lat.refl _, fun _ => rfl⟩) ?_
 refine StepsAtK.next (fun _ _ _ h hl => h.mono hl) (fun j b h => by cases h) (fun a w hl hb hd o ho => by obtain ⟨_, e1, rfl⟩ := hd 0 _ _ (by simp) rfl rfl; obtain ⟨_, e2, rfl⟩ := hd 1 _ _ (by simp) rfl rfl; exact Runs.call (zan (f := 29) (fun _ => by go_simp) o ho (by simp only [List.map_toArray, List.map_cons, List.map_nil, eval_const, e1, e2])) ((HXX w hl).mono fun e w' h => h.runH)) ?_
 refine StepsAtK.next (fun _ _ _ h _ => h) (fun j b h => by cases h) (fun a w hl hb hd o ho => by have e1 := hb 0 _ rfl; exact rp1 o ho e1 fun ev ec e1 d ty p af g => by unfold execOp; simp only [e1, ec]; go_simp) ?_
 refine StepsAtK.next (fun _ _ _ h _ => h) (fun j b h => by cases h) (fun a w hl hb hd o ho => by have e1 := hb 9 _ rfl; exact rp1 o ho e1 fun ev ec e1 d ty p af g => by unfold execOp; simp only [e1, ec]; go_simp) ?_
 refine StepsAtK.next (fun _ _ _ h _ => h) (fun j b h => by cases h) (fun a w hl hb hd o ho => by obtain ⟨_, e1, rfl⟩ := hd 3 _ _ (by simp) rfl rfl; obtain ⟨_, e2, rfl⟩ := hd 4 _ _ (by simp) rfl rfl; exact rp2 o ho e1 e2 fun ev ec e1 e2 d ty p af g => by unfold execOp; simp only [e1, e2, ec]; go_simp) ?_
 refine StepsAtK.next (fun _ _ _ h _ => h) (fun j b h => by cases h) (fun a w hl hb hd o ho => by obtain ⟨_, e1, rfl⟩ := hd 5 _ _ (by simp) rfl rfl; exact rp1 o ho e1 fun ev ec e1 d ty p af g => by unfold execOp; simp only [e1, ec]; go_simp) ?_
 refine StepsAtK.next (fun _ _ _ h _ => h) (fun j b h => by cases h) (fun a w hl hb hd o ho => by obtain ⟨_, e1, rfl⟩ := hd 6 _ _ (by simp) rfl rfl; exact rp1 o ho e1 fun ev ec e1 d ty p af g => by unfold execOp; simp only [e1, ec]; have hc := C1 w hl; go_simp) ?_
 refine StepsAtK.next (fun _ _ _ h hl => h.mono hl) (fun j b h => by cases h) (fun a w hl hb hd o ho => by obtain ⟨_, e1, rfl⟩ := hd 7 _ _ (by simp) rfl rfl; exact Runs.call (zan (f := 30) (fun _ => by go_simp) o ho (by simp only [List.map_toArray, List.map_cons, List.map_nil, eval_const, e1])) ((HF w).mono fun e w' h => h.runH)) ?_
 refine StepsAtK.next (fun _ _ _ h hl => h.mono hl) (fun j b h => by cases h) (fun a w hl hb hd o ho => by obtain ⟨v1, e1, q1⟩ := hd 2 _ _ (by simp) rfl rfl; obtain ⟨b1, A1, n1, c1, rfl, r1, m1⟩ := (show HV (z * z) (M + M) v1 w from q1); obtain ⟨v2, e2, q2⟩ := hd 8 _ _ (by simp) rfl rfl; obtain ⟨b2, A2, n2, c2, rfl, r2, m2⟩ := (show HV u 2 v2 w from q2); exact Runs.call (zan (f := 29) (fun _ => by go_simp) o ho (by simp only [List.map_toArray, List.map_cons, List.map_nil, eval_const, e1, e2])) ((HT _ _ _ _ _ _ _ _ w hl r1 r2 m1 m2).mono fun e w' h => h.runH)) ?_
 refine StepsAtK.skip (by simp [zeB]) ?_
 refine StepsAtK.skip (by simp [zeB]) ?_
 exact StepsAtK.none
noncomputable def zeC (g11 g12 M : Nat) (bs : Bool) (As : Option Addr) (ns cs : Nat) (bd : Bool) (Ad : Option Addr) (nd cd : Nat) (q r : Int) (ob : Bool) : List SRow := [
 ⟨.load 79 (.tmp 12), some 46, none, [], fun v _ => v = .agg #[.bool bd, .slice Ad nd cd]⟩,
 ⟨.load 79 (.tmp 12), some 47, none, [], fun v _ => v = .agg #[.bool bd, .slice Ad nd cd]⟩,
 ⟨.call { callee := .value (.func 29), args := #[.tmp 46, .tmp 47], argTypes := #[79, 79] }, some 48, none, [0, 1], HV (q * q) M⟩,
 ⟨.load 79 (.tmp 11), some 49, none, [], fun v _ => v = .agg #[.bool bs, .slice As ns cs]⟩,
 ⟨.call { callee := .value (.func 75), args := #[.tmp 48, .tmp 49], argTypes := #[79, 79] }, some 50, none, [2, 3, 2], fun v _ => v = .int .i64 r⟩,
 ⟨.binOp .lss 3 (.tmp 50) (.const (.int .i64 0)) 3, some 51, none, [4], fun v _ => v = .bool ob⟩]
noncomputable def zg8 (g11 g12 M : Nat) (bs : Bool) (As : Option Addr) (ns cs : Nat) (bd : Bool) (Ad : Option Addr) (nd cd : Nat) (q r : Int) (ob : Bool) (v0 v1 v2 v3 v4 v5 v6 v7 v8 v9 v14 v15 v16 v17 v18 v73 v74 v75 v76 v77 v78 v13 : Value) : List (Nat × Value) := [(11, .pointer (some ⟨g11, 0, none⟩)), (12, .pointer (some ⟨g12, 0, none⟩)), (0, v0), (1, v1), (2, v2), (3, v3), (4, v4), (5, v5), (6, v6), (7, v7), (8, v8), (9, v9), (14, v14), (15, v15), (16, v16), (17, v17), (18, v18), (73, v73), (74, v74), (75, v75), (76, v76), (77, v77), (78, v78), (13, v13)]
theorem zjy (V : World) (g11 g12 M : Nat) (bs : Bool) (As : Option Addr) (ns cs : Nat) (bd : Bool) (Ad : Option Addr) (nd cd : Nat) (q r : Int) (ob : Bool) (v0 v1 v2 v3 v4 v5 v6 v7 v8 v9 v14 v15 v16 v17 v18 v73 v74 v75 v76 v77 v78 v13 : Value) (RS : ∀ w', Lat V w' → w'.rangeAt g11 0 [.bool bs, .slice As ns cs]) (RD : ∀ w', Lat V w' → w'.rangeAt g12 0 [.bool bd, .slice Ad nd cd]) (J2 : (Tryz.prog.info? 79).map (·.size) = some 2)
  (HDD : ∀ w, Lat V w → Calls Tryz.prog 29 #[.agg #[.bool bd, .slice Ad nd cd], .agg #[.bool bd, .slice Ad nd cd]] w (RefPost w (q * q) M))
  (HCM : ∀ b' A' n' c' w, Lat V w → Rg w b' A' n' c' (q * q) → n' ≤ M → Calls Tryz.prog 75 #[.agg #[.bool b', .slice A' n' c'], .agg #[.bool bs, .slice As ns cs]] w (fun e w' => e = .returned (.int .i64 r) ∧ Lat w w'))
  (hob : decide (r < 0) = ob) :
  AllStepsN Tryz.prog (zeC g11 g12 M bs As ns cs bd Ad nd cd q r ob) (zg8 g11 g12 M bs As ns cs bd Ad nd cd q r ob v0 v1 v2 v3 v4 v5 v6 v7 v8 v9 v14 v15 v16 v17 v18 v73 v74 v75 v76 v77 v78 v13) V (zeC g11 g12 M bs As ns cs bd Ad nd cd q r ob) := by
 refine nG ?_ fun a w hl hb hd o ho => by have e1 := hb 12 _ rfl; exact Runs.val (zah (S := Lat V) e1 RD Tryz.underlying79 rfl J2 o w ho hl) ⟨Lat.refl _, fun _ => rfl⟩
 refine nG ?_ fun a w hl hb hd o ho => by have e1 := hb 12 _ rfl; exact Runs.val (zah (S := Lat V) e1 RD Tryz.underlying79 rfl J2 o w ho hl) ⟨Lat.refl _, fun _ => rfl⟩
 refine nG ?_ fun a w hl hb hd o ho => by obtain ⟨_, e1, rfl⟩ := hd 0 _ _ (by simp) rfl rfl; obtain ⟨_, e2, rfl⟩ := hd 1 _ _ (by simp) rfl rfl; exact Runs.call (zan (f := 29) (fun _ => by go_simp) o ho (by simp only [List.map_toArray, List.map_cons, List.map_nil, eval_const, e1, e2])) ((HDD w hl).mono fun e w' h => h.runH)
 refine nG ?_ fun a w hl hb hd o ho => by have e1 := hb 11 _ rfl; exact Runs.val (zah (S := Lat V) e1 RS Tryz.underlying79 rfl J2 o w ho hl) ⟨Lat.refl _, fun _ => rfl⟩
 refine nG ?_ fun a w hl hb hd o ho => by obtain ⟨v1, e1, q1⟩ := hd 2 _ _ (by simp) rfl rfl; obtain ⟨b1, A1, n1, c1, rfl, r1, m1⟩ := (show HV (q * q) M v1 w from q1); obtain ⟨_, e2, rfl⟩ := hd 3 _ _ (by simp) rfl rfl; exact rcC o ho (HCM _ _ _ _ w hl r1 m1)
 refine nG ?_ fun a w hl hb hd o ho => by obtain ⟨_, e1, rfl⟩ := hd 4 _ _ (by simp) rfl rfl; obtain ⟨d, op, ty, p, af, gg⟩ := o; simp only at ho; subst ho; have ec : ∀ v, a.eval (.const v) = v := fun _ => rfl; exact Runs.val (by unfold execOp; generalize a.eval = ev at e1 ec ⊢; simp only [e1, ec]; go_simp; try simp [hob]) ⟨Lat.refl _, fun _ => rfl⟩
 exact AllStepsN.none
noncomputable def zeD (M : Nat) (bd : Bool) (Ad : Option Addr) (nd cd : Nat) (q : Int) : List SRow := [
 ⟨.load 79 (.tmp 12), some 52, none, [], fun v _ => v = .agg #[.bool bd, .slice Ad nd cd]⟩,
 ⟨.call { callee := .value (.func 30), args := #[.const (.int .i64 1)], argTypes := #[3] }, some 53, none, [], HV 1 2⟩,
 ⟨.call { callee := .value (.func 72), args := #[.tmp 52, .tmp 53], argTypes := #[79, 79] }, some 54, none, [0, 1, 1], HV (q + 1) M⟩]
noncomputable def zg9 (g12 g13 : Nat) (v0 v1 v2 v3 v4 v5 v6 v7 v8 v9 v14 v15 v16 v17 v18 v73 v74 v75 v76 v77 v78 : Value) : List (Nat × Value) := [(12, .pointer (some ⟨g12, 0, none⟩)), (13, .pointer (some ⟨g13, 0, none⟩)), (0, v0), (1, v1), (2, v2), (3, v3), (4, v4), (5, v5), (6, v6), (7, v7), (8, v8), (9, v9), (14, v14), (15, v15), (16, v16), (17, v17), (18, v18), (73, v73), (74, v74), (75, v75), (76, v76), (77, v77), (78, v78)]
theorem zjz (V : World) (M : Nat) (bd : Bool) (Ad : Option Addr) (nd cd : Nat) (q : Int) (g12 g13 : Nat) (v0 v1 v2 v3 v4 v5 v6 v7 v8 v9 v14 v15 v16 v17 v18 v73 v74 v75 v76 v77 v78 : Value) (RD : ∀ w', Lat V w' → w'.rangeAt g12 0 [.bool bd, .slice Ad nd cd]) (J2 : (Tryz.prog.info? 79).map (·.size) = some 2)
  (HF1 : ∀ w, Calls Tryz.prog 30 #[.int .i64 1] w (RefPost w 1 2))
  (HPL : ∀ b' A' n' c' w, Lat V w → Rg w b' A' n' c' 1 → n' ≤ 2 → Calls Tryz.prog 72 #[.agg #[.bool bd, .slice Ad nd cd], .agg #[.bool b', .slice A' n' c']] w (RefPost w (q + 1) M)) :
  AllSteps Tryz.prog (zeD M bd Ad nd cd q) (zg9 g12 g13 v0 v1 v2 v3 v4 v5 v6 v7 v8 v9 v14 v15 v16 v17 v18 v73 v74 v75 v76 v77 v78) V (zeD M bd Ad nd cd q) := by
 refine nS ?_ fun a w hl hb hd o ho => by have e1 := hb 12 _ rfl; exact Runs.val (zah (S := Lat V) e1 RD Tryz.underlying79 rfl J2 o w ho hl) ⟨Lat.refl _, fun _ => rfl⟩
 refine nS ?_ fun a w hl hb hd o ho => by exact Runs.call (zan (f := 30) (fun _ => by go_simp) o ho (by simp only [List.map_toArray, List.map_cons, List.map_nil, eval_const])) ((HF1 w).mono fun e w' h => h.runH)
 refine nS ?_ fun a w hl hb hd o ho => by obtain ⟨_, e1, rfl⟩ := hd 0 _ _ (by simp) rfl rfl; obtain ⟨v2, e2, q2⟩ := hd 1 _ _ (by simp) rfl rfl; obtain ⟨b2, A2, n2, c2, rfl, r2, m2⟩ := (show HV 1 2 v2 w from q2); exact Runs.call (zan (f := 72) (fun _ => by go_simp) o ho (by simp only [List.map_toArray, List.map_cons, List.map_nil, eval_const, e1, e2])) ((HPL _ _ _ _ w hl r2 m2).mono fun e w' h => h.runH)
 exact AllSteps.none
noncomputable def zeE (g7 g8 g12 g13 : Nat) (bl : Bool) (Al : Option Addr) (nl cl : Nat) (bh : Bool) (Ah : Option Addr) (nh ch : Nat) (bd : Bool) (Ad : Option Addr) (nd cd : Nat) (bu : Bool) (Au : Option Addr) (nu cu : Nat) (zl zh x y : Int) (N : Nat) : List SRow := [
 ⟨.load 79 (.tmp 7), some 61, none, [], fun v _ => v = .agg #[.bool bl, .slice Al nl cl]⟩,
 ⟨.load 79 (.tmp 12), some 62, none, [], fun v _ => v = .agg #[.bool bd, .slice Ad nd cd]⟩,
 ⟨.call { callee := .value (.func 72), args := #[.tmp 61, .tmp 62], argTypes := #[79, 79] }, some 63, none, [0, 1], HV (zl + x) N⟩,
 ⟨.load 79 (.tmp 8), some 64, none, [], fun v _ => v = .agg #[.bool bh, .slice Ah nh ch]⟩,
 ⟨.load 79 (.tmp 13), some 65, none, [], fun v _ => v = .agg #[.bool bu, .slice Au nu cu]⟩,
 ⟨.call { callee := .value (.func 72), args := #[.tmp 64, .tmp 65], argTypes := #[79, 79] }, some 66, none, [3, 4, 2], HV (zh + y) N⟩]
noncomputable def zha (g7 g8 g12 g13 : Nat) (bl : Bool) (Al : Option Addr) (nl cl : Nat) (bh : Bool) (Ah : Option Addr) (nh ch : Nat) (bd : Bool) (Ad : Option Addr) (nd cd : Nat) (bu : Bool) (Au : Option Addr) (nu cu : Nat) (zl zh x y : Int) (N : Nat) (v0 v1 v2 v3 v4 v5 v6 v9 v14 v15 v16 v17 v18 v73 v74 v75 v76 v77 v78 : Value) : List (Nat × Value) := [(7, .pointer (some ⟨g7, 0, none⟩)), (8, .pointer (some ⟨g8, 0, none⟩)), (12, .pointer (some ⟨g12, 0, none⟩)), (13, .pointer (some ⟨g13, 0, none⟩)), (0, v0), (1, v1), (2, v2), (3, v3), (4, v4), (5, v5), (6, v6), (9, v9), (14, v14), (15, v15), (16, v16), (17, v17), (18, v18), (73, v73), (74, v74), (75, v75), (76, v76), (77, v77), (78, v78)]
theorem zjA (V : World) (g7 g8 g12 g13 : Nat) (bl : Bool) (Al : Option Addr) (nl cl : Nat) (bh : Bool) (Ah : Option Addr) (nh ch : Nat) (bd : Bool) (Ad : Option Addr) (nd cd : Nat) (bu : Bool) (Au : Option Addr) (nu cu : Nat) (zl zh x y : Int) (N : Nat) (v0 v1 v2 v3 v4 v5 v6 v9 v14 v15 v16 v17 v18 v73 v74 v75 v76 v77 v78 : Value) (RL : ∀ w', Lat V w' → w'.rangeAt g7 0 [.bool bl, .slice Al nl cl]) (RH : ∀ w', Lat V w' → w'.rangeAt g8 0 [.bool bh, .slice Ah nh ch]) (RD : ∀ w', Lat V w' → w'.rangeAt g12 0 [.bool bd, .slice Ad nd cd]) (RU : ∀ w', Lat V w' → w'.rangeAt g13 0 [.bool bu, .slice Au nu cu]) (J2 : (Tryz.prog.info? 79).map (·.size) = some 2)
  (HPL : ∀ w, Lat V w → Calls Tryz.prog 72 #[.agg #[.bool bl, .slice Al nl cl], .agg #[.bool bd, .slice Ad nd cd]] w (RefPost w (zl + x) N)) (HPH : ∀ w, Lat V w → Calls Tryz.prog 72 #[.agg #[.bool bh, .slice Ah nh ch], .agg #[.bool bu, .slice Au nu cu]] w (RefPost w (zh + y) N)) :
  AllSteps Tryz.prog (zeE g7 g8 g12 g13 bl Al nl cl bh Ah nh ch bd Ad nd cd bu Au nu cu zl zh x y N) (zha g7 g8 g12 g13 bl Al nl cl bh Ah nh ch bd Ad nd cd bu Au nu cu zl zh x y N v0 v1 v2 v3 v4 v5 v6 v9 v14 v15 v16 v17 v18 v73 v74 v75 v76 v77 v78) V (zeE g7 g8 g12 g13 bl Al nl cl bh Ah nh ch bd Ad nd cd bu Au nu cu zl zh x y N) := by
 refine nS ?_ fun a w hl hb hd o ho => by have e1 := hb 7 _ rfl; exact Runs.val (zah (S := Lat V) e1 RL Tryz.underlying79 rfl J2 o w ho hl) ⟨Lat.refl _, fun _ => rfl⟩
 refine nS ?_ fun a w hl hb hd o ho => by have e1 := hb 12 _ rfl; exact Runs.val (zah (S := Lat V) e1 RD Tryz.underlying79 rfl J2 o w ho hl) ⟨Lat.refl _, fun _ => rfl⟩
 refine nS ?_ fun a w hl hb hd o ho => by obtain ⟨_, e1, rfl⟩ := hd 0 _ _ (by simp) rfl rfl; obtain ⟨_, e2, rfl⟩ := hd 1 _ _ (by simp) rfl rfl; exact Runs.call (zan (f := 72) (fun _ => by go_simp) o ho (by simp only [List.map_toArray, List.map_cons, List.map_nil, eval_const, e1, e2])) ((HPL w hl).mono fun e w' h => h.runH)
 refine nS ?_ fun a w hl hb hd o ho => by have e1 := hb 8 _ rfl; exact Runs.val (zah (S := Lat V) e1 RH Tryz.underlying79 rfl J2 o w ho hl) ⟨Lat.refl _, fun _ => rfl⟩
 refine nS ?_ fun a w hl hb hd o ho => by have e1 := hb 13 _ rfl; exact Runs.val (zah (S := Lat V) e1 RU Tryz.underlying79 rfl J2 o w ho hl) ⟨Lat.refl _, fun _ => rfl⟩
 refine nS ?_ fun a w hl hb hd o ho => by obtain ⟨_, e1, rfl⟩ := hd 3 _ _ (by simp) rfl rfl; obtain ⟨_, e2, rfl⟩ := hd 4 _ _ (by simp) rfl rfl; exact Runs.call (zan (f := 72) (fun _ => by go_simp) o ho (by simp only [List.map_toArray, List.map_cons, List.map_nil, eval_const, e1, e2])) ((HPH w hl).mono fun e w' h => h.runH)
 exact AllSteps.none
noncomputable def zeF (g7 g8 g12 g13 : Nat) (bl : Bool) (Al : Option Addr) (nl cl : Nat) (bh : Bool) (Ah : Option Addr) (nh ch : Nat) (bd : Bool) (Ad : Option Addr) (nd cd : Nat) (bu : Bool) (Au : Option Addr) (nu cu : Nat) (zl zh x y : Int) (N : Nat) : List SRow := [
 ⟨.load 79 (.tmp 7), some 67, none, [], fun v _ => v = .agg #[.bool bl, .slice Al nl cl]⟩,
 ⟨.load 79 (.tmp 13), some 68, none, [], fun v _ => v = .agg #[.bool bu, .slice Au nu cu]⟩,
 ⟨.call { callee := .value (.func 84), args := #[.tmp 67, .tmp 68], argTypes := #[79, 79] }, some 69, none, [0, 1], HV (zl - y) N⟩,
 ⟨.load 79 (.tmp 8), some 70, none, [], fun v _ => v = .agg #[.bool bh, .slice Ah nh ch]⟩,
 ⟨.load 79 (.tmp 12), some 71, none, [], fun v _ => v = .agg #[.bool bd, .slice Ad nd cd]⟩,
 ⟨.call { callee := .value (.func 84), args := #[.tmp 70, .tmp 71], argTypes := #[79, 79] }, some 72, none, [3, 4, 2], HV (zh - x) N⟩]
noncomputable def zhb (g7 g8 g12 g13 : Nat) (bl : Bool) (Al : Option Addr) (nl cl : Nat) (bh : Bool) (Ah : Option Addr) (nh ch : Nat) (bd : Bool) (Ad : Option Addr) (nd cd : Nat) (bu : Bool) (Au : Option Addr) (nu cu : Nat) (zl zh x y : Int) (N : Nat) (v0 v1 v2 v3 v4 v5 v6 v9 v14 v15 v16 v17 v18 v73 v74 v75 v76 v77 v78 : Value) : List (Nat × Value) := [(7, .pointer (some ⟨g7, 0, none⟩)), (8, .pointer (some ⟨g8, 0, none⟩)), (12, .pointer (some ⟨g12, 0, none⟩)), (13, .pointer (some ⟨g13, 0, none⟩)), (0, v0), (1, v1), (2, v2), (3, v3), (4, v4), (5, v5), (6, v6), (9, v9), (14, v14), (15, v15), (16, v16), (17, v17), (18, v18), (73, v73), (74, v74), (75, v75), (76, v76), (77, v77), (78, v78)]
theorem zjB (V : World) (g7 g8 g12 g13 : Nat) (bl : Bool) (Al : Option Addr) (nl cl : Nat) (bh : Bool) (Ah : Option Addr) (nh ch : Nat) (bd : Bool) (Ad : Option Addr) (nd cd : Nat) (bu : Bool) (Au : Option Addr) (nu cu : Nat) (zl zh x y : Int) (N : Nat) (v0 v1 v2 v3 v4 v5 v6 v9 v14 v15 v16 v17 v18 v73 v74 v75 v76 v77 v78 : Value) (RL : ∀ w', Lat V w' → w'.rangeAt g7 0 [.bool bl, .slice Al nl cl]) (RH : ∀ w', Lat V w' → w'.rangeAt g8 0 [.bool bh, .slice Ah nh ch]) (RD : ∀ w', Lat V w' → w'.rangeAt g12 0 [.bool bd, .slice Ad nd cd]) (RU : ∀ w', Lat V w' → w'.rangeAt g13 0 [.bool bu, .slice Au nu cu]) (J2 : (Tryz.prog.info? 79).map (·.size) = some 2)
  (HPL : ∀ w, Lat V w → Calls Tryz.prog 84 #[.agg #[.bool bl, .slice Al nl cl], .agg #[.bool bu, .slice Au nu cu]] w (RefPost w (zl - y) N)) (HPH : ∀ w, Lat V w → Calls Tryz.prog 84 #[.agg #[.bool bh, .slice Ah nh ch], .agg #[.bool bd, .slice Ad nd cd]] w (RefPost w (zh - x) N)) :
  AllSteps Tryz.prog (zeF g7 g8 g12 g13 bl Al nl cl bh Ah nh ch bd Ad nd cd bu Au nu cu zl zh x y N) (zhb g7 g8 g12 g13 bl Al nl cl bh Ah nh ch bd Ad nd cd bu Au nu cu zl zh x y N v0 v1 v2 v3 v4 v5 v6 v9 v14 v15 v16 v17 v18 v73 v74 v75 v76 v77 v78) V (zeF g7 g8 g12 g13 bl Al nl cl bh Ah nh ch bd Ad nd cd bu Au nu cu zl zh x y N) := by
 refine nS ?_ fun a w hl hb hd o ho => by have e1 := hb 7 _ rfl; exact Runs.val (zah (S := Lat V) e1 RL Tryz.underlying79 rfl J2 o w ho hl) ⟨Lat.refl _, fun _ => rfl⟩
 refine nS ?_ fun a w hl hb hd o ho => by have e1 := hb 13 _ rfl; exact Runs.val (zah (S := Lat V) e1 RU Tryz.underlying79 rfl J2 o w ho hl) ⟨Lat.refl _, fun _ => rfl⟩
 refine nS ?_ fun a w hl hb hd o ho => by obtain ⟨_, e1, rfl⟩ := hd 0 _ _ (by simp) rfl rfl; obtain ⟨_, e2, rfl⟩ := hd 1 _ _ (by simp) rfl rfl; exact Runs.call (zan (f := 84) (fun _ => by go_simp) o ho (by simp only [List.map_toArray, List.map_cons, List.map_nil, eval_const, e1, e2])) ((HPL w hl).mono fun e w' h => h.runH)
 refine nS ?_ fun a w hl hb hd o ho => by have e1 := hb 8 _ rfl; exact Runs.val (zah (S := Lat V) e1 RH Tryz.underlying79 rfl J2 o w ho hl) ⟨Lat.refl _, fun _ => rfl⟩
 refine nS ?_ fun a w hl hb hd o ho => by have e1 := hb 12 _ rfl; exact Runs.val (zah (S := Lat V) e1 RD Tryz.underlying79 rfl J2 o w ho hl) ⟨Lat.refl _, fun _ => rfl⟩
 refine nS ?_ fun a w hl hb hd o ho => by obtain ⟨_, e1, rfl⟩ := hd 3 _ _ (by simp) rfl rfl; obtain ⟨_, e2, rfl⟩ := hd 4 _ _ (by simp) rfl rfl; exact Runs.call (zan (f := 84) (fun _ => by go_simp) o ho (by simp only [List.map_toArray, List.map_cons, List.map_nil, eval_const, e1, e2])) ((HPH w hl).mono fun e w' h => h.runH)
 exact AllSteps.none
noncomputable def zeG (g4 g5 g6 g7 g8 : Nat) (bl : Bool) (Al : Option Addr) (nl cl : Nat) (bh : Bool) (Ah : Option Addr) (nh ch : Nat) (bu : Bool) (Au : Option Addr) (nu cu : Nat) (zl zh z : Int) (N : Nat) : List SRow := [
 ⟨.load 79 (.tmp 7), some 73, none, [], fun v _ => v = .agg #[.bool bl, .slice Al nl cl]⟩,
 ⟨.load 79 (.tmp 6), some 74, none, [], fun v _ => v = .agg #[.bool bu, .slice Au nu cu]⟩,
 ⟨.call { callee := .value (.func 85), args := #[.tmp 73, .tmp 74], argTypes := #[79, 79] }, some 75, none, [0, 1], RRV (zaT zl z) (zaU zl z) N⟩,
 ⟨.load 79 (.tmp 8), some 76, none, [], fun v _ => v = .agg #[.bool bh, .slice Ah nh ch]⟩,
 ⟨.load 79 (.tmp 6), some 77, none, [], fun v _ => v = .agg #[.bool bu, .slice Au nu cu]⟩,
 ⟨.call { callee := .value (.func 85), args := #[.tmp 76, .tmp 77], argTypes := #[79, 79] }, some 78, none, [3, 4, 2], RRV (zaT zh z) (zaU zh z) N⟩]
noncomputable def zhc (g4 g5 g6 g7 g8 : Nat) (bl : Bool) (Al : Option Addr) (nl cl : Nat) (bh : Bool) (Ah : Option Addr) (nh ch : Nat) (bu : Bool) (Au : Option Addr) (nu cu : Nat) (zl zh z : Int) (N : Nat) : List (Nat × Value) := [(4, .pointer (some ⟨g4, 0, none⟩)), (5, .pointer (some ⟨g5, 0, none⟩)), (6, .pointer (some ⟨g6, 0, none⟩)), (7, .pointer (some ⟨g7, 0, none⟩)), (8, .pointer (some ⟨g8, 0, none⟩))]
theorem zjC (V : World) (g4 g5 g6 g7 g8 : Nat) (bl : Bool) (Al : Option Addr) (nl cl : Nat) (bh : Bool) (Ah : Option Addr) (nh ch : Nat) (bu : Bool) (Au : Option Addr) (nu cu : Nat) (zl zh z : Int) (N : Nat) (RL : ∀ w', Lat V w' → w'.rangeAt g7 0 [.bool bl, .slice Al nl cl]) (RH : ∀ w', Lat V w' → w'.rangeAt g8 0 [.bool bh, .slice Ah nh ch]) (RU : ∀ w', Lat V w' → w'.rangeAt g6 0 [.bool bu, .slice Au nu cu]) (J2 : (Tryz.prog.info? 79).map (·.size) = some 2)
  (HLL : ∀ w, Lat V w → Calls Tryz.prog 85 #[.agg #[.bool bl, .slice Al nl cl], .agg #[.bool bu, .slice Au nu cu]] w (RratPost w (zaT zl z) (zaU zl z) N)) (HLH : ∀ w, Lat V w → Calls Tryz.prog 85 #[.agg #[.bool bh, .slice Ah nh ch], .agg #[.bool bu, .slice Au nu cu]] w (RratPost w (zaT zh z) (zaU zh z) N)) :
  AllSteps Tryz.prog (zeG g4 g5 g6 g7 g8 bl Al nl cl bh Ah nh ch bu Au nu cu zl zh z N) (zhc g4 g5 g6 g7 g8 bl Al nl cl bh Ah nh ch bu Au nu cu zl zh z N) V (zeG g4 g5 g6 g7 g8 bl Al nl cl bh Ah nh ch bu Au nu cu zl zh z N) := by
 refine nS ?_ fun a w hl hb hd o ho => by have e1 := hb 7 _ rfl; exact Runs.val (zah (S := Lat V) e1 RL Tryz.underlying79 rfl J2 o w ho hl) ⟨Lat.refl _, fun _ => rfl⟩
 refine nS ?_ fun a w hl hb hd o ho => by have e1 := hb 6 _ rfl; exact Runs.val (zah (S := Lat V) e1 RU Tryz.underlying79 rfl J2 o w ho hl) ⟨Lat.refl _, fun _ => rfl⟩
 refine nS ?_ fun a w hl hb hd o ho => by obtain ⟨_, e1, rfl⟩ := hd 0 _ _ (by simp) rfl rfl; obtain ⟨_, e2, rfl⟩ := hd 1 _ _ (by simp) rfl rfl; exact Runs.call (zan (f := 85) (fun _ => by go_simp) o ho (by simp only [List.map_toArray, List.map_cons, List.map_nil, eval_const, e1, e2])) ((HLL w hl).mono fun e w' h => h.runQ)
 refine nS ?_ fun a w hl hb hd o ho => by have e1 := hb 8 _ rfl; exact Runs.val (zah (S := Lat V) e1 RH Tryz.underlying79 rfl J2 o w ho hl) ⟨Lat.refl _, fun _ => rfl⟩
 refine nS ?_ fun a w hl hb hd o ho => by have e1 := hb 6 _ rfl; exact Runs.val (zah (S := Lat V) e1 RU Tryz.underlying79 rfl J2 o w ho hl) ⟨Lat.refl _, fun _ => rfl⟩
 refine nS ?_ fun a w hl hb hd o ho => by obtain ⟨_, e1, rfl⟩ := hd 3 _ _ (by simp) rfl rfl; obtain ⟨_, e2, rfl⟩ := hd 4 _ _ (by simp) rfl rfl; exact Runs.call (zan (f := 85) (fun _ => by go_simp) o ho (by simp only [List.map_toArray, List.map_cons, List.map_nil, eval_const, e1, e2])) ((HLH w hl).mono fun e w' h => h.runQ)
 exact AllSteps.none
theorem zlv (A : Option Addr) (n c : Nat) (l : List (Int × Int)) (k : Nat) (w : World) (hs : RowM w A 2 n (zab l)) (hv : ∀ x ∈ l, (-9223372036854775808 ≤ x.1 ∧ x.1 < 9223372036854775808) ∧ 0 ≤ x.2 ∧ x.2 < 9223372036854775808) (hv0 : ∀ x ∈ l, x.1 ≠ 0) (hn : n ≤ 1000) (hk : k ≤ 1000) :
  Calls Tryz.prog 39 #[.slice A n c, .int .i64 (k : Nat)] w (EndsP w (sLo l k) (sHi l k) (2 ^ k) 6000) := by
 have hlen : l.length = n := by have := hs.1; rwa [zam] at this
 have HS := Lib.hid hs
 have HVL := Lib.hid hv
 have HV0 := Lib.hid hv0
 have HN := Lib.hid hn
 have HK := Lib.hid hk
 have HLEN := Lib.hid hlen
 clear hs hv hv0 hn hk hlen
 go_enter Tryz.func39, Tryz.ntmps39
 go_upto_region 1 with (fail)
 refine zaK (Q := fun W => Code.wp _ _ _ _ W) ?_
 intro W hl hsz k4 k5
 obtain ⟨g5, hg5⟩ : ∃ z, w.heap.size + 1 = z := ⟨_, rfl⟩
 obtain ⟨g4, hg4⟩ : ∃ z, w.heap.size = z := ⟨_, rfl⟩
 have HG : Hid (g4 < g5 ∧ w.heap.size = g4) := by show g4 < g5 ∧ w.heap.size = g4; omega
 rw [hg5] at k5 ⊢
 rw [hg4] at k4 ⊢
 clear hg5 hg4 hsz
 go_wp2_with fail
 refine (zay 2 W (by decide) (by decide)).mono ?_
 rintro e w1 ⟨b5, A5, n5, c5, rfl, r6, m6, l1⟩
 replace k4 := k4.later l1
 replace k5 := k5.later l1
 have L1 := hl.trans l1
 clear hl l1
 go_wp2_with fail
 refine (zhD b5 A5 n5 c5 2 k w1 r6 m6 HK.out).mono ?_
 rintro e w2 ⟨b6, A6, n6, c6, rfl, r6, m6, l1⟩
 replace k4 := k4.later l1
 replace k5 := k5.later l1
 replace L1 := L1.trans l1
 clear l1
 go_upto_region 2 with (fail)
 refine zas (Q := fun W => Code.wp _ _ _ _ W) ?_
 intro w3 l1 hs6 k6
 obtain ⟨g6, hg6⟩ : ∃ z, w2.heap.size = z := ⟨_, rfl⟩
 have hg56 : g5 < g6 := by have := k5.lt; omega
 rw [hg6] at k6 ⊢
 replace k4 := k4.later l1
 replace k5 := k5.later l1
 replace r6 := r6.later l1
 replace L1 := L1.trans l1
 clear l1 hs6 hg6
 go_upto_region 3 with (fail)
 refine zaK (Q := fun W => Code.wp _ _ _ _ W) ?_
 intro w4 l1 hs7 k7 k8
 obtain ⟨g8, hg8⟩ : ∃ z, w3.heap.size + 1 = z := ⟨_, rfl⟩
 obtain ⟨g7, hg7⟩ : ∃ z, w3.heap.size = z := ⟨_, rfl⟩
 have HG : Hid (g4 < g5 ∧ w.heap.size = g4 ∧ g5 < g6 ∧ g6 < g7 ∧ g7 < g8) := ⟨HG.out.1, HG.out.2, hg56, by have := k6.lt; omega, by omega⟩
 clear hg56
 rw [hg8] at k8 ⊢
 rw [hg7] at k7 ⊢
 replace k4 := k4.later l1
 replace k5 := k5.later l1
 replace k6 := k6.later l1
 replace r6 := r6.later l1
 replace L1 := L1.trans l1
 clear l1 hs7 hg8 hg7
 have M6 := Lib.hid m6
 clear m6
 go_wp2_with fail
 go_loopw [9] (fun iv wr => ∃ (j : Nat) (bL : Bool) (AL : Option Addr) (nL cL : Nat) (bH : Bool) (AH : Option Addr) (nH cH : Nat), iv = .int .i64 (j : Nat) ∧ Hid (j ≤ n) ∧ Rg wr bL AL nL cL (sLo (l.take j) k) ∧ Hid (nL ≤ 4030 + j) ∧ Rg wr bH AH nH cH (sHi (l.take j) k) ∧ Hid (nH ≤ 4030 + j) ∧
  Blk wr g4 99 #[.bool false, .slice none 0 0, .bool false, .slice none 0 0] ∧ Blk wr g5 99 #[.bool false, .slice none 0 0, .bool false, .slice none 0 0] ∧ Blk wr g6 79 #[.bool b6, .slice A6 n6 c6] ∧
  Blk wr g7 79 #[.bool bL, .slice AL nL cL] ∧ Blk wr g8 79 #[.bool bH, .slice AH nH cH] ∧ Rg wr b6 A6 n6 c6 (2 ^ k) ∧ Lat w wr) (fun iv _ => n - (RowKit.intOf iv).toNat)
 case atStart => exact ⟨0, false, none, 0, 0, false, none, 0, 0, rfl, Nat.zero_le _, Rg.none0 _, Nat.zero_le _, Rg.none0 _, Nat.zero_le _, k4, k5, k6, k7, k8, r6, L1⟩
 case round =>
  clear k4 k5 k6 k7 k8 r6 L1
  obtain ⟨j, bL, AL, nL, cL, bH, AH, nH, cH, rfl, hj, rL, ML, rH, MH, k4, k5, k6, k7, k8, r6, L1⟩ := hrel
  by_cases hjn : j < n
  ·obtain ⟨gg, oo, x, rfl, hgg, hx, c0, c1⟩ := zaL (HS.out.later L1) hjn
   have hxv := HVL.out x (List.mem_of_getElem? hx)
   have HX0 := Lib.hid (HV0.out x (List.mem_of_getElem? hx))
   have hT1 : sLo (l.take (j + 1)) k = sLo (l.take j) k + eLo x k := by
    obtain ⟨h1, h2⟩ := List.getElem?_eq_some_iff.1 hx
    rw [List.take_succ_eq_append_getElem h1, h2, ziq]
   have hT2 : sHi (l.take (j + 1)) k = sHi (l.take j) k + eHi x k := by
    obtain ⟨h1, h2⟩ := List.getElem?_eq_some_iff.1 hx
    rw [List.take_succ_eq_append_getElem h1, h2, zir]
   have HT1 := Lib.hid hT1
   have HT2 := Lib.hid hT2
   have HXV := Lib.hid hxv
   have HJN := Lib.hid hjn
   have hjI : (j : Int) < (n : Int) := by omega
   have hj0 : (0 : Int) ≤ (j : Int) := by omega
   clear hT1 hT2 hxv hx hj
   go_upto_region 6 with (fail)
   clear hjn
   obtain ⟨X0, rfl⟩ : ∃ z, z = wr := ⟨_, rfl⟩
   have J2 : (Tryz.prog.info? 79).map (·.size) = some 2 := by kernel_rfl
   have C0 : ∀ w', Lat X0 w' → w'.cell? ⟨gg, oo + j * 2, none⟩ = some (.int .i64 x.1) := fun w' hl => hl.cell hgg c0
   have C1' : ∀ w', Lat X0 w' → w'.cell? ⟨gg, oo + j * 2 + 1, none⟩ = some (.int .i64 x.2) := fun w' hl => hl.cell hgg c1
   have RU : ∀ w', Lat X0 w' → w'.rangeAt g6 0 [.bool b6, .slice A6 n6 c6] := fun w' hl => (k6.later hl).rangeAll
   have HF : ∀ w, Calls Tryz.prog 30 #[.int .i64 x.1] w (RefPost w x.1 2) := fun w => zay x.1 w HXV.out.1.1 HXV.out.1.2
   have HT := fun b A m q (w : World) (hl : Lat X0 w) (hr : Rg w b A m q x.1) (hm : m ≤ 2) => (zbk b A m q x.1 b6 A6 n6 c6 (2 ^ k) w hr (r6.later hl) (by omega) (by have := M6.out; have := HK.out; omega)).mono fun _ _ h => h.le (M := 2 + (2 + 2 * k)) (by have := M6.out; omega)
   have HC1 := Lib.hid C1'
   have HCX := Lib.hid C0
   clear c0 c1 C1'
   rename_i KN hKN
   refine zbt (zdi gg oo n c j g6 (2 + 2 * k) b6 A6 n6 c6 x.1 (2 ^ k)) (ziQ gg oo n c j g6 (2 + 2 * k) b6 A6 n6 c6 x.1 (2 ^ k) _ _ _ _ _ _ _ _ _ _ _ _ _ _ _ _ _ _) zeA 79 10 [[], [], [0, 1], [2], [3], [4], [], [5, 6, 5], [], [8, 7, 7, 0, 1, 2, 3, 4, 5, 6, 7, 8]] (by kernel_rfl) (by kernel_rfl) (by kernel_rfl) (by kernel_rfl) (by kernel_rfl) (by kernel_rfl) (by kernel_rfl) (by rfl) rfl (base_of (by repeat (first | exact base_nil _ | refine zad rfl ?_))) (zmC gg oo n c j g6 (2 + 2 * k) b6 A6 n6 c6 x.1 (2 ^ k)) (zmD gg oo n c j g6 (2 + 2 * k) b6 A6 n6 c6 x.1 (2 ^ k)) (zlt X0 gg oo n c j g6 (2 + 2 * k) b6 A6 n6 c6 x.1 (2 ^ k) _ _ _ _ _ _ _ _ _ _ _ _ _ _ _ _ _ _ C0 hjI hj0 RU J2 HF HT) ?_
   intro a9 W9 hsz9 hdf9 hL9 hbs hsl hmm
   obtain ⟨g10, c10, s10, n10, b10, p10, far10⟩ := hmm 0 _ rfl
   obtain ⟨v9, h9, q9⟩ := hsl 7 _ _ rfl rfl
   obtain ⟨x0, xA, xn, xc, rfl, rX, mX⟩ := (show HV _ _ v9 W9 from q9)
   obtain rfl := zda p10 h9
   clear h9
   have w10 := zaa s10
   refine hKN _ _ ?_
   obtain ⟨T9, df9⟩ := a9
   obtain rfl : df9 = [] := hdf9
   obtain ⟨f, hf, rfl⟩ := zcS T9 hsz9
   have X9 := fun k v h => (hf k).trans (zaa (hbs k v h))
   have x10 : f 10 = .pointer (some ⟨g10, 0, none⟩) := (hf 10).trans w10
   clear hbs hsl hmm hf hsz9 hKN s10 p10 far10 w10
   simp only [X9 0 _ rfl, X9 6 _ rfl, X9 9 _ rfl, X9 1 _ rfl, X9 2 _ rfl, X9 3 _ rfl, X9 4 _ rfl, X9 5 _ rfl, X9 7 _ rfl, X9 8 _ rfl, X9 14 _ rfl, X9 15 _ rfl, X9 16 _ rfl, X9 17 _ rfl, X9 18 _ rfl, X9 73 _ rfl, X9 74 _ rfl, X9 75 _ rfl, X9 76 _ rfl, X9 77 _ rfl, X9 78 _ rfl, x10]
   clear X9 x10
   have hg8 : g8 < X0.heap.size := k8.lt
   have HGX : Hid (X0.heap.size ≤ g10 ∧ g8 < g10) := ⟨n10, by omega⟩
   clear hg8
   have LX := hL9
   replace k4 := k4.later hL9
   replace k5 := k5.later hL9
   replace k6 := k6.later hL9
   replace k7 := k7.later hL9
   replace k8 := k8.later hL9
   replace rL := rL.later hL9
   replace rH := rH.later hL9
   replace r6 := r6.later hL9
   replace L1 := L1.trans hL9
   obtain ⟨k10, hkb⟩ := (⟨b10, trivial⟩ : ∃ _ : Blk W9 g10 79 #[.bool x0, .slice xA xn xc], True)
   have C1 : ∀ w', Lat W9 w' → w'.cell? ⟨gg, oo + j * 2 + 1, none⟩ = some (.int .i64 x.2) := fun w' hl => HC1.out w' (LX.trans hl)
   have MX := Lib.hid mX
   clear hkb b10 n10 C0 RU HF HT hL9 mX
   obtain ⟨X1, rfl⟩ : ∃ z, z = W9 := ⟨_, rfl⟩
   go_upto_region 7 with (fail)
   have RX : ∀ w', Lat X1 w' → w'.rangeAt g10 0 [.bool x0, .slice xA xn xc] := fun w' hl => (k10.later hl).rangeAll
   have HF : ∀ w, Calls Tryz.prog 30 #[.int .i64 x.2] w (RefPost w x.2 2) := fun w => zay x.2 w (by have := HXV.out.2.1; omega) HXV.out.2.2
   have HXX := fun (w : World) (hl : Lat X1 w) => (zbk x0 xA xn xc (x.1 * 2 ^ k) x0 xA xn xc (x.1 * 2 ^ k) w (rX.later hl) (rX.later hl) (by have := MX.out; have := HK.out; omega) (by have := MX.out; have := HK.out; omega)).mono fun _ _ h => h.le (M := 2 + (2 + 2 * k) + (2 + (2 + 2 * k))) (by have := MX.out; omega)
   have HT := fun b A m q b' A' m' q' (w : World) (hl : Lat X1 w) (h1 : Rg w b A m q (x.1 * 2 ^ k * (x.1 * 2 ^ k))) (h2 : Rg w b' A' m' q' x.2) (a1 : m ≤ 2 + (2 + 2 * k) + (2 + (2 + 2 * k))) (a2 : m' ≤ 2) => (zbk b A m q _ b' A' m' q' _ w h1 h2 (by have := HK.out; omega) (by omega)).mono fun _ _ h => h.le (M := 2 + (2 + 2 * k) + (2 + (2 + 2 * k)) + 2) (by omega)
   rename_i KN hKN
   refine zbt (zdj gg oo n c j g10 (2 + (2 + 2 * k)) x0 xA xn xc x.2 (x.1 * 2 ^ k)) (ziR gg oo n c j g10 (2 + (2 + 2 * k)) x0 xA xn xc x.2 (x.1 * 2 ^ k) _ _ _ _ _ _ _ _ _ _ _ _ _ _ _ _ _ _ _) zeB 79 12 [[], [], [0, 1], [], [], [3, 4], [5], [6], [7, 2], [2, 8, 8], [], [10, 9, 9, 0, 1, 2, 3, 4, 5, 6, 7, 8, 9, 10]] (by kernel_rfl) (by kernel_rfl) (by kernel_rfl) (by kernel_rfl) (by kernel_rfl) (by kernel_rfl) (by kernel_rfl) (by rfl) rfl (base_of (by repeat (first | exact base_nil _ | refine zad rfl ?_))) (zmE gg oo n c j g10 (2 + (2 + 2 * k)) x0 xA xn xc x.2 (x.1 * 2 ^ k)) (zmF gg oo n c j g10 (2 + (2 + 2 * k)) x0 xA xn xc x.2 (x.1 * 2 ^ k)) (zlu X1 gg oo n c j g10 (2 + (2 + 2 * k)) x0 xA xn xc x.2 (x.1 * 2 ^ k) _ _ _ _ _ _ _ _ _ _ _ _ _ _ _ _ _ _ _ C1 hjI hj0 RX J2 HF HXX HT) ?_
   intro a9 W9 hsz9 hdf9 hL9 hbs hsl hmm
   obtain ⟨g11, c11, s11, n11, b11, p11, far11⟩ := hmm 0 _ rfl
   obtain ⟨v9, h9, q9⟩ := hsl 9 _ _ rfl rfl
   obtain ⟨s0, sA, sn, sc, rfl, rS, mS⟩ := (show HV _ _ v9 W9 from q9)
   obtain rfl := zda p11 h9
   clear h9
   have w11 := zaa s11
   refine hKN _ _ ?_
   obtain ⟨T9, df9⟩ := a9
   obtain rfl : df9 = [] := hdf9
   obtain ⟨f, hf, rfl⟩ := zcS T9 hsz9
   have X9 := fun k v h => (hf k).trans (zaa (hbs k v h))
   have x11 : f 11 = .pointer (some ⟨g11, 0, none⟩) := (hf 11).trans w11
   clear hbs hsl hmm hf hsz9 hKN s11 p11 far11 w11
   simp only [X9 0 _ rfl, X9 10 _ rfl, X9 9 _ rfl, X9 1 _ rfl, X9 2 _ rfl, X9 3 _ rfl, X9 4 _ rfl, X9 5 _ rfl, X9 6 _ rfl, X9 7 _ rfl, X9 8 _ rfl, X9 14 _ rfl, X9 15 _ rfl, X9 16 _ rfl, X9 17 _ rfl, X9 18 _ rfl, X9 73 _ rfl, X9 74 _ rfl, X9 75 _ rfl, X9 76 _ rfl, X9 77 _ rfl, X9 78 _ rfl, x11]
   clear X9 x11
   have hg11 : g10 < g11 := by have := k10.lt; omega
   replace k4 := k4.later hL9
   replace k5 := k5.later hL9
   replace k6 := k6.later hL9
   replace k7 := k7.later hL9
   replace k8 := k8.later hL9
   replace rL := rL.later hL9
   replace rH := rH.later hL9
   replace r6 := r6.later hL9
   replace L1 := L1.trans hL9
   replace LX := LX.trans hL9
   obtain ⟨k11, hkb⟩ := (⟨b11, trivial⟩ : ∃ _ : Blk W9 g11 79 #[.bool s0, .slice sA sn sc], True)
   rw [znB x k] at rS
   have hs0 : s0 = false := rS.sign_false (zfl HXV.out.2.1 k)
   have MS : Hid (sn ≤ 4010) := by show sn ≤ 4010; have := HK.out; omega
   subst hs0
   clear hkb b11 n11 C1 RX HF HXX HT hL9 mS k10 rX J2 HC1
   obtain ⟨X2, rfl⟩ : ∃ z, z = W9 := ⟨_, rfl⟩
   have d0 := k11.cell 0
   have d1 := k11.cell 1
   go_wp2_with fail
   refine (zfp sA sn sc (eSq x k) X2 rS (by have := MS.out; omega)).mono ?_
   rintro e w7 ⟨bD, AD, nD, cD, rfl, rD, mD, l7⟩
   obtain ⟨rD, hrb⟩ := (⟨rD, trivial⟩ : ∃ _ : Rg w7 bD AD nD cD (eDn x k), True)
   have MD : Hid (nD ≤ 4011) := by show nD ≤ 4011; have := MS.out; omega
   replace k4 := k4.later l7
   replace k5 := k5.later l7
   replace k6 := k6.later l7
   replace k7 := k7.later l7
   replace k8 := k8.later l7
   replace k11 := k11.later l7
   replace rL := rL.later l7
   replace rH := rH.later l7
   replace r6 := r6.later l7
   replace rS := rS.later l7
   replace L1 := L1.trans l7
   replace LX := LX.trans l7
   clear d0 d1 l7 mD hrb
   go_upto_region 9 with (fail)
   refine zas (Q := fun W => Code.wp _ _ _ _ W) ?_
   intro w8 l8 hs12 k12
   obtain ⟨g12, hg12⟩ : ∃ z, w7.heap.size = z := ⟨_, rfl⟩
   have hg12' : g11 < g12 := by have := k11.lt; omega
   rw [hg12] at k12 ⊢
   replace k4 := k4.later l8
   replace k5 := k5.later l8
   replace k6 := k6.later l8
   replace k7 := k7.later l8
   replace k8 := k8.later l8
   replace k11 := k11.later l8
   replace rL := rL.later l8
   replace rH := rH.later l8
   replace r6 := r6.later l8
   replace rS := rS.later l8
   replace rD := rD.later l8
   replace L1 := L1.trans l8
   replace LX := LX.trans l8
   clear l8 hs12 hg12
   have d0 := k12.cell 0
   have d1 := k12.cell 1
   go_upto_region 10 with (fail)
   refine zas (Q := fun W => Code.wp _ _ _ _ W) ?_
   intro X4 l8 hs13 k13
   obtain ⟨g13, hg13⟩ : ∃ z, w8.heap.size = z := ⟨_, rfl⟩
   have HH : Hid (g8 < g10 ∧ g10 < g11 ∧ g11 < g12 ∧ g12 < g13 ∧ X0.heap.size ≤ g10) := ⟨HGX.out.2, hg11, hg12', by have := k12.lt; omega, HGX.out.1⟩
   clear hg11 hg12' HGX
   rw [hg13] at k13 ⊢
   replace k4 := k4.later l8
   replace k5 := k5.later l8
   replace k6 := k6.later l8
   replace k7 := k7.later l8
   replace k8 := k8.later l8
   replace k11 := k11.later l8
   replace k12 := k12.later l8
   replace rL := rL.later l8
   replace rH := rH.later l8
   replace r6 := r6.later l8
   replace rS := rS.later l8
   replace rD := rD.later l8
   replace L1 := L1.trans l8
   replace LX := LX.trans l8
   clear l8 hs13 hg13 d0 d1
   have J2 : (Tryz.prog.info? 79).map (·.size) = some 2 := by kernel_rfl
   have RS : ∀ w', Lat X4 w' → w'.rangeAt g11 0 [.bool false, .slice sA sn sc] := fun w' hl => (k11.later hl).rangeAll
   have RD : ∀ w', Lat X4 w' → w'.rangeAt g12 0 [.bool bD, .slice AD nD cD] := fun w' hl => (k12.later hl).rangeAll
   obtain ⟨r, hr⟩ : ∃ z, zgA (eDn x k * eDn x k - eSq x k) = z := ⟨_, rfl⟩
   obtain ⟨ob, hob⟩ : ∃ z, decide (r < 0) = z := ⟨_, rfl⟩
   have HOB : Hid (decide (eDn x k * eDn x k < eSq x k) = ob) := by
    show _ = ob
    rw [← hob, ← hr]
    exact decide_eq_decide.2 ⟨fun h => (zc2 _).2 (by omega), fun h => by have := (zc2 _).1 h; omega⟩
   have HDD := fun (w : World) (hl : Lat X4 w) => (zbk bD AD nD cD (eDn x k) bD AD nD cD (eDn x k) w (rD.later hl) (rD.later hl) (by have := MD.out; omega) (by have := MD.out; omega)).mono fun _ _ h => h.le (M := 8042) (by have := MD.out; omega)
   have HCM : ∀ b' A' n' c' w, Lat X4 w → Rg w b' A' n' c' (eDn x k * eDn x k) → n' ≤ 8042 → Calls Tryz.prog 75 #[.agg #[.bool b', .slice A' n' c'], .agg #[.bool false, .slice sA sn sc]] w (fun e w' => e = .returned (.int .i64 r) ∧ Lat w w') := fun b' A' n' c' w hl h hn => by
    rw [← hr]
    exact zbl b' A' n' c' (eDn x k * eDn x k) false sA sn sc (eSq x k) w h (rS.later hl) (by omega) (by have := MS.out; omega)
   clear hr
   rename_i KN hKN
   refine zae (zeC g11 g12 8042 false sA sn sc bD AD nD cD (eDn x k) r ob) (zg8 g11 g12 8042 false sA sn sc bD AD nD cD (eDn x k) r ob _ _ _ _ _ _ _ _ _ _ _ _ _ _ _ _ _ _ _ _ _ _) 79 6 [[], [], [0, 1], [], [2, 3, 2], [4]] (by kernel_rfl) (by kernel_rfl) (by kernel_rfl) (by kernel_rfl) (by kernel_rfl) (by kernel_rfl) (by rfl) rfl (base_of (by repeat (first | exact base_nil _ | refine zad rfl ?_))) (zjy X4 g11 g12 8042 false sA sn sc bD AD nD cD (eDn x k) r ob _ _ _ _ _ _ _ _ _ _ _ _ _ _ _ _ _ _ _ _ _ _ RS RD J2 HDD HCM hob) ?_
   ·intro a9 W9 hsz9 hdf9 hL9 hbs hsl
    obtain ⟨v9, h9, q9⟩ := hsl 5 _ _ rfl rfl
    obtain rfl : v9 = .bool ob := q9
    have w51 := zaa h9
    clear h9
    refine hKN _ _ ?_
    obtain ⟨T9, df9⟩ := a9
    obtain rfl : df9 = [] := hdf9
    obtain ⟨f, hf, rfl⟩ := zcS T9 hsz9
    have XX := fun k v h => (hf k).trans (zaa (hbs k v h))
    have x11 : f 11 = .pointer (some ⟨g11, 0, none⟩) := XX 11 _ rfl
    have x12 : f 12 = .pointer (some ⟨g12, 0, none⟩) := XX 12 _ rfl
    have x51 := (hf 51).trans w51
    clear hbs hsl hf hsz9 hKN w51
    simp only [x11, x12, XX 0 _ rfl, XX 1 _ rfl, XX 2 _ rfl, XX 3 _ rfl, XX 4 _ rfl, XX 5 _ rfl, XX 6 _ rfl, XX 7 _ rfl, XX 8 _ rfl, XX 9 _ rfl, XX 14 _ rfl, XX 15 _ rfl, XX 16 _ rfl, XX 17 _ rfl, XX 18 _ rfl, XX 73 _ rfl, XX 74 _ rfl, XX 75 _ rfl, XX 76 _ rfl, XX 77 _ rfl, XX 78 _ rfl, XX 13 _ rfl, x51]
    clear XX x11 x12 x51
    replace k4 := k4.later hL9
    replace k5 := k5.later hL9
    replace k6 := k6.later hL9
    replace k7 := k7.later hL9
    replace k8 := k8.later hL9
    replace k12 := k12.later hL9
    replace k13 := k13.later hL9
    replace rL := rL.later hL9
    replace rH := rH.later hL9
    replace r6 := r6.later hL9
    replace rD := rD.later hL9
    replace L1 := L1.trans hL9
    replace LX := LX.trans hL9
    clear hL9 RS RD HDD HCM hob k11 rS
    obtain ⟨X5, rfl⟩ : ∃ z, z = W9 := ⟨_, rfl⟩
    rename_i K2 hK2
    have TAIL : ∀ (f : Nat → Value) (u11 u51 : Value) (X6 : World) (bU : Bool) (AU : Option Addr) (nU cU : Nat), Rg X6 bU AU nU cU (eUp x k) → nU ≤ 4022 → Rg X6 bD AD nD cD (eDn x k) → Rg X6 bL AL nL cL (sLo (l.take j) k) → Rg X6 bH AH nH cH (sHi (l.take j) k) → Rg X6 b6 A6 n6 c6 (2 ^ k) →
      Blk X6 g4 99 #[.bool false, .slice none 0 0, .bool false, .slice none 0 0] → Blk X6 g5 99 #[.bool false, .slice none 0 0, .bool false, .slice none 0 0] → Blk X6 g6 79 #[.bool b6, .slice A6 n6 c6] → Blk X6 g7 79 #[.bool bL, .slice AL nL cL] → Blk X6 g8 79 #[.bool bH, .slice AH nH cH] →
      Blk X6 g12 79 #[.bool bD, .slice AD nD cD] → Blk X6 g13 79 #[.bool bU, .slice AU nU cU] → Lat w X6 → Lat X0 X6 → K2 { tmps := #[.slice (some ⟨gg, oo, none⟩) n c, .int .i64 (k : Nat), undef, undef, .pointer (some ⟨g4, 0, none⟩), .pointer (some ⟨g5, 0, none⟩), .pointer (some ⟨g6, 0, none⟩), .pointer (some ⟨g7, 0, none⟩), .pointer (some ⟨g8, 0, none⟩), .int .i64 (j : Nat), f 10, u11, .pointer (some ⟨g12, 0, none⟩), .pointer (some ⟨g13, 0, none⟩), .agg #[.bool b5, .slice A5 n5 c5], .int .i64 (k : Nat), .agg #[.bool b6, .slice A6 n6 c6], .agg #[.bool false, .slice none 0 0], .agg #[.bool false, .slice none 0 0], f 19, f 20, f 21, f 22, f 23, f 24, f 25, f 26, f 27, f 28, f 29, f 30, f 31, f 32, f 33, f 34, f 35, f 36, f 37, f 38, f 39, f 40, f 41, f 42, f 43, f 44, f 45, f 46, f 47, f 48, f 49, f 50, u51, f 52, f 53, f 54, f 55, f 56, f 57, f 58, f 59, f 60, f 61, f 62, f 63, f 64, f 65, f 66, f 67, f 68, f 69, f 70, f 71, f 72, undef, undef, undef, undef, undef, undef], defers := [] } X6 := by
     clear k4 k5 k6 k7 k8 k12 k13 rL rH r6 rD L1 LX HOB
     intro f u11 u51 X6 bU AU nU cU rU hU rD rL rH r6 k4 k5 k6 k7 k8 k12 k13 L1 LX
     have MU := Lib.hid hU
     clear hU
     refine hK2 _ _ ?_
     have RL : ∀ w', Lat X6 w' → w'.rangeAt g7 0 [.bool bL, .slice AL nL cL] := fun w' hl => (k7.later hl).rangeAll
     have RH : ∀ w', Lat X6 w' → w'.rangeAt g8 0 [.bool bH, .slice AH nH cH] := fun w' hl => (k8.later hl).rangeAll
     have RD : ∀ w', Lat X6 w' → w'.rangeAt g12 0 [.bool bD, .slice AD nD cD] := fun w' hl => (k12.later hl).rangeAll
     have RU : ∀ w', Lat X6 w' → w'.rangeAt g13 0 [.bool bU, .slice AU nU cU] := fun w' hl => (k13.later hl).rangeAll
     have c0 := (HCX.out X6 LX)
     have hjI : (j : Int) < (n : Int) := by have := HJN.out; omega
     by_cases ht : 0 < x.1
     ·have HE := Lib.hid (zmB k ht)
      go_upto_region 13 with (fail)
      clear c0 ht hjI
      have HPL := fun (w : World) (hl : Lat X6 w) => (zc1 bL AL nL cL (sLo (l.take j) k) bD AD nD cD (eDn x k) w (rL.later hl) (rD.later hl) (by have := ML.out; have := HJN.out; have := HN.out; omega) (by have := MD.out; omega)).mono fun _ _ h => h.le (M := 4030 + (j + 1)) (by have := ML.out; have := MD.out; omega)
      have HPH := fun (w : World) (hl : Lat X6 w) => (zc1 bH AH nH cH (sHi (l.take j) k) bU AU nU cU (eUp x k) w (rH.later hl) (rU.later hl) (by have := MH.out; have := HJN.out; have := HN.out; omega) (by have := MU.out; omega)).mono fun _ _ h => h.le (M := 4030 + (j + 1)) (by have := MH.out; have := MU.out; omega)
      refine zau (zeE g7 g8 g12 g13 bL AL nL cL bH AH nH cH bD AD nD cD bU AU nU cU (sLo (l.take j) k) (sHi (l.take j) k) (eDn x k) (eUp x k) (4030 + (j + 1))) (zha g7 g8 g12 g13 bL AL nL cL bH AH nH cH bD AD nD cD bU AU nU cU (sLo (l.take j) k) (sHi (l.take j) k) (eDn x k) (eUp x k) (4030 + (j + 1)) _ _ _ _ _ _ _ _ _ _ _ _ _ _ _ _ _ _ _) 79 6 [[], [], [0, 1], [], [], [3, 4, 2], [2, 5, 0, 1, 2], [5, 6, 0, 1, 2, 3, 4, 5, 6]] (by kernel_rfl) _ rfl rfl _ rfl rfl (by kernel_rfl) (by kernel_rfl) (by kernel_rfl) (by kernel_rfl) (by kernel_rfl) (by kernel_rfl) (by kernel_rfl) (by rfl) rfl (base_of (by repeat (first | exact base_nil _ | refine zad rfl ?_))) (zjA X6 g7 g8 g12 g13 bL AL nL cL bH AH nH cH bD AD nD cD bU AU nU cU (sLo (l.take j) k) (sHi (l.take j) k) (eDn x k) (eUp x k) (4030 + (j + 1)) _ _ _ _ _ _ _ _ _ _ _ _ _ _ _ _ _ _ _ RL RH RD RU J2 HPL HPH) ?_
      intro a9 W9 hsz9 hdf9 hL9 hbs hsl
      obtain ⟨v8, h8, q8⟩ := hsl 2 _ _ rfl rfl
      obtain ⟨y0, yA, yn, yc, rfl, ry, my⟩ := (show HV _ _ v8 W9 from q8)
      have K8 := k7.later hL9
      obtain ⟨v9, h9, q9⟩ := hsl 5 _ _ rfl rfl
      obtain ⟨z0, zA, zn, zc, rfl, rz, mz⟩ := (show HV _ _ v9 W9 from q9)
      have K9 := k8.later hL9
      refine wp_store_mid 79 (.tmp 7) (.tmp 63) rfl g7 0 #[.bool y0, .slice yA yn yc] (hbs 7 _ rfl).ev h8.ev (K8.thereAll _ rfl) (by kernel_rfl) (by simp [Value.oneCell']) ?_
      refine zaE (Q := fun W => Oper.wp _ _ _ W _ _) K8 rfl (by simp [zbJ]) (fun V8 i8 l8 kw8 => ?_)
      replace K9 := K9.keepP l8 (by have := HG.out; omega)
      refine wp_store_mid 79 (.tmp 8) (.tmp 66) rfl g8 0 #[.bool z0, .slice zA zn zc] (hbs 8 _ rfl).ev h9.ev (K9.thereAll _ rfl) (by kernel_rfl) (by simp [Value.oneCell']) ?_
      refine zaE (Q := fun W => Exit.inBlock _ _ _ _ W) K9 rfl (by simp [zbJ]) (fun V9 i9 l9 kw9 => ?_)
      obtain ⟨T9, df9⟩ := a9
      obtain rfl : df9 = [] := hdf9
      obtain ⟨f, hf, rfl⟩ := zcS T9 hsz9
      have X9 := fun k v h => (hf k).trans (zaa (hbs k v h))
      clear hbs hsl hf hsz9 h8 h9 K8 K9
      simp only [Act.put, X9 7 _ rfl, X9 8 _ rfl, X9 12 _ rfl, X9 13 _ rfl, X9 0 _ rfl, X9 1 _ rfl, X9 2 _ rfl, X9 3 _ rfl, X9 4 _ rfl, X9 5 _ rfl, X9 6 _ rfl, X9 9 _ rfl, X9 14 _ rfl, X9 15 _ rfl, X9 16 _ rfl, X9 17 _ rfl, X9 18 _ rfl, X9 73 _ rfl, X9 74 _ rfl, X9 75 _ rfl, X9 76 _ rfl, X9 77 _ rfl, X9 78 _ rfl]
      clear X9
      replace k4 := ((k4.later hL9).keepP l8 (by have := HG.out; have := HH.out; omega)).keepP l9 (by have := HG.out; have := HH.out; omega)
      replace k5 := ((k5.later hL9).keepP l8 (by have := HG.out; have := HH.out; omega)).keepP l9 (by have := HG.out; have := HH.out; omega)
      replace k6 := ((k6.later hL9).keepP l8 (by have := HG.out; have := HH.out; omega)).keepP l9 (by have := HG.out; have := HH.out; omega)
      replace k7 := i8.keepP l9 (by have := HG.out; have := HH.out; omega)
      replace k8 := i9
      replace r6 := ((r6.later hL9).keepW kw8).keepW kw9
      replace ry := (ry.keepW kw8).keepW kw9
      replace rz := (rz.keepW kw8).keepW kw9
      replace L1 := l9.narrow (l8.narrow (L1.trans hL9) (by have := HG.out; have := HH.out; omega)) (by have := HG.out; have := HH.out; omega)
      rw [← HE.out.1, ← HT1.out] at ry
      rw [← HE.out.2, ← HT2.out] at rz
      have MY := Lib.hid my
      have MZ := Lib.hid mz
      have wj : wrap64 ((j : Int) + 1) = (j : Int) + 1 := IntWalk.wrap64_in _ ⟨by omega, by have := HJN.out; have := HN.out; omega⟩
      clear hL9 i8 i9 l8 l9 kw8 kw9 RL RH RD RU HPL HPH my mz rL rH k12 k13 rD rU LX
      obtain ⟨X7, rfl⟩ : ∃ z, z = V9 := ⟨_, rfl⟩
      go_wp2
      go_roundw
      case rel => exact ⟨j + 1, y0, yA, yn, yc, z0, zA, zn, zc, (by rw [wj]; exact zac j), HJN.out, ry, MY, rz, MZ, k4, k5, k6, k7, k8, r6, L1⟩
      case measure => (rw [wj]; exact zar HJN.out)
     ·have HE := Lib.hid (zmA k HX0.out ht)
      go_upto_region 14 with (fail)
      clear c0 ht hjI
      have HPL := fun (w : World) (hl : Lat X6 w) => (zdn bL AL nL cL (sLo (l.take j) k) bU AU nU cU (eUp x k) w (rL.later hl) (rU.later hl) (by have := ML.out; have := HJN.out; have := HN.out; omega) (by have := MU.out; omega)).mono fun _ _ h => h.le (M := 4030 + (j + 1)) (by have := ML.out; have := MU.out; omega)
      have HPH := fun (w : World) (hl : Lat X6 w) => (zdn bH AH nH cH (sHi (l.take j) k) bD AD nD cD (eDn x k) w (rH.later hl) (rD.later hl) (by have := MH.out; have := HJN.out; have := HN.out; omega) (by have := MD.out; omega)).mono fun _ _ h => h.le (M := 4030 + (j + 1)) (by have := MH.out; have := MD.out; omega)
      refine zau (zeF g7 g8 g12 g13 bL AL nL cL bH AH nH cH bD AD nD cD bU AU nU cU (sLo (l.take j) k) (sHi (l.take j) k) (eDn x k) (eUp x k) (4030 + (j + 1))) (zhb g7 g8 g12 g13 bL AL nL cL bH AH nH cH bD AD nD cD bU AU nU cU (sLo (l.take j) k) (sHi (l.take j) k) (eDn x k) (eUp x k) (4030 + (j + 1)) _ _ _ _ _ _ _ _ _ _ _ _ _ _ _ _ _ _ _) 79 6 [[], [], [0, 1], [], [], [3, 4, 2], [2, 5, 0, 1, 2], [5, 6, 0, 1, 2, 3, 4, 5, 6]] (by kernel_rfl) _ rfl rfl _ rfl rfl (by kernel_rfl) (by kernel_rfl) (by kernel_rfl) (by kernel_rfl) (by kernel_rfl) (by kernel_rfl) (by kernel_rfl) (by rfl) rfl (base_of (by repeat (first | exact base_nil _ | refine zad rfl ?_))) (zjB X6 g7 g8 g12 g13 bL AL nL cL bH AH nH cH bD AD nD cD bU AU nU cU (sLo (l.take j) k) (sHi (l.take j) k) (eDn x k) (eUp x k) (4030 + (j + 1)) _ _ _ _ _ _ _ _ _ _ _ _ _ _ _ _ _ _ _ RL RH RD RU J2 HPL HPH) ?_
      intro a9 W9 hsz9 hdf9 hL9 hbs hsl
      obtain ⟨v8, h8, q8⟩ := hsl 2 _ _ rfl rfl
      obtain ⟨y0, yA, yn, yc, rfl, ry, my⟩ := (show HV _ _ v8 W9 from q8)
      have K8 := k7.later hL9
      obtain ⟨v9, h9, q9⟩ := hsl 5 _ _ rfl rfl
      obtain ⟨z0, zA, zn, zc, rfl, rz, mz⟩ := (show HV _ _ v9 W9 from q9)
      have K9 := k8.later hL9
      refine wp_store_mid 79 (.tmp 7) (.tmp 69) rfl g7 0 #[.bool y0, .slice yA yn yc] (hbs 7 _ rfl).ev h8.ev (K8.thereAll _ rfl) (by kernel_rfl) (by simp [Value.oneCell']) ?_
      refine zaE (Q := fun W => Oper.wp _ _ _ W _ _) K8 rfl (by simp [zbJ]) (fun V8 i8 l8 kw8 => ?_)
      replace K9 := K9.keepP l8 (by have := HG.out; omega)
      refine wp_store_mid 79 (.tmp 8) (.tmp 72) rfl g8 0 #[.bool z0, .slice zA zn zc] (hbs 8 _ rfl).ev h9.ev (K9.thereAll _ rfl) (by kernel_rfl) (by simp [Value.oneCell']) ?_
      refine zaE (Q := fun W => Exit.inBlock _ _ _ _ W) K9 rfl (by simp [zbJ]) (fun V9 i9 l9 kw9 => ?_)
      obtain ⟨T9, df9⟩ := a9
      obtain rfl : df9 = [] := hdf9
      obtain ⟨f, hf, rfl⟩ := zcS T9 hsz9
      have X9 := fun k v h => (hf k).trans (zaa (hbs k v h))
      clear hbs hsl hf hsz9 h8 h9 K8 K9
      simp only [Act.put, X9 7 _ rfl, X9 8 _ rfl, X9 12 _ rfl, X9 13 _ rfl, X9 0 _ rfl, X9 1 _ rfl, X9 2 _ rfl, X9 3 _ rfl, X9 4 _ rfl, X9 5 _ rfl, X9 6 _ rfl, X9 9 _ rfl, X9 14 _ rfl, X9 15 _ rfl, X9 16 _ rfl, X9 17 _ rfl, X9 18 _ rfl, X9 73 _ rfl, X9 74 _ rfl, X9 75 _ rfl, X9 76 _ rfl, X9 77 _ rfl, X9 78 _ rfl]
      clear X9
      replace k4 := ((k4.later hL9).keepP l8 (by have := HG.out; have := HH.out; omega)).keepP l9 (by have := HG.out; have := HH.out; omega)
      replace k5 := ((k5.later hL9).keepP l8 (by have := HG.out; have := HH.out; omega)).keepP l9 (by have := HG.out; have := HH.out; omega)
      replace k6 := ((k6.later hL9).keepP l8 (by have := HG.out; have := HH.out; omega)).keepP l9 (by have := HG.out; have := HH.out; omega)
      replace k7 := i8.keepP l9 (by have := HG.out; have := HH.out; omega)
      replace k8 := i9
      replace r6 := ((r6.later hL9).keepW kw8).keepW kw9
      replace ry := (ry.keepW kw8).keepW kw9
      replace rz := (rz.keepW kw8).keepW kw9
      replace L1 := l9.narrow (l8.narrow (L1.trans hL9) (by have := HG.out; have := HH.out; omega)) (by have := HG.out; have := HH.out; omega)
      rw [Int.sub_eq_add_neg, ← HE.out.1, ← HT1.out] at ry
      rw [Int.sub_eq_add_neg, ← HE.out.2, ← HT2.out] at rz
      have MY := Lib.hid my
      have MZ := Lib.hid mz
      have wj : wrap64 ((j : Int) + 1) = (j : Int) + 1 := IntWalk.wrap64_in _ ⟨by omega, by have := HJN.out; have := HN.out; omega⟩
      clear hL9 i8 i9 l8 l9 kw8 kw9 RL RH RD RU HPL HPH my mz rL rH k12 k13 rD rU LX
      obtain ⟨X7, rfl⟩ : ∃ z, z = V9 := ⟨_, rfl⟩
      go_wp2
      go_roundw
      case rel => exact ⟨j + 1, y0, yA, yn, yc, z0, zA, zn, zc, (by rw [wj]; exact zac j), HJN.out, ry, MY, rz, MZ, k4, k5, k6, k7, k8, r6, L1⟩
      case measure => (rw [wj]; exact zar HJN.out)
    clear HCX HX0 HXV
    cases ob with
    | true =>
      have hlt : eDn x k * eDn x k < eSq x k := of_decide_eq_true HOB.out
      have HUP : Hid (eUp x k = eDn x k + 1) := by show eUp x k = eDn x k + 1; unfold eUp; rw [if_pos hlt]
      clear HOB hlt
      go_upto_region 11 with (fail)
      have RD : ∀ w', Lat X5 w' → w'.rangeAt g12 0 [.bool bD, .slice AD nD cD] := fun w' hl => (k12.later hl).rangeAll
      have HF1 : ∀ w, Calls Tryz.prog 30 #[.int .i64 1] w (RefPost w 1 2) := fun w => zay 1 w (by decide) (by decide)
      have HPL := fun b' A' n' c' (w : World) (hl : Lat X5 w) (h : Rg w b' A' n' c' 1) (hn : n' ≤ 2) => (zc1 bD AD nD cD (eDn x k) b' A' n' c' 1 w (rD.later hl) h (by have := MD.out; omega) (by omega)).mono fun _ _ h => h.le (M := 4022) (by have := MD.out; omega)
      refine zby (zeD 4022 bD AD nD cD (eDn x k)) (zg9 g12 g13 _ _ _ _ _ _ _ _ _ _ _ _ _ _ _ _ _ _ _ _ _) 79 3 [[], [], [0, 1, 1], [2, 2, 0, 1, 2]] (by kernel_rfl) _ rfl rfl (by kernel_rfl) (by kernel_rfl) (by kernel_rfl) (by kernel_rfl) (by kernel_rfl) (by kernel_rfl) (by rfl) rfl (base_of (by repeat (first | exact base_nil _ | refine zad rfl ?_))) (zjz X5 4022 bD AD nD cD (eDn x k) g12 g13 _ _ _ _ _ _ _ _ _ _ _ _ _ _ _ _ _ _ _ _ _ RD J2 HF1 HPL) ?_
      ·intro a9 W9 hsz9 hdf9 hL9 hbs hsl
       obtain ⟨v9, h09, qv9⟩ := hsl 2 _ _ rfl rfl
       obtain ⟨u0, uA, un, uc, rfl, rU, mU⟩ := (show HV (eDn x k + 1) 4022 v9 W9 from qv9)
       have K9 := k13.later hL9
       refine wp_store_mid 79 (.tmp 13) (.tmp 54) rfl g13 0 #[.bool u0, .slice uA un uc] (hbs 13 _ rfl).ev h09.ev (K9.thereAll _ rfl) (by kernel_rfl) (by simp [Value.oneCell']) ?_
       obtain ⟨T9, df9⟩ := a9
       obtain rfl : df9 = [] := hdf9
       obtain ⟨f, hf, rfl⟩ := zcS T9 hsz9
       have XX := fun k v h => (hf k).trans (zaa (hbs k v h))
       have x12 : f 12 = .pointer (some ⟨g12, 0, none⟩) := XX 12 _ rfl
       have x13 : f 13 = .pointer (some ⟨g13, 0, none⟩) := XX 13 _ rfl
       clear hbs hsl hf hsz9 h09 qv9
       simp only [Act.put, x12, x13, XX 0 _ rfl, XX 1 _ rfl, XX 2 _ rfl, XX 3 _ rfl, XX 4 _ rfl, XX 5 _ rfl, XX 6 _ rfl, XX 7 _ rfl, XX 8 _ rfl, XX 9 _ rfl, XX 14 _ rfl, XX 15 _ rfl, XX 16 _ rfl, XX 17 _ rfl, XX 18 _ rfl, XX 73 _ rfl, XX 74 _ rfl, XX 75 _ rfl, XX 76 _ rfl, XX 77 _ rfl, XX 78 _ rfl]
       clear XX x12 x13
       refine zaE (Q := fun W => K2 _ W) K9 rfl (by simp [zbJ]) (fun V9 i9 l9 kw9 => ?_)
       exact TAIL f _ _ V9 u0 uA un uc (by rw [HUP.out]; exact rU.keepW kw9) mU ((rD.later hL9).keepW kw9) ((rL.later hL9).keepW kw9) ((rH.later hL9).keepW kw9) ((r6.later hL9).keepW kw9) ((k4.later hL9).keepP l9 (by have := HG.out; have := HH.out; omega)) ((k5.later hL9).keepP l9 (by have := HG.out; have := HH.out; omega)) ((k6.later hL9).keepP l9 (by have := HG.out; have := HH.out; omega)) ((k7.later hL9).keepP l9 (by have := HG.out; have := HH.out; omega)) ((k8.later hL9).keepP l9 (by have := HG.out; have := HH.out; omega)) ((k12.later hL9).keepP l9 (by have := HG.out; have := HH.out; omega)) i9 (l9.narrow (L1.trans hL9) (by have := HG.out; have := HH.out; omega)) (l9.narrow (LX.trans hL9) (by have := HG.out; have := HH.out; omega))
    | false =>
      have hup : eUp x k = eDn x k := by unfold eUp; rw [if_neg (of_decide_eq_false HOB.out)]
      refine wp_cond_false rfl (wp_skip ?_)
      exact TAIL f _ _ X5 bD AD nD cD (by rw [hup]; exact rD) (by have := MD.out; omega) rD rL rH r6 k4 k5 k6 k7 k8 k12 k13 L1 LX
  ·obtain rfl : j = n := by have := hj.out; omega
   rw [List.take_of_length_le (by have := HLEN.out; omega)] at rL rH
   have hge : ¬ (j : Int) < (j : Int) := by omega
   clear hjn hj
   go_upto_region 15 with (fail)
   obtain ⟨X9, rfl⟩ : ∃ z, z = wr := ⟨_, rfl⟩
   have J2 : (Tryz.prog.info? 79).map (·.size) = some 2 := by kernel_rfl
   have RL : ∀ w', Lat X9 w' → w'.rangeAt g7 0 [.bool bL, .slice AL nL cL] := fun w' hl => (k7.later hl).rangeAll
   have RH : ∀ w', Lat X9 w' → w'.rangeAt g8 0 [.bool bH, .slice AH nH cH] := fun w' hl => (k8.later hl).rangeAll
   have RU : ∀ w', Lat X9 w' → w'.rangeAt g6 0 [.bool b6, .slice A6 n6 c6] := fun w' hl => (k6.later hl).rangeAll
   have HLL := fun (w : World) (hl : Lat X9 w) => (zd7 bL AL nL cL (sLo l k) b6 A6 n6 c6 (2 ^ k) w (rL.later hl) (r6.later hl) (znc k) (by have := ML.out; have := HN.out; omega) (by have := M6.out; have := HK.out; omega)).mono fun _ _ h => h.le (M := 6000) (by have := ML.out; have := HN.out; have := M6.out; have := HK.out; omega)
   have HLH := fun (w : World) (hl : Lat X9 w) => (zd7 bH AH nH cH (sHi l k) b6 A6 n6 c6 (2 ^ k) w (rH.later hl) (r6.later hl) (znc k) (by have := MH.out; have := HN.out; omega) (by have := M6.out; have := HK.out; omega)).mono fun _ _ h => h.le (M := 6000) (by have := MH.out; have := HN.out; have := M6.out; have := HK.out; omega)
   rename_i KN hKN
   refine zau (zeG g4 g5 g6 g7 g8 bL AL nL cL bH AH nH cH b6 A6 n6 c6 (sLo l k) (sHi l k) (2 ^ k) 6000) (zhc g4 g5 g6 g7 g8 bL AL nL cL bH AH nH cH b6 A6 n6 c6 (sLo l k) (sHi l k) (2 ^ k) 6000) 79 6 [[], [], [0, 1], [], [], [3, 4, 2], [2, 5, 0, 1, 2], [5, 6, 0, 1, 2, 3, 4, 5, 6]] (by kernel_rfl) _ rfl rfl _ rfl rfl (by kernel_rfl) (by kernel_rfl) (by kernel_rfl) (by kernel_rfl) (by kernel_rfl) (by kernel_rfl) (by kernel_rfl) (by rfl) rfl (base_of (by repeat (first | exact base_nil _ | refine zad rfl ?_))) (zjC X9 g4 g5 g6 g7 g8 bL AL nL cL bH AH nH cH b6 A6 n6 c6 (sLo l k) (sHi l k) (2 ^ k) 6000 RL RH RU J2 HLL HLH) ?_
   intro a9 W9 hsz9 hdf9 hL9 hbs hsl
   obtain ⟨v8, h8, q8⟩ := hsl 2 _ _ rfl rfl
   obtain ⟨p0, pA, pn, pc, p1, pB, pm, pd, rfl, rp, mp, rp1, mp1⟩ := (show RRV _ _ _ v8 W9 from q8)
   have K8 := k4.later hL9
   obtain ⟨v9, h9, q9⟩ := hsl 5 _ _ rfl rfl
   obtain ⟨q0, qA, qn, qc, q1, qB, qm, qd, rfl, rq, mq, rq1, mq1⟩ := (show RRV _ _ _ v9 W9 from q9)
   have K9 := k5.later hL9
   refine wp_store_mid 99 (.tmp 4) (.tmp 75) rfl g4 0 #[.bool p0, .slice pA pn pc, .bool p1, .slice pB pm pd] (hbs 4 _ rfl).ev h8.ev (K8.thereAll _ rfl) (by kernel_rfl) (by simp [Value.oneCell']) ?_
   refine zaE (Q := fun W => Oper.wp _ _ _ W _ _) K8 rfl (by simp [zbJ]) (fun V8 i8 l8 kw8 => ?_)
   replace K9 := K9.keepP l8 (by have := HG.out; omega)
   refine wp_store_mid 99 (.tmp 5) (.tmp 78) rfl g5 0 #[.bool q0, .slice qA qn qc, .bool q1, .slice qB qm qd] (hbs 5 _ rfl).ev h9.ev (K9.thereAll _ rfl) (by kernel_rfl) (by simp [Value.oneCell']) ?_
   refine hKN _ _ ?_
   refine zaE (Q := fun W => Code.wp _ _ _ _ W) K9 rfl (by simp [zbJ]) (fun V9 i9 l9 kw9 => ?_)
   obtain ⟨T9, df9⟩ := a9
   obtain rfl : df9 = [] := hdf9
   obtain ⟨f, hf, rfl⟩ := zcS T9 hsz9
   have X9 := fun k v h => (hf k).trans (zaa (hbs k v h))
   clear hbs hsl hf hsz9 hKN h8 h9 K8 K9
   simp only [Act.put, X9 4 _ rfl, X9 5 _ rfl, X9 6 _ rfl, X9 7 _ rfl, X9 8 _ rfl]
   clear X9
   replace rp := (rp.keepW kw8).keepW kw9
   replace rp1 := (rp1.keepW kw8).keepW kw9
   replace rq := (rq.keepW kw8).keepW kw9
   replace rq1 := (rq1.keepW kw8).keepW kw9
   replace L1 := l9.narrow (l8.narrow (L1.trans hL9) (by have := HG.out; omega)) (by have := HG.out; omega)
   replace k4 := i8.keepP l9 (by have := HG.out; omega)
   have e0 := k4.cell 0
   have e1 := k4.cell 1
   have e2 := k4.cell 2
   have e3 := k4.cell 3
   have f0 := i9.cell 0
   have f1 := i9.cell 1
   have f2 := i9.cell 2
   have f3 := i9.cell 3
   clear hL9 i8 i9 l8 l9 kw8 kw9 RL RH RU HLL HLH k5 k6 k7 k8 r6 rL rH
   go_wp2
   refine bodyPost_ret (v := .tuple #[.agg #[.bool p0, .slice pA pn pc, .bool p1, .slice pB pm pd], .agg #[.bool q0, .slice qA qn qc, .bool q1, .slice qB qm qd]]) (by simp [results, Tryz.results39, go_sem, e0, e1, e2, e3, f0, f1, f2, f3]) rfl ?_
   exact ⟨p0, pA, pn, pc, p1, pB, pm, pd, q0, qA, qn, qc, q1, qB, qm, qd, rfl, ⟨rp, mp, rp1, mp1⟩, ⟨rq, mq, rq1, mq1⟩, L1⟩
end Go.Proofs.YtpmbglhbcjbkcaaGreat
