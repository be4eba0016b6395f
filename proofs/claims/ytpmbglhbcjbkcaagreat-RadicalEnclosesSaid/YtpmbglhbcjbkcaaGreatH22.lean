/- Several texts in one: RdI. -/
import Derived.Test.YtpmbglhbcjbkcaaGreatH21
import Derived.Test.YtpmbglhbcjbkcaaGreatH14
namespace Go.Proofs.YtpmbglhbcjbkcaaGreat
set_option maxHeartbeats 16000000
set_option maxRecDepth 100000
open Go.RowKit
set_option linter.unusedSimpArgs false
set_option linter.unusedVariables false
theorem zc2 (z : Int) : zgA z < 0 ↔ z < 0 := by
 unfold zgA
 split
 ·omega
 ·split <;> omega
theorem zh5 (z : Int) : 0 < zgA z ↔ 0 < z := by
 unfold zgA
 split
 ·omega
 ·split <;> omega
def zdM (z : Int) : Int := if -9223372036854775808 ≤ z ∧ z < 9223372036854775808 then 0 else 6
def zeR (z : Int) : Int := if -9223372036854775808 ≤ z ∧ z < 9223372036854775808 then z else 0
theorem zhw (T : Array Value) (h : T.size = 39) : ∃ f : Nat → Value, (∀ k, f k = T.getD k undef) ∧ T = #[f 0, f 1, f 2, f 3, f 4, f 5, f 6, f 7, f 8, f 9, f 10, f 11, f 12, f 13, f 14, f 15, f 16, f 17, f 18, f 19, f 20, f 21, f 22, f 23, f 24, f 25, f 26, f 27, f 28, f 29, f 30, f 31, f 32, f 33, f 34, f 35, f 36, f 37, f 38] := ⟨fun k => T.getD k undef, fun _ => rfl, (spell 39 T h).trans (by kernel_rfl)⟩
noncomputable def zeb (b : Bool) (A : Option Addr) (n c g1 : Nat) (o1 o2 : Int) : List SRow := [
 ⟨.load 79 (.tmp 1), some 6, none, [], fun v _ => v = .agg #[.bool b, .slice A n c]⟩,
 ⟨.call { callee := .value (.func 30), args := #[.const (.int .i64 (-9223372036854775808))], argTypes := #[3] }, some 7, none, [], LV (-9223372036854775808) 2⟩,
 ⟨.call { callee := .value (.func 75), args := #[.tmp 6, .tmp 7], argTypes := #[79, 79] }, some 8, none, [0, 1, 1], fun v _ => v = .int .i64 o1⟩,
 ⟨.binOp .lss 3 (.tmp 8) (.const (.int .i64 0)) 3, some 9, none, [2], fun v _ => v = .bool true⟩,
 ⟨.move (.tmp 9), some 10, none, [3, 2], fun v _ => v = .bool true⟩,
 ⟨.load 79 (.tmp 1), some 11, some (4, false), [4], fun v _ => v = undef⟩,
 ⟨.call { callee := .value (.func 30), args := #[.const (.int .i64 9223372036854775807)], argTypes := #[3] }, some 12, some (4, false), [4, 4], fun v _ => v = undef⟩,
 ⟨.call { callee := .value (.func 75), args := #[.tmp 11, .tmp 12], argTypes := #[79, 79] }, some 13, some (4, false), [5, 6, 6, 4], fun v _ => v = undef⟩,
 ⟨.binOp .gtr 3 (.tmp 13) (.const (.int .i64 0)) 3, some 14, some (4, false), [7, 4], fun v _ => v = undef⟩,
 ⟨.pick (.tmp 10) (.const (.bool true)) (.tmp 14), some 15, none, [4, 8], fun v _ => v = .bool true⟩]
noncomputable def zgF (b : Bool) (A : Option Addr) (n c g1 : Nat) (o1 o2 : Int) : List (Nat × Value) := [(0, .agg #[.bool b, .slice A n c]), (1, .pointer (some ⟨g1, 0, none⟩)), (2, .int .i64 0), (3, .int .i64 0)]
theorem zi7 (V : World) (b : Bool) (A : Option Addr) (n c g1 : Nat) (o1 o2 : Int) (R1 : ∀ w', Lat V w' → w'.rangeAt g1 0 [.bool b, .slice A n c]) (J85 : (Tryz.prog.info? 79).map (·.size) = some 2) (HL1 : ∀ w, Calls Tryz.prog 30 #[.int .i64 (-9223372036854775808)] w (RefPost w (-9223372036854775808) 2)) (HL2 : ∀ w, Calls Tryz.prog 30 #[.int .i64 9223372036854775807] w (RefPost w 9223372036854775807 2))
  (HO1 : ∀ b2 A2 n2 c2 w, Lat V w → Rg w b2 A2 n2 c2 (-9223372036854775808) → n2 ≤ 2 → Calls Tryz.prog 75 #[.agg #[.bool b, .slice A n c], .agg #[.bool b2, .slice A2 n2 c2]] w (fun e w' => e = .returned (.int .i64 o1) ∧ Lat w w'))
  (HO2 : ∀ b2 A2 n2 c2 w, Lat V w → Rg w b2 A2 n2 c2 9223372036854775807 → n2 ≤ 2 → Calls Tryz.prog 75 #[.agg #[.bool b, .slice A n c], .agg #[.bool b2, .slice A2 n2 c2]] w (fun e w' => e = .returned (.int .i64 o2) ∧ Lat w w')) (h1 : o1 < 0) :
  AllStepsN Tryz.prog (zeb b A n c g1 o1 o2) (zgF b A n c g1 o1 o2) V (zeb b A n c g1 o1 o2) := by
 refine nG ?_ fun a w hl hb hd o ho => by have e1 := hb 1 _ rfl; exact Runs.val (zah (S := Lat V) e1 R1 Tryz.underlying79 rfl J85 o w ho hl) ⟨Lat.refl _, fun _ => rfl⟩
 refine nG ?_ fun a w hl hb hd o ho => by exact Runs.call (zan (f := 30) (fun _ => by go_simp) o ho (by simp only [List.map_toArray, List.map_cons, List.map_nil, eval_const])) ((HL1 w).mono fun e w' h => h.run)
 refine nG ?_ fun a w hl hb hd o ho => by obtain ⟨_, e1, rfl⟩ := hd 0 _ _ (by simp) rfl rfl; obtain ⟨v2, e2, q2⟩ := hd 1 _ _ (by simp) rfl rfl; obtain ⟨b2, A2, n2, c2, rfl, r2, m2⟩ := (show LV (-9223372036854775808) 2 v2 w from q2); exact rcC o ho (HO1 b2 A2 n2 c2 w hl r2 m2)
 refine n1 ?_ (ed 2) (fun ev w hl ec e1 d ty p af g => ?_)
 refine n1 ?_ (ed 3) (fun ev w hl ec e1 d ty p af g => ?_)
 refine nk ?_
 refine nk ?_
 refine nk ?_
 refine nk ?_
 refine n1 ?_ (ed 4) (fun ev w hl ec e1 d ty p af g => ?_)
 ·exact AllStepsN.none
 all_goals (unfold execOp; first | simp only [e1, e2, ec] | simp only [e1, ec] | simp only [ec])
 all_goals go_simp
noncomputable def zec (b : Bool) (A : Option Addr) (n c g1 : Nat) (o1 o2 : Int) : List SRow := [
 ⟨.load 79 (.tmp 1), some 6, none, [], fun v _ => v = .agg #[.bool b, .slice A n c]⟩,
 ⟨.call { callee := .value (.func 30), args := #[.const (.int .i64 (-9223372036854775808))], argTypes := #[3] }, some 7, none, [], LV (-9223372036854775808) 2⟩,
 ⟨.call { callee := .value (.func 75), args := #[.tmp 6, .tmp 7], argTypes := #[79, 79] }, some 8, none, [0, 1, 1], fun v _ => v = .int .i64 o1⟩,
 ⟨.binOp .lss 3 (.tmp 8) (.const (.int .i64 0)) 3, some 9, none, [2], fun v _ => v = .bool false⟩,
 ⟨.move (.tmp 9), some 10, none, [3, 2], fun v _ => v = .bool false⟩,
 ⟨.load 79 (.tmp 1), some 11, some (4, false), [4], fun v _ => v = .agg #[.bool b, .slice A n c]⟩,
 ⟨.call { callee := .value (.func 30), args := #[.const (.int .i64 9223372036854775807)], argTypes := #[3] }, some 12, some (4, false), [4, 4], LV 9223372036854775807 2⟩,
 ⟨.call { callee := .value (.func 75), args := #[.tmp 11, .tmp 12], argTypes := #[79, 79] }, some 13, some (4, false), [5, 6, 6, 4], fun v _ => v = .int .i64 o2⟩,
 ⟨.binOp .gtr 3 (.tmp 13) (.const (.int .i64 0)) 3, some 14, some (4, false), [7, 4], fun v _ => v = .bool true⟩,
 ⟨.pick (.tmp 10) (.const (.bool true)) (.tmp 14), some 15, none, [4, 8], fun v _ => v = .bool true⟩]
noncomputable def zgG (b : Bool) (A : Option Addr) (n c g1 : Nat) (o1 o2 : Int) : List (Nat × Value) := [(0, .agg #[.bool b, .slice A n c]), (1, .pointer (some ⟨g1, 0, none⟩)), (2, .int .i64 0), (3, .int .i64 0)]
theorem zi8 (V : World) (b : Bool) (A : Option Addr) (n c g1 : Nat) (o1 o2 : Int) (R1 : ∀ w', Lat V w' → w'.rangeAt g1 0 [.bool b, .slice A n c]) (J85 : (Tryz.prog.info? 79).map (·.size) = some 2) (HL1 : ∀ w, Calls Tryz.prog 30 #[.int .i64 (-9223372036854775808)] w (RefPost w (-9223372036854775808) 2)) (HL2 : ∀ w, Calls Tryz.prog 30 #[.int .i64 9223372036854775807] w (RefPost w 9223372036854775807 2))
  (HO1 : ∀ b2 A2 n2 c2 w, Lat V w → Rg w b2 A2 n2 c2 (-9223372036854775808) → n2 ≤ 2 → Calls Tryz.prog 75 #[.agg #[.bool b, .slice A n c], .agg #[.bool b2, .slice A2 n2 c2]] w (fun e w' => e = .returned (.int .i64 o1) ∧ Lat w w'))
  (HO2 : ∀ b2 A2 n2 c2 w, Lat V w → Rg w b2 A2 n2 c2 9223372036854775807 → n2 ≤ 2 → Calls Tryz.prog 75 #[.agg #[.bool b, .slice A n c], .agg #[.bool b2, .slice A2 n2 c2]] w (fun e w' => e = .returned (.int .i64 o2) ∧ Lat w w')) (h1 : ¬ o1 < 0) (h2 : 0 < o2) :
  AllStepsN Tryz.prog (zec b A n c g1 o1 o2) (zgG b A n c g1 o1 o2) V (zec b A n c g1 o1 o2) := by
 refine nG ?_ fun a w hl hb hd o ho => by have e1 := hb 1 _ rfl; exact Runs.val (zah (S := Lat V) e1 R1 Tryz.underlying79 rfl J85 o w ho hl) ⟨Lat.refl _, fun _ => rfl⟩
 refine nG ?_ fun a w hl hb hd o ho => by exact Runs.call (zan (f := 30) (fun _ => by go_simp) o ho (by simp only [List.map_toArray, List.map_cons, List.map_nil, eval_const])) ((HL1 w).mono fun e w' h => h.run)
 refine nG ?_ fun a w hl hb hd o ho => by obtain ⟨_, e1, rfl⟩ := hd 0 _ _ (by simp) rfl rfl; obtain ⟨v2, e2, q2⟩ := hd 1 _ _ (by simp) rfl rfl; obtain ⟨b2, A2, n2, c2, rfl, r2, m2⟩ := (show LV (-9223372036854775808) 2 v2 w from q2); exact rcC o ho (HO1 b2 A2 n2 c2 w hl r2 m2)
 refine n1 ?_ (ed 2) (fun ev w hl ec e1 d ty p af g => ?_)
 refine n1 ?_ (ed 3) (fun ev w hl ec e1 d ty p af g => ?_)
 refine nG ?_ fun a w hl hb hd o ho => by have e1 := hb 1 _ rfl; exact Runs.val (zah (S := Lat V) e1 R1 Tryz.underlying79 rfl J85 o w ho hl) ⟨Lat.refl _, fun _ => rfl⟩
 refine nG ?_ fun a w hl hb hd o ho => by exact Runs.call (zan (f := 30) (fun _ => by go_simp) o ho (by simp only [List.map_toArray, List.map_cons, List.map_nil, eval_const])) ((HL2 w).mono fun e w' h => h.run)
 refine nG ?_ fun a w hl hb hd o ho => by obtain ⟨_, e1, rfl⟩ := hd 5 _ _ (by simp) rfl rfl; obtain ⟨v2, e2, q2⟩ := hd 6 _ _ (by simp) rfl rfl; obtain ⟨b2, A2, n2, c2, rfl, r2, m2⟩ := (show LV 9223372036854775807 2 v2 w from q2); exact rcC o ho (HO2 b2 A2 n2 c2 w hl r2 m2)
 refine n1 ?_ (ed 7) (fun ev w hl ec e1 d ty p af g => ?_)
 refine n2 ?_ (ed 4) (ed 8) (fun ev w hl ec e1 e2 d ty p af g => ?_)
 ·exact AllStepsN.none
 all_goals (unfold execOp; first | simp only [e1, e2, ec] | simp only [e1, ec] | simp only [ec])
 all_goals go_simp
noncomputable def zed (b : Bool) (A : Option Addr) (n c g1 : Nat) (o1 o2 : Int) : List SRow := [
 ⟨.load 79 (.tmp 1), some 6, none, [], fun v _ => v = .agg #[.bool b, .slice A n c]⟩,
 ⟨.call { callee := .value (.func 30), args := #[.const (.int .i64 (-9223372036854775808))], argTypes := #[3] }, some 7, none, [], LV (-9223372036854775808) 2⟩,
 ⟨.call { callee := .value (.func 75), args := #[.tmp 6, .tmp 7], argTypes := #[79, 79] }, some 8, none, [0, 1, 1], fun v _ => v = .int .i64 o1⟩,
 ⟨.binOp .lss 3 (.tmp 8) (.const (.int .i64 0)) 3, some 9, none, [2], fun v _ => v = .bool false⟩,
 ⟨.move (.tmp 9), some 10, none, [3, 2], fun v _ => v = .bool false⟩,
 ⟨.load 79 (.tmp 1), some 11, some (4, false), [4], fun v _ => v = .agg #[.bool b, .slice A n c]⟩,
 ⟨.call { callee := .value (.func 30), args := #[.const (.int .i64 9223372036854775807)], argTypes := #[3] }, some 12, some (4, false), [4, 4], LV 9223372036854775807 2⟩,
 ⟨.call { callee := .value (.func 75), args := #[.tmp 11, .tmp 12], argTypes := #[79, 79] }, some 13, some (4, false), [5, 6, 6, 4], fun v _ => v = .int .i64 o2⟩,
 ⟨.binOp .gtr 3 (.tmp 13) (.const (.int .i64 0)) 3, some 14, some (4, false), [7, 4], fun v _ => v = .bool false⟩,
 ⟨.pick (.tmp 10) (.const (.bool true)) (.tmp 14), some 15, none, [4, 8], fun v _ => v = .bool false⟩]
noncomputable def zgH (b : Bool) (A : Option Addr) (n c g1 : Nat) (o1 o2 : Int) : List (Nat × Value) := [(0, .agg #[.bool b, .slice A n c]), (1, .pointer (some ⟨g1, 0, none⟩)), (2, .int .i64 0), (3, .int .i64 0)]
theorem zi9 (V : World) (b : Bool) (A : Option Addr) (n c g1 : Nat) (o1 o2 : Int) (R1 : ∀ w', Lat V w' → w'.rangeAt g1 0 [.bool b, .slice A n c]) (J85 : (Tryz.prog.info? 79).map (·.size) = some 2) (HL1 : ∀ w, Calls Tryz.prog 30 #[.int .i64 (-9223372036854775808)] w (RefPost w (-9223372036854775808) 2)) (HL2 : ∀ w, Calls Tryz.prog 30 #[.int .i64 9223372036854775807] w (RefPost w 9223372036854775807 2))
  (HO1 : ∀ b2 A2 n2 c2 w, Lat V w → Rg w b2 A2 n2 c2 (-9223372036854775808) → n2 ≤ 2 → Calls Tryz.prog 75 #[.agg #[.bool b, .slice A n c], .agg #[.bool b2, .slice A2 n2 c2]] w (fun e w' => e = .returned (.int .i64 o1) ∧ Lat w w'))
  (HO2 : ∀ b2 A2 n2 c2 w, Lat V w → Rg w b2 A2 n2 c2 9223372036854775807 → n2 ≤ 2 → Calls Tryz.prog 75 #[.agg #[.bool b, .slice A n c], .agg #[.bool b2, .slice A2 n2 c2]] w (fun e w' => e = .returned (.int .i64 o2) ∧ Lat w w')) (h1 : ¬ o1 < 0) (h2 : ¬ 0 < o2) :
  AllStepsN Tryz.prog (zed b A n c g1 o1 o2) (zgH b A n c g1 o1 o2) V (zed b A n c g1 o1 o2) := by
 refine nG ?_ fun a w hl hb hd o ho => by have e1 := hb 1 _ rfl; exact Runs.val (zah (S := Lat V) e1 R1 Tryz.underlying79 rfl J85 o w ho hl) ⟨Lat.refl _, fun _ => rfl⟩
 refine nG ?_ fun a w hl hb hd o ho => by exact Runs.call (zan (f := 30) (fun _ => by go_simp) o ho (by simp only [List.map_toArray, List.map_cons, List.map_nil, eval_const])) ((HL1 w).mono fun e w' h => h.run)
 refine nG ?_ fun a w hl hb hd o ho => by obtain ⟨_, e1, rfl⟩ := hd 0 _ _ (by simp) rfl rfl; obtain ⟨v2, e2, q2⟩ := hd 1 _ _ (by simp) rfl rfl; obtain ⟨b2, A2, n2, c2, rfl, r2, m2⟩ := (show LV (-9223372036854775808) 2 v2 w from q2); exact rcC o ho (HO1 b2 A2 n2 c2 w hl r2 m2)
 refine n1 ?_ (ed 2) (fun ev w hl ec e1 d ty p af g => ?_)
 refine n1 ?_ (ed 3) (fun ev w hl ec e1 d ty p af g => ?_)
 refine nG ?_ fun a w hl hb hd o ho => by have e1 := hb 1 _ rfl; exact Runs.val (zah (S := Lat V) e1 R1 Tryz.underlying79 rfl J85 o w ho hl) ⟨Lat.refl _, fun _ => rfl⟩
 refine nG ?_ fun a w hl hb hd o ho => by exact Runs.call (zan (f := 30) (fun _ => by go_simp) o ho (by simp only [List.map_toArray, List.map_cons, List.map_nil, eval_const])) ((HL2 w).mono fun e w' h => h.run)
 refine nG ?_ fun a w hl hb hd o ho => by obtain ⟨_, e1, rfl⟩ := hd 5 _ _ (by simp) rfl rfl; obtain ⟨v2, e2, q2⟩ := hd 6 _ _ (by simp) rfl rfl; obtain ⟨b2, A2, n2, c2, rfl, r2, m2⟩ := (show LV 9223372036854775807 2 v2 w from q2); exact rcC o ho (HO2 b2 A2 n2 c2 w hl r2 m2)
 refine n1 ?_ (ed 7) (fun ev w hl ec e1 d ty p af g => ?_)
 refine n2 ?_ (ed 4) (ed 8) (fun ev w hl ec e1 e2 d ty p af g => ?_)
 ·exact AllStepsN.none
 all_goals (unfold execOp; first | simp only [e1, e2, ec] | simp only [e1, ec] | simp only [ec])
 all_goals go_simp
theorem zja (b : Bool) (A : Option Addr) (n c : Nat) (z : Int) (w : World) (h : Rg w b A n c z) (hn : n ≤ 1000000) (hz : z < -9223372036854775808) :
  Calls Tryz.prog 31 #[.agg #[.bool b, .slice A n c]] w (fun e w' => e = .returned (.tuple #[.int .i64 0, .int .i64 6]) ∧ Lat w w') := by
 have HL1 := Lib.hid (fun w => zay (-9223372036854775808) w (by decide) (by decide))
 have HL2 := Lib.hid (fun w => zay 9223372036854775807 w (by decide) (by decide))
 obtain ⟨o1, ho1⟩ : ∃ o, zgA (z - -9223372036854775808) = o := ⟨_, rfl⟩
 obtain ⟨o2, ho2⟩ : ∃ o, zgA (z - 9223372036854775807) = o := ⟨_, rfl⟩
 have h1 : o1 < 0 := by rw [← ho1]; exact (zc2 _).2 (by omega)
 have HD1 := Lib.hid ho1
 have HD2 := Lib.hid ho2
 have HR := Lib.hid h
 have HN := Lib.hid hn
 clear ho1 ho2 h hn hz
 go_enter Tryz.func31, Tryz.ntmps31
 go_upto_region 1 with (fail)
 refine zas (Q := fun W => Code.wp _ _ _ _ W) ?_
 intro W hl hs k1
 obtain ⟨g1, hg1⟩ : ∃ z, w.heap.size = z := ⟨_, rfl⟩
 rw [hg1] at k1 ⊢
 have hr := HR.out.later hl
 have R1 : ∀ w', Lat W w' → w'.rangeAt g1 0 [.bool b, .slice A n c] := fun w' hl => (k1.later hl).rangeAll
 have J85 : (Tryz.prog.info? 79).map (·.size) = some 2 := by kernel_rfl
 have HO1 : Hid (∀ b2 A2 n2 c2 w, Lat W w → Rg w b2 A2 n2 c2 (-9223372036854775808) → n2 ≤ 2 → Calls Tryz.prog 75 #[.agg #[.bool b, .slice A n c], .agg #[.bool b2, .slice A2 n2 c2]] w (fun e w' => e = .returned (.int .i64 o1) ∧ Lat w w')) := fun b2 A2 n2 c2 w hl2 h h' => by
  have := zbl b A n c z b2 A2 n2 c2 _ w (hr.later hl2) h HN.out (by omega)
  rwa [HD1.out] at this
 have HO2 : Hid (∀ b2 A2 n2 c2 w, Lat W w → Rg w b2 A2 n2 c2 9223372036854775807 → n2 ≤ 2 → Calls Tryz.prog 75 #[.agg #[.bool b, .slice A n c], .agg #[.bool b2, .slice A2 n2 c2]] w (fun e w' => e = .returned (.int .i64 o2) ∧ Lat w w')) := fun b2 A2 n2 c2 w hl2 h h' => by
  have := zbl b A n c z b2 A2 n2 c2 _ w (hr.later hl2) h HN.out (by omega)
  rwa [HD2.out] at this
 clear hs hg1
 go_upto_region 1 with (fail)
 rename_i KN hKN
 refine zae (zeb b A n c g1 o1 o2) (zgF b A n c g1 o1 o2) 39 10 [[], [], [0, 1, 1], [2], [3, 2], [4], [4, 4], [5, 6, 6, 4], [7, 4], [4, 8]] (by kernel_rfl) (by kernel_rfl) (by kernel_rfl) (by kernel_rfl) (by kernel_rfl) (by kernel_rfl) (by rfl) rfl (base_of (by repeat (first | exact base_nil _ | refine zad rfl ?_))) (zi7 W b A n c g1 o1 o2 R1 J85 HL1.out HL2.out HO1.out HO2.out h1) ?_
 ·intro a9 W9 hsz9 hdf9 hL9 hbs hsl
  obtain ⟨v9, h9, q9⟩ := hsl 9 _ _ rfl rfl
  obtain rfl : v9 = .bool true := q9
  have w15 := zaa h9
  clear h9
  refine hKN _ _ ?_
  obtain ⟨T9, df9⟩ := a9
  obtain rfl : df9 = [] := hdf9
  obtain ⟨f, hf, rfl⟩ := zhw T9 hsz9
  have XX := fun k v h => (hf k).trans (zaa (hbs k v h))
  have x0 : f 0 = .agg #[.bool b, .slice A n c] := XX 0 _ rfl
  have x1 : f 1 = .pointer (some ⟨g1, 0, none⟩) := XX 1 _ rfl
  have x2 : f 2 = .int .i64 0 := XX 2 _ rfl
  have x3 : f 3 = .int .i64 0 := XX 3 _ rfl
  have x15 := (hf 15).trans w15
  clear XX hbs hsl hf hsz9 hKN w15
  simp only [x0, x1, x2, x3, x15]
  clear x0 x1 x2 x3 x15
  have LF := hl.trans hL9
  clear R1 J85 HO1 HO2 hr k1 hl hL9 HL1 HL2 HR
  go_wp2
  go_ret2
  exact ⟨rfl, LF⟩
theorem zjb (b : Bool) (A : Option Addr) (n c : Nat) (z : Int) (w : World) (h : Rg w b A n c z) (hn : n ≤ 1000000) (hz : 9223372036854775807 < z) :
  Calls Tryz.prog 31 #[.agg #[.bool b, .slice A n c]] w (fun e w' => e = .returned (.tuple #[.int .i64 0, .int .i64 6]) ∧ Lat w w') := by
 have HL1 := Lib.hid (fun w => zay (-9223372036854775808) w (by decide) (by decide))
 have HL2 := Lib.hid (fun w => zay 9223372036854775807 w (by decide) (by decide))
 obtain ⟨o1, ho1⟩ : ∃ o, zgA (z - -9223372036854775808) = o := ⟨_, rfl⟩
 obtain ⟨o2, ho2⟩ : ∃ o, zgA (z - 9223372036854775807) = o := ⟨_, rfl⟩
 have h1 : ¬ o1 < 0 := by rw [← ho1]; exact fun h => by have := (zc2 _).1 h; omega
 have h2 : 0 < o2 := by rw [← ho2]; exact (zh5 _).2 (by omega)
 have HD1 := Lib.hid ho1
 have HD2 := Lib.hid ho2
 have HR := Lib.hid h
 have HN := Lib.hid hn
 clear ho1 ho2 h hn hz
 go_enter Tryz.func31, Tryz.ntmps31
 go_upto_region 1 with (fail)
 refine zas (Q := fun W => Code.wp _ _ _ _ W) ?_
 intro W hl hs k1
 obtain ⟨g1, hg1⟩ : ∃ z, w.heap.size = z := ⟨_, rfl⟩
 rw [hg1] at k1 ⊢
 have hr := HR.out.later hl
 have R1 : ∀ w', Lat W w' → w'.rangeAt g1 0 [.bool b, .slice A n c] := fun w' hl => (k1.later hl).rangeAll
 have J85 : (Tryz.prog.info? 79).map (·.size) = some 2 := by kernel_rfl
 have HO1 : Hid (∀ b2 A2 n2 c2 w, Lat W w → Rg w b2 A2 n2 c2 (-9223372036854775808) → n2 ≤ 2 → Calls Tryz.prog 75 #[.agg #[.bool b, .slice A n c], .agg #[.bool b2, .slice A2 n2 c2]] w (fun e w' => e = .returned (.int .i64 o1) ∧ Lat w w')) := fun b2 A2 n2 c2 w hl2 h h' => by
  have := zbl b A n c z b2 A2 n2 c2 _ w (hr.later hl2) h HN.out (by omega)
  rwa [HD1.out] at this
 have HO2 : Hid (∀ b2 A2 n2 c2 w, Lat W w → Rg w b2 A2 n2 c2 9223372036854775807 → n2 ≤ 2 → Calls Tryz.prog 75 #[.agg #[.bool b, .slice A n c], .agg #[.bool b2, .slice A2 n2 c2]] w (fun e w' => e = .returned (.int .i64 o2) ∧ Lat w w')) := fun b2 A2 n2 c2 w hl2 h h' => by
  have := zbl b A n c z b2 A2 n2 c2 _ w (hr.later hl2) h HN.out (by omega)
  rwa [HD2.out] at this
 clear hs hg1
 go_upto_region 1 with (fail)
 rename_i KN hKN
 refine zae (zec b A n c g1 o1 o2) (zgG b A n c g1 o1 o2) 39 10 [[], [], [0, 1, 1], [2], [3, 2], [4], [4, 4], [5, 6, 6, 4], [7, 4], [4, 8]] (by kernel_rfl) (by kernel_rfl) (by kernel_rfl) (by kernel_rfl) (by kernel_rfl) (by kernel_rfl) (by rfl) rfl (base_of (by repeat (first | exact base_nil _ | refine zad rfl ?_))) (zi8 W b A n c g1 o1 o2 R1 J85 HL1.out HL2.out HO1.out HO2.out h1 h2) ?_
 ·intro a9 W9 hsz9 hdf9 hL9 hbs hsl
  obtain ⟨v9, h9, q9⟩ := hsl 9 _ _ rfl rfl
  obtain rfl : v9 = .bool true := q9
  have w15 := zaa h9
  clear h9
  refine hKN _ _ ?_
  obtain ⟨T9, df9⟩ := a9
  obtain rfl : df9 = [] := hdf9
  obtain ⟨f, hf, rfl⟩ := zhw T9 hsz9
  have XX := fun k v h => (hf k).trans (zaa (hbs k v h))
  have x0 : f 0 = .agg #[.bool b, .slice A n c] := XX 0 _ rfl
  have x1 : f 1 = .pointer (some ⟨g1, 0, none⟩) := XX 1 _ rfl
  have x2 : f 2 = .int .i64 0 := XX 2 _ rfl
  have x3 : f 3 = .int .i64 0 := XX 3 _ rfl
  have x15 := (hf 15).trans w15
  clear XX hbs hsl hf hsz9 hKN w15
  simp only [x0, x1, x2, x3, x15]
  clear x0 x1 x2 x3 x15
  have LF := hl.trans hL9
  clear R1 J85 HO1 HO2 hr k1 hl hL9 HL1 HL2 HR
  go_wp2
  go_ret2
  exact ⟨rfl, LF⟩
theorem zjc {u : Int} (h0 : 0 < u) (h1 : u ≤ 9223372036854775808) : ∃ M, IntKind.u64.wrap (-u) = M ∧ IntKind.i64.wrap M = -u := by
 refine ⟨_, rfl, ?_⟩
 rw [IntKind.wrap_u64, IntKind.wrap_i64]
 omega
theorem zjd (b : Bool) (A : Option Addr) (n c : Nat) (z : Int) (w : World) (h : Rg w b A n c z) (hn : n ≤ 1000000) (hz : -9223372036854775808 ≤ z) (hz1 : z ≤ 9223372036854775807) :
  Calls Tryz.prog 31 #[.agg #[.bool b, .slice A n c]] w (fun e w' => e = .returned (.tuple #[.int .i64 z, .int .i64 0]) ∧ Lat w w') := by
 have HL1 := Lib.hid (fun w => zay (-9223372036854775808) w (by decide) (by decide))
 have HL2 := Lib.hid (fun w => zay 9223372036854775807 w (by decide) (by decide))
 obtain ⟨o1, ho1⟩ : ∃ o, zgA (z - -9223372036854775808) = o := ⟨_, rfl⟩
 obtain ⟨o2, ho2⟩ : ∃ o, zgA (z - 9223372036854775807) = o := ⟨_, rfl⟩
 have h1 : ¬ o1 < 0 := by rw [← ho1]; exact fun h => by have := (zc2 _).1 h; omega
 have h2 : ¬ 0 < o2 := by rw [← ho2]; exact fun h => by have := (zh5 _).1 h; omega
 have HD1 := Lib.hid ho1
 have HD2 := Lib.hid ho2
 have HR := Lib.hid h
 have HN := Lib.hid hn
 have HZ0 := Lib.hid hz
 have HZ1 := Lib.hid hz1
 clear ho1 ho2 h hn hz hz1
 go_enter Tryz.func31, Tryz.ntmps31
 go_upto_region 1 with (fail)
 refine zas (Q := fun W => Code.wp _ _ _ _ W) ?_
 intro W hl hs k1
 obtain ⟨g1, hg1⟩ : ∃ z, w.heap.size = z := ⟨_, rfl⟩
 rw [hg1] at k1 ⊢
 have hr := HR.out.later hl
 have R1 : ∀ w', Lat W w' → w'.rangeAt g1 0 [.bool b, .slice A n c] := fun w' hl => (k1.later hl).rangeAll
 have J85 : (Tryz.prog.info? 79).map (·.size) = some 2 := by kernel_rfl
 have HO1 : Hid (∀ b2 A2 n2 c2 w, Lat W w → Rg w b2 A2 n2 c2 (-9223372036854775808) → n2 ≤ 2 → Calls Tryz.prog 75 #[.agg #[.bool b, .slice A n c], .agg #[.bool b2, .slice A2 n2 c2]] w (fun e w' => e = .returned (.int .i64 o1) ∧ Lat w w')) := fun b2 A2 n2 c2 w hl2 h h' => by
  have := zbl b A n c z b2 A2 n2 c2 _ w (hr.later hl2) h HN.out (by omega)
  rwa [HD1.out] at this
 have HO2 : Hid (∀ b2 A2 n2 c2 w, Lat W w → Rg w b2 A2 n2 c2 9223372036854775807 → n2 ≤ 2 → Calls Tryz.prog 75 #[.agg #[.bool b, .slice A n c], .agg #[.bool b2, .slice A2 n2 c2]] w (fun e w' => e = .returned (.int .i64 o2) ∧ Lat w w')) := fun b2 A2 n2 c2 w hl2 h h' => by
  have := zbl b A n c z b2 A2 n2 c2 _ w (hr.later hl2) h HN.out (by omega)
  rwa [HD2.out] at this
 clear hs hg1
 go_upto_region 1 with (fail)
 rename_i KN hKN
 refine zae (zed b A n c g1 o1 o2) (zgH b A n c g1 o1 o2) 39 10 [[], [], [0, 1, 1], [2], [3, 2], [4], [4, 4], [5, 6, 6, 4], [7, 4], [4, 8]] (by kernel_rfl) (by kernel_rfl) (by kernel_rfl) (by kernel_rfl) (by kernel_rfl) (by kernel_rfl) (by rfl) rfl (base_of (by repeat (first | exact base_nil _ | refine zad rfl ?_))) (zi9 W b A n c g1 o1 o2 R1 J85 HL1.out HL2.out HO1.out HO2.out h1 h2) ?_
 ·intro a9 W9 hsz9 hdf9 hL9 hbs hsl
  obtain ⟨v9, h9, q9⟩ := hsl 9 _ _ rfl rfl
  obtain rfl : v9 = .bool false := q9
  have w15 := zaa h9
  clear h9
  refine hKN _ _ ?_
  obtain ⟨T9, df9⟩ := a9
  obtain rfl : df9 = [] := hdf9
  obtain ⟨f, hf, rfl⟩ := zhw T9 hsz9
  have XX := fun k v h => (hf k).trans (zaa (hbs k v h))
  have x0 : f 0 = .agg #[.bool b, .slice A n c] := XX 0 _ rfl
  have x1 : f 1 = .pointer (some ⟨g1, 0, none⟩) := XX 1 _ rfl
  have x2 : f 2 = .int .i64 0 := XX 2 _ rfl
  have x3 : f 3 = .int .i64 0 := XX 3 _ rfl
  have x15 := (hf 15).trans w15
  clear XX hbs hsl hf hsz9 hKN w15
  simp only [x0, x1, x2, x3, x15]
  clear x0 x1 x2 x3 x15
  have LF := hl.trans hL9
  have kk := k1.later hL9
  have hr9 := hr.later hL9
  clear R1 J85 HO1 HO2 hr k1 hl hL9 HL1 HL2 HR
  obtain ⟨Wc, rfl⟩ : ∃ z, z = W9 := ⟨_, rfl⟩
  have c0 := kk.cell 0
  have c1 := kk.cell 1
  obtain ⟨hnc, xs, hs, hx, hnz, hb, hzv⟩ := hr9
  have hv0 := zaj zak hx
  have hvb : val B32 xs ≤ 9223372036854775808 := by
   have := HZ0.out
   have := HZ1.out
   cases b <;> simp [sgn] at hzv <;> omega
  have HS := Lib.hid hs
  have HX := Lib.hid hx
  have HV := Lib.hid hvb
  have HZV := Lib.hid hzv
  have HBX := Lib.hid hb
  have HNZ := Lib.hid hnz
  have hlen := hs.1
  have HLN := Lib.hid hlen
  clear hs hx hvb hzv hb hnz hlen hv0
  have HN9 := HN.out
  have wsub : wrap64 ((n : Int) - 1) = (n : Int) - 1 := IntWalk.wrap64_in _ (by omega)
  go_wp2
  go_loopw [4, 5] (fun u i wr => ∃ k : Nat, k ≤ n ∧ i = .int .i64 ((k : Int) - 1) ∧ u = .int .u64 (val B32 (xs.drop k)) ∧ wr = Wc) (fun _ i _ => (intOf i + 1).toNat)
  case atStart => exact ⟨n, Nat.le_refl _, rfl, (by rw [List.drop_of_length_le (by have := HLN.out; omega)]; rfl), rfl⟩
  case round =>
   obtain ⟨k, hk, rfl, rfl, rfl⟩ := hrel
   rcases Nat.eq_zero_or_pos k with rfl | hp
   ·rw [List.drop_zero]
    obtain ⟨u, hu⟩ : ∃ u, val B32 xs = u := ⟨_, rfl⟩
    have hzv := HZV.out
    have hvb := HV.out
    have hv0 := zaj zak HX.out
    rw [hu] at hzv hvb hv0 ⊢
    cases b with
    | false =>
      have hwz : IntKind.i64.wrap u = z := by
       simp only [sgn, Bool.false_eq_true, if_false] at hzv
       rw [hzv]
       exact IntWalk.i64_in _ (by have := HZ1.out; omega)
      clear hzv hvb hv0 hu
      go_wp2
      go_ret2
      exact ⟨rfl, LF⟩
    | true =>
      have hpos := zaX zak HX.out HNZ.out (HBX.out rfl)
      rw [hu] at hpos
      obtain ⟨M, hM, hMz⟩ := zjc hpos hvb
      have hwz : IntKind.i64.wrap M = z := by
       simp only [sgn, if_true] at hzv
       rw [hzv]; exact hMz
      clear hzv hvb hv0 hu hpos hMz
      go_wp2
      go_ret2
      exact ⟨rfl, LF⟩
   ·obtain ⟨j, rfl⟩ : ∃ j, k = j + 1 := ⟨k - 1, by omega⟩
    obtain ⟨a, x, rfl, ha, hxk, hcell⟩ := HS.out.at (i := j) (by omega)
    have hrx := HX.out.at hxk
    have hvd := zfI (B := B32) hxk
    have hsp := zcW B32 xs j (by have := HLN.out; omega)
    have h3 := zaj zak (HX.out.take j)
    have h4 := zaj zak (HX.out.drop (j + 1))
    have h5 := zaj zak (HX.out.drop j)
    have h6 : val B32 (xs.drop j) ≤ val B32 xs := by
     have h7 : 1 * val B32 (xs.drop j) ≤ B32 ^ j * val B32 (xs.drop j) := Int.mul_le_mul_of_nonneg_right (by have := zce zak j; omega) h5
     omega
    obtain ⟨u, hu⟩ : ∃ u, val B32 (xs.drop (j + 1)) = u := ⟨_, rfl⟩
    obtain ⟨y, hy⟩ : ∃ u, val B32 (xs.drop j) = u := ⟨_, rfl⟩
    have hvv := HV.out
    rw [hu] at hvd h4 ⊢
    rw [hy] at hvd h5 h6
    have hB : B32 = 4294967296 := rfl
    rw [hB] at hvd hrx
    have ej : (((j + 1 : Nat) : Int) - 1) = (j : Int) := by omega
    rw [ej]
    have w1 : IntKind.u64.wrap (u * 4294967296) = u * 4294967296 := by rw [IntKind.wrap_u64]; omega
    have w2 : IntKind.u64.wrap x = x := by rw [IntKind.wrap_u64]; omega
    have w3 : IntKind.u64.wrap (u * 4294967296 + x) = y := by rw [IntKind.wrap_u64]; omega
    have w4 : wrap64 ((j : Int) - 1) = (j : Int) - 1 := IntWalk.wrap64_in _ (by omega)
    have b1 : (j : Int) < (n : Int) := by omega
    have b0 : (0 : Int) ≤ (j : Int) := by omega
    have HY := Lib.hid hy
    have HK := Lib.hid hk
    clear hvd hsp h3 h4 h5 h6 hvv hB hu hy ej hrx hxk hp hk
    go_wp2
    go_roundw
    case rel => exact ⟨j, by have := HK.out; omega, rfl, by rw [HY.out], by first | rfl | trivial⟩
    case measure => simp [intOf]
theorem zck (b : Bool) (A : Option Addr) (n c : Nat) (z : Int) (w : World) (h : Rg w b A n c z) (hn : n ≤ 1000000) :
  Calls Tryz.prog 31 #[.agg #[.bool b, .slice A n c]] w (fun e w' => e = .returned (.tuple #[.int .i64 (zeR z), .int .i64 (zdM z)]) ∧ Lat w w') := by
 unfold zeR zdM
 by_cases h1 : z < -9223372036854775808
 ·rw [if_neg (by omega), if_neg (by omega)]
  exact zja b A n c z w h hn h1
 ·by_cases h2 : 9223372036854775807 < z
  ·rw [if_neg (by omega), if_neg (by omega)]
   exact zjb b A n c z w h hn h2
  ·rw [if_pos (by omega), if_pos (by omega)]
   exact zjd b A n c z w h hn (by omega) (by omega)
end Go.Proofs.YtpmbglhbcjbkcaaGreat
