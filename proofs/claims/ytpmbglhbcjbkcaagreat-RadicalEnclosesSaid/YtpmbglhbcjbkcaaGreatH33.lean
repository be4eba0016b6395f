/- Several texts in one: RdIs. -/
import Derived.Deep.DeepCutAuto
import Derived.Test.YtpmbglhbcjbkcaaGreatH30
import Derived.Test.YtpmbglhbcjbkcaaGreatH32
namespace Go.Proofs.YtpmbglhbcjbkcaaGreat
set_option maxHeartbeats 16000000
set_option maxRecDepth 100000
open Go.RowKit
set_option linter.unusedSimpArgs false
set_option linter.unusedVariables false
theorem zik {P : Program} {o : Oper} {a : Act} {K : Act → World → Prop} {Q : Exit → Act → World → Prop} (s x : Operand) (t : TypeId)
  (ho : o.op = .call { callee := .builtin .append, args := #[s, x], argTypes := #[t, t] })
  (B : Nat) (E T : TypeId) (z : Value) (m by_ : Nat) (ht : P.underlying t = some (.slice E)) (hinfo : (P.info? E).map (fun i => (i.zero, i.size, i.bytes)) = some (some z, m, by_)) (hz : z.cells.size = m) (hm : 0 < m) (hby : by_ ≤ 1000)
  (v : Value) (xs : List (List Value)) (y : List Value) (hys : ∀ u ∈ y, u.oneCell' = true) (w : World) (g : Nat) (hs : a.eval s = v) (hown : OwnM w B E m v xs) (hb : Blk w g T y.toArray)
  (hy : y.length = m) (c : Nat) (hx : a.eval x = .slice (some ⟨g, 0, none⟩) 1 c) (hlen : xs.length ≤ 100000000) (hB : B ≤ w.heap.size)
  (h : ∀ v' w', OwnM w' B E m v' (xs ++ [y]) → w.grownBy w' v.ownBlock → (∀ W0, Lat W0 w → W0.heap.size ≤ B → Lat W0 w') → K (a.put o.dst v') w') : o.wp P a w K Q := by
 obtain ⟨i0, hi, hz0, hz1, hz2⟩ := info_parts hinfo
 refine wp_append_own w s x t ho B E i0 z m by_ ht hi hz0 hz1 hz2 hz hm v xs.length _ hs hown.2 ⟨g, 0, none⟩ 1 c y hx (by omega) ?_ hys ?_ ?_ hB ?_
 ·intro j u hu
  have e : (⟨g, 0, none⟩ : Addr).add j = ⟨g, j, none⟩ := by unfold Addr.add; split <;> simp_all
  rw [e, hb.cell j]
  simpa using hu
 ·unfold maxLen; omega
 ·have := Nat.mul_le_mul_left (xs.length + 1) hby; omega
 ·intro v' w' h1 h2 _
  refine h v' w' ⟨fun u hu => ?_, ?_⟩ h2 (fun W0 hl hle => OwnM.lat hown hl hle h2)
  ·rcases List.mem_append.1 hu with hu | hu
   ·exact hown.1 u hu
   ·rw [List.mem_singleton] at hu; subst hu; exact hy
  ·rw [List.length_append, List.flatten_append]
   simpa using h1
def zep : List (Int × Int) → List Int
 | [] => []
 | x :: r => x.1 :: x.2 :: zep r
theorem zfW : ∀ {L : List (Int × Int)} {k : Nat} {x : Int × Int}, L[k]? = some x → (zep L)[2 * k]? = some x.1 ∧ (zep L)[2 * k + 1]? = some x.2
 | [], k, x, h => by simp at h
 | y :: r, 0, x, h => by simp at h; subst h; exact ⟨rfl, rfl⟩
 | y :: r, k + 1, x, h => by
   have := zfW (L := r) (k := k) (x := x) (by simpa using h)
   rw [show 2 * (k + 1) = 2 * k + 1 + 1 by omega]
   simpa [zep] using this
theorem zoo {o : Oper} {a : Act} {w : World} {K : Act → World → Prop} {Q : Exit → Act → World → Prop} (x y : Operand) (ho : o.op = .store 27 x y) (g : Nat) {A : Option Addr} {n c : Nat} {old : Value} (hx : a.eval x = .pointer (some ⟨g, 0, none⟩)) (hy : a.eval y = .slice A n c) (hc : w.cell? ⟨g, 0, none⟩ = some old) (hf : w.frozen? ⟨g, 0, none⟩ = false)
  (h : K (a.put o.dst undef) (w.setCell ⟨g, 0, none⟩ (.slice A n c))) : o.wp Tryz.prog a w K Q := by
 obtain ⟨d, op, ty, p, af, gg⟩ := o
 simp only at ho
 subst ho
 unfold Oper.wp execOp
 generalize he : a.eval = ev at hx hy
 simp only [hx, hy]
 go_simp
 exact h
theorem zjm {P : Program} {o : Oper} {a : Act} {W : World} {K : Act → World → Prop} {Q : Exit → Act → World → Prop} {x : Operand} {d : Tmp} {v : Value} (ho : o.op = .assign x) (hd : o.dst = some d) (hx : a.eval x = v) (h : K (a.put (some d) v) W) : o.wp P a W K Q := by
 unfold Oper.wp
 rw [zd9 hx o ho, Oper.upon_value, hd]
 exact h
theorem zkJ (T : Array Value) (h : T.size = 26) : ∃ f : Nat → Value, (∀ k, f k = T.getD k undef) ∧ T = #[f 0, f 1, f 2, f 3, f 4, f 5, f 6, f 7, f 8, f 9, f 10, f 11, f 12, f 13, f 14, f 15, f 16, f 17, f 18, f 19, f 20, f 21, f 22, f 23, f 24, f 25] := ⟨fun k => T.getD k undef, fun _ => rfl, (spell 26 T h).trans (by kernel_rfl)⟩
noncomputable def zfX (gq n c j i : Nat) (t u : Int) (ov : Value) : List SRow := [
 ⟨.move (.tmp 3), some 12, none, [], fun v _ => v = ov⟩,
 ⟨.move (.tmp 0), some 13, none, [], fun v _ => v = .slice (some ⟨gq, 0, none⟩) n c⟩,
 ⟨.move (.tmp 4), some 14, none, [], fun v _ => v = .int .i64 (j : Nat)⟩,
 ⟨.indexAddr 77 (.tmp 13) (.tmp 14), some 15, none, [1, 2], fun v _ => v = .pointer (some ⟨gq, j, none⟩)⟩,
 ⟨.load 3 (.tmp 15), some 16, none, [3], fun v _ => v = .int .i64 t⟩,
 ⟨.move (.tmp 0), some 17, none, [], fun v _ => v = .slice (some ⟨gq, 0, none⟩) n c⟩,
 ⟨.move (.tmp 4), some 18, none, [], fun v _ => v = .int .i64 (j : Nat)⟩,
 ⟨.binOp .add 3 (.tmp 18) (.const (.int .i64 1)) 3, some 19, none, [6], fun v _ => v = .int .i64 (i : Nat)⟩,
 ⟨.indexAddr 77 (.tmp 17) (.tmp 19), some 20, none, [5, 7], fun v _ => v = .pointer (some ⟨gq, i, none⟩)⟩,
 ⟨.load 3 (.tmp 20), some 21, none, [8], fun v _ => v = .int .i64 u⟩,
 ⟨.build 72 #[(0, .tmp 16), (1, .tmp 21)], some 22, none, [4, 9], fun v _ => v = .agg #[.int .i64 t, .int .i64 u]⟩,
 ⟨.buildSlice 27 1 #[(0, .tmp 22)], some 23, none, [10], fun v w => ∃ q : Nat, v = .slice (some ⟨q, 0, none⟩) 1 1 ∧ Blk w q 72 #[.int .i64 t, .int .i64 u]⟩]
noncomputable def zil (gq n c j i : Nat) (t u : Int) (ov : Value) (v1 v2 v5 v6 v7 v8 v9 v10 v11 v24 v25 : Value) : List (Nat × Value) := [(0, .slice (some ⟨gq, 0, none⟩) n c), (3, ov), (4, .int .i64 (j : Nat)), (1, v1), (2, v2), (5, v5), (6, v6), (7, v7), (8, v8), (9, v9), (10, v10), (11, v11), (24, v24), (25, v25)]
theorem zkK (V : World) (gq n c j i : Nat) (t u : Int) (ov : Value) (v1 v2 v5 v6 v7 v8 v9 v10 v11 v24 v25 : Value) (hj1 : j < n) (hi1 : i < n) (hji : IntKind.i64.wrap ((j : Int) + 1) = (i : Int)) (HT : ∀ w', Lat V w' → w'.cell? ⟨gq, j, none⟩ = some (.int .i64 t)) (HU : ∀ w', Lat V w' → w'.cell? ⟨gq, i, none⟩ = some (.int .i64 u)) :
  AllSteps Tryz.prog (zfX gq n c j i t u ov) (zil gq n c j i t u ov v1 v2 v5 v6 v7 v8 v9 v10 v11 v24 v25) V (zfX gq n c j i t u ov) := by
 refine nS ?_ fun a w hl hb hd o ho => by have e1 := hb 3 _ rfl; exact rp1 o ho e1 fun ev ec e1 d ty p af g => by unfold execOp; simp only [e1, ec]; go_simp
 refine nS ?_ fun a w hl hb hd o ho => by have e1 := hb 0 _ rfl; exact rp1 o ho e1 fun ev ec e1 d ty p af g => by unfold execOp; simp only [e1, ec]; go_simp
 refine nS ?_ fun a w hl hb hd o ho => by have e1 := hb 4 _ rfl; exact rp1 o ho e1 fun ev ec e1 d ty p af g => by unfold execOp; simp only [e1, ec]; go_simp
 refine nS ?_ fun a w hl hb hd o ho => by obtain ⟨_, e1, rfl⟩ := hd 1 _ _ (by simp) rfl rfl; obtain ⟨_, e2, rfl⟩ := hd 2 _ _ (by simp) rfl rfl; exact rp2 o ho e1 e2 fun ev ec e1 e2 d ty p af g => by unfold execOp; simp only [e1, e2, ec]; have b1 := hj1; go_simp
 refine nS ?_ fun a w hl hb hd o ho => by obtain ⟨_, e1, rfl⟩ := hd 3 _ _ (by simp) rfl rfl; exact rp1 o ho e1 fun ev ec e1 d ty p af g => by unfold execOp; simp only [e1, ec]; have hc := HT w hl; go_simp
 refine nS ?_ fun a w hl hb hd o ho => by have e1 := hb 0 _ rfl; exact rp1 o ho e1 fun ev ec e1 d ty p af g => by unfold execOp; simp only [e1, ec]; go_simp
 refine nS ?_ fun a w hl hb hd o ho => by have e1 := hb 4 _ rfl; exact rp1 o ho e1 fun ev ec e1 d ty p af g => by unfold execOp; simp only [e1, ec]; go_simp
 refine nS ?_ fun a w hl hb hd o ho => by obtain ⟨_, e1, rfl⟩ := hd 6 _ _ (by simp) rfl rfl; exact rp1 o ho e1 fun ev ec e1 d ty p af g => by unfold execOp; simp only [e1, ec]; have b1 := hji; go_simp
 refine nS ?_ fun a w hl hb hd o ho => by obtain ⟨_, e1, rfl⟩ := hd 5 _ _ (by simp) rfl rfl; obtain ⟨_, e2, rfl⟩ := hd 7 _ _ (by simp) rfl rfl; exact rp2 o ho e1 e2 fun ev ec e1 e2 d ty p af g => by unfold execOp; simp only [e1, e2, ec]; have b1 := hi1; go_simp
 refine nS ?_ fun a w hl hb hd o ho => by obtain ⟨_, e1, rfl⟩ := hd 8 _ _ (by simp) rfl rfl; exact rp1 o ho e1 fun ev ec e1 d ty p af g => by unfold execOp; simp only [e1, ec]; have hc := HU w hl; go_simp
 refine nS ?_ fun a w hl hb hd o ho => by obtain ⟨_, e1, rfl⟩ := hd 4 _ _ (by simp) rfl rfl; obtain ⟨_, e2, rfl⟩ := hd 9 _ _ (by simp) rfl rfl; exact rp2 o ho e1 e2 fun ev ec e1 e2 d ty p af g => by unfold execOp; simp only [e1, e2, ec]; go_simp
 refine AllSteps.next (fun v w w' h l => by obtain ⟨q, h1, h2⟩ := h; exact ⟨q, h1, h2.later l⟩) (fun j b h => by cases h) (fun a w hl hb hd o ho => by obtain ⟨_, e1, rfl⟩ := hd 10 _ _ (by simp) rfl rfl; obtain ⟨d, op, ty, p, af, gg⟩ := o; simp only at ho; subst ho; have ec : ∀ v, a.eval (.const v) = v := fun _ => rfl; exact Runs.new (w' := w.alloc (.cells #[.int .i64 t, .int .i64 u] 72)) (by unfold execOp; generalize a.eval = ev at e1 ec ⊢; simp only [e1]; go_simp) ⟨Lat.alloc _ _, fun _ => ⟨_, rfl, Blk.new _ _ _⟩⟩) ?_
 exact AllSteps.none
noncomputable def zfY (gq n c j i : Nat) (t u : Int) (ov : Value) (g3 : Nat) : List SRow := [
 ⟨.load 27 (.tmp 3), some 12, none, [], fun v _ => v = ov⟩,
 ⟨.move (.tmp 0), some 13, none, [], fun v _ => v = .slice (some ⟨gq, 0, none⟩) n c⟩,
 ⟨.move (.tmp 4), some 14, none, [], fun v _ => v = .int .i64 (j : Nat)⟩,
 ⟨.indexAddr 77 (.tmp 13) (.tmp 14), some 15, none, [1, 2], fun v _ => v = .pointer (some ⟨gq, j, none⟩)⟩,
 ⟨.load 3 (.tmp 15), some 16, none, [3], fun v _ => v = .int .i64 t⟩,
 ⟨.move (.tmp 0), some 17, none, [], fun v _ => v = .slice (some ⟨gq, 0, none⟩) n c⟩,
 ⟨.move (.tmp 4), some 18, none, [], fun v _ => v = .int .i64 (j : Nat)⟩,
 ⟨.binOp .add 3 (.tmp 18) (.const (.int .i64 1)) 3, some 19, none, [6], fun v _ => v = .int .i64 (i : Nat)⟩,
 ⟨.indexAddr 77 (.tmp 17) (.tmp 19), some 20, none, [5, 7], fun v _ => v = .pointer (some ⟨gq, i, none⟩)⟩,
 ⟨.load 3 (.tmp 20), some 21, none, [8], fun v _ => v = .int .i64 u⟩,
 ⟨.build 72 #[(0, .tmp 16), (1, .tmp 21)], some 22, none, [4, 9], fun v _ => v = .agg #[.int .i64 t, .int .i64 u]⟩,
 ⟨.buildSlice 27 1 #[(0, .tmp 22)], some 23, none, [10], fun v w => ∃ q : Nat, v = .slice (some ⟨q, 0, none⟩) 1 1 ∧ Blk w q 72 #[.int .i64 t, .int .i64 u]⟩]
noncomputable def zim (gq n c j i : Nat) (t u : Int) (ov : Value) (g3 : Nat) (v1 v2 v5 v6 v7 v8 v9 v10 v11 v24 v25 : Value) : List (Nat × Value) := [(0, .slice (some ⟨gq, 0, none⟩) n c), (3, .pointer (some ⟨g3, 0, none⟩)), (4, .int .i64 (j : Nat)), (1, v1), (2, v2), (5, v5), (6, v6), (7, v7), (8, v8), (9, v9), (10, v10), (11, v11), (24, v24), (25, v25)]
theorem zkL (V : World) (gq n c j i : Nat) (t u : Int) (ov : Value) (g3 : Nat) (v1 v2 v5 v6 v7 v8 v9 v10 v11 v24 v25 : Value) (hj1 : j < n) (hi1 : i < n) (hji : IntKind.i64.wrap ((j : Int) + 1) = (i : Int)) (HT : ∀ w', Lat V w' → w'.cell? ⟨gq, j, none⟩ = some (.int .i64 t)) (HU : ∀ w', Lat V w' → w'.cell? ⟨gq, i, none⟩ = some (.int .i64 u)) (H3 : ∀ w', Lat V w' → w'.cell? ⟨g3, 0, none⟩ = some ov) :
  AllSteps Tryz.prog (zfY gq n c j i t u ov g3) (zim gq n c j i t u ov g3 v1 v2 v5 v6 v7 v8 v9 v10 v11 v24 v25) V (zfY gq n c j i t u ov g3) := by
 refine nS ?_ fun a w hl hb hd o ho => by have e1 := hb 3 _ rfl; exact rp1 o ho e1 fun ev ec e1 d ty p af g => by unfold execOp; simp only [e1, ec]; have hc := H3 w hl; go_simp
 refine nS ?_ fun a w hl hb hd o ho => by have e1 := hb 0 _ rfl; exact rp1 o ho e1 fun ev ec e1 d ty p af g => by unfold execOp; simp only [e1, ec]; go_simp
 refine nS ?_ fun a w hl hb hd o ho => by have e1 := hb 4 _ rfl; exact rp1 o ho e1 fun ev ec e1 d ty p af g => by unfold execOp; simp only [e1, ec]; go_simp
 refine nS ?_ fun a w hl hb hd o ho => by obtain ⟨_, e1, rfl⟩ := hd 1 _ _ (by simp) rfl rfl; obtain ⟨_, e2, rfl⟩ := hd 2 _ _ (by simp) rfl rfl; exact rp2 o ho e1 e2 fun ev ec e1 e2 d ty p af g => by unfold execOp; simp only [e1, e2, ec]; have b1 := hj1; go_simp
 refine nS ?_ fun a w hl hb hd o ho => by obtain ⟨_, e1, rfl⟩ := hd 3 _ _ (by simp) rfl rfl; exact rp1 o ho e1 fun ev ec e1 d ty p af g => by unfold execOp; simp only [e1, ec]; have hc := HT w hl; go_simp
 refine nS ?_ fun a w hl hb hd o ho => by have e1 := hb 0 _ rfl; exact rp1 o ho e1 fun ev ec e1 d ty p af g => by unfold execOp; simp only [e1, ec]; go_simp
 refine nS ?_ fun a w hl hb hd o ho => by have e1 := hb 4 _ rfl; exact rp1 o ho e1 fun ev ec e1 d ty p af g => by unfold execOp; simp only [e1, ec]; go_simp
 refine nS ?_ fun a w hl hb hd o ho => by obtain ⟨_, e1, rfl⟩ := hd 6 _ _ (by simp) rfl rfl; exact rp1 o ho e1 fun ev ec e1 d ty p af g => by unfold execOp; simp only [e1, ec]; have b1 := hji; go_simp
 refine nS ?_ fun a w hl hb hd o ho => by obtain ⟨_, e1, rfl⟩ := hd 5 _ _ (by simp) rfl rfl; obtain ⟨_, e2, rfl⟩ := hd 7 _ _ (by simp) rfl rfl; exact rp2 o ho e1 e2 fun ev ec e1 e2 d ty p af g => by unfold execOp; simp only [e1, e2, ec]; have b1 := hi1; go_simp
 refine nS ?_ fun a w hl hb hd o ho => by obtain ⟨_, e1, rfl⟩ := hd 8 _ _ (by simp) rfl rfl; exact rp1 o ho e1 fun ev ec e1 d ty p af g => by unfold execOp; simp only [e1, ec]; have hc := HU w hl; go_simp
 refine nS ?_ fun a w hl hb hd o ho => by obtain ⟨_, e1, rfl⟩ := hd 4 _ _ (by simp) rfl rfl; obtain ⟨_, e2, rfl⟩ := hd 9 _ _ (by simp) rfl rfl; exact rp2 o ho e1 e2 fun ev ec e1 e2 d ty p af g => by unfold execOp; simp only [e1, e2, ec]; go_simp
 refine AllSteps.next (fun v w w' h l => by obtain ⟨q, h1, h2⟩ := h; exact ⟨q, h1, h2.later l⟩) (fun j b h => by cases h) (fun a w hl hb hd o ho => by obtain ⟨_, e1, rfl⟩ := hd 10 _ _ (by simp) rfl rfl; obtain ⟨d, op, ty, p, af, gg⟩ := o; simp only at ho; subst ho; have ec : ∀ v, a.eval (.const v) = v := fun _ => rfl; exact Runs.new (w' := w.alloc (.cells #[.int .i64 t, .int .i64 u] 72)) (by unfold execOp; generalize a.eval = ev at e1 ec ⊢; simp only [e1]; go_simp) ⟨Lat.alloc _ _, fun _ => ⟨_, rfl, Blk.new _ _ _⟩⟩) ?_
 exact AllSteps.none
theorem r_lit (gq n c : Nat) (L : List (Int × Int)) (w : World) (hb : Blk w gq 3 (nums .i64 (zep L))) (hn : n = 2 * L.length) (hM : L.length ≤ 1000) :
  Calls Tryz.prog 18 #[.slice (some ⟨gq, 0, none⟩) n c] w (fun e w' => ∃ v, e = .returned v ∧ OwnM w' w.heap.size 72 2 v (zab L) ∧ Lat w w') := by
 have HB := Lib.hid (fun w' (h : Lat w w') (i : Nat) (z : Int) (hz : (zep L)[i]? = some z) => show w'.cell? ⟨gq, i, none⟩ = some (.int .i64 z) by rw [(hb.later h).cell i]; exact zbO hz)
 have HNN := Lib.hid hn
 have HM := Lib.hid hM
 obtain ⟨B0, hB0⟩ : ∃ z, w.heap.size = z := ⟨_, rfl⟩
 have HB0 : Hid (B0 ≤ w.heap.size) := Nat.le_of_eq hB0.symm
 have HBE : Hid (w.heap.size = B0) := hB0
 rw [hB0]
 clear hb hn hM hB0
 go_enter Tryz.func18, Tryz.ntmps18
 go_wp2
 go_loopw [3, 4] (fun ov iv wr => ∃ (k j : Nat) (v : Value), Hid (k ≤ L.length) ∧ Hid (j = 2 * k) ∧ v = ov ∧ iv = .int .i64 (j : Nat) ∧ OwnM wr B0 72 2 v (zab (L.take k)) ∧ Lat w wr) (fun _ iv _ => n - (RowKit.intOf iv).toNat)
 case atStart => exact ⟨0, 0, .slice none 0 0, Nat.zero_le _, rfl, rfl, rfl, OwnM.nil _ _ _ _, Lat.refl _⟩
 case round =>
  obtain ⟨k, j, ov, hk, HJ, hov, rfl, hO, L0⟩ := hrel
  subst hov
  by_cases hkm : k < L.length
  ·obtain ⟨x, hx⟩ : ∃ x, L[k]? = some x := ⟨_, List.getElem?_eq_getElem hkm⟩
   obtain ⟨f1, f2⟩ := zfW hx
   have htk : zab (L.take (k + 1)) = zab (L.take k) ++ [[.int .i64 x.1, .int .i64 x.2]] := by
    obtain ⟨h1, h2⟩ := List.getElem?_eq_some_iff.1 hx
    rw [List.take_succ_eq_append_getElem h1, h2]
    simp [zab, zji]
   have HTK := Lib.hid htk
   have HKM := Lib.hid hkm
   obtain ⟨i, hi⟩ : ∃ i, j + 1 = i := ⟨_, rfl⟩
   obtain ⟨j2, hj2⟩ : ∃ i, j + 2 = i := ⟨_, rfl⟩
   have HJ2 := Lib.hid hj2
   have hj1 : j < n := by have := HJ.out; have := HNN.out; omega
   have hi1 : i < n := by have := HJ.out; have := HNN.out; omega
   have hji : IntKind.i64.wrap ((j : Int) + 1) = (i : Int) := by rw [← hi]; exact IntWalk.i64_in _ ⟨by omega, by have := HM.out; have := HJ.out; omega⟩
   have hjw : wrap64 ((j : Int) + 1) = (i : Int) := by rw [← hi]; exact IntWalk.wrap64_in _ ⟨by omega, by have := HM.out; have := HJ.out; omega⟩
   have hjw2 : wrap64 ((j : Int) + 2) = (j2 : Int) := by rw [← hj2]; exact IntWalk.wrap64_in _ ⟨by omega, by have := HM.out; have := HJ.out; omega⟩
   have hgo : (i : Int) < (n : Int) := by omega
   rw [← HJ.out] at f1 f2
   rw [hi] at f2
   obtain ⟨V0, rfl⟩ : ∃ z, z = wr := ⟨_, rfl⟩
   have HT : ∀ w', Lat V0 w' → w'.cell? ⟨gq, j, none⟩ = some (.int .i64 x.1) := fun w' hl => HB.out w' (L0.trans hl) _ _ f1
   have HU : ∀ w', Lat V0 w' → w'.cell? ⟨gq, i, none⟩ = some (.int .i64 x.2) := fun w' hl => HB.out w' (L0.trans hl) _ _ f2
   clear htk hkm f1 f2 hx hk hi hj2
   go_upto_region 5 with (fail)
   rename_i KN hKN
   refine zau (zfX gq n c j i x.1 x.2 ov) (zil gq n c j i x.1 x.2 ov _ _ _ _ _ _ _ _ _ _ _) 26 12 [[], [], [], [1, 2], [3], [], [], [6], [5, 7], [8], [4, 9], [10], [0, 11], [12, 12, 0, 1, 2, 3, 4, 5, 6, 7, 8, 9, 10, 11, 12]] (by kernel_rfl) _ rfl rfl _ rfl rfl (by kernel_rfl) (by kernel_rfl) (by kernel_rfl) (by kernel_rfl) (by kernel_rfl) (by kernel_rfl) (by kernel_rfl) (by rfl) rfl (base_of (by repeat (first | exact base_nil _ | refine zad rfl ?_))) (zkK V0 gq n c j i x.1 x.2 ov _ _ _ _ _ _ _ _ _ _ _ hj1 hi1 hji HT HU) ?_
   intro a9 W9 hsz9 hdf9 hL9 hbs hsl
   obtain ⟨v8, h8, q8⟩ := hsl 0 _ _ rfl rfl
   have hv8 : v8 = ov := q8
   rw [hv8] at h8
   clear hv8
   obtain ⟨v9, h9, q9⟩ := hsl 11 _ _ rfl rfl
   obtain ⟨gn, rfl, kn⟩ := q9
   refine zik (.tmp 12) (.tmp 23) 27 rfl B0 72 72 (.agg #[.int .i64 0, .int .i64 0]) 2 16 Tryz.underlying27 zaS rfl (by decide) (by decide) ov (zab (L.take k)) [.int .i64 x.1, .int .i64 x.2] (by simp [Value.oneCell']) W9 gn h8.ev (hO.later hL9) kn rfl 1 h9.ev (by rw [zam, List.length_take]; have := HM.out; omega) (Nat.le_trans HB0.out (L0.trans hL9).size) ?_
   intro v' w' hO2 hg2 hlat
   refine zjm (v := v') (a := a9.put (some 24) v') rfl rfl (by simp [Act.eval, Act.put, hsz9]) ?_
   refine hKN _ _ ?_
   have hLw := hlat w (L0.trans hL9) (Nat.le_of_eq HBE.out)
   obtain ⟨T9, df9⟩ := a9
   obtain rfl : df9 = [] := hdf9
   obtain ⟨f, hf, rfl⟩ := zkJ T9 hsz9
   have X9 := fun k v h => (hf k).trans (zaa (hbs k v h))
   clear hbs hsl hf hsz9 hKN h8 h9
   simp only [Act.put, List.setIfInBounds_toArray, List.set_cons_zero, List.set_cons_succ, X9 0 _ rfl, X9 4 _ rfl, X9 1 _ rfl, X9 2 _ rfl, X9 5 _ rfl, X9 6 _ rfl, X9 7 _ rfl, X9 8 _ rfl, X9 9 _ rfl, X9 10 _ rfl, X9 11 _ rfl, X9 24 _ rfl, X9 25 _ rfl]
   clear X9
   rw [← HTK.out] at hO2
   have HO2 := Lib.hid hO2
   clear hO hO2 L0 hg2 hlat kn hL9 HT HU
   go_wp2
   go_roundw
   case rel => exact ⟨k + 1, j2, v', HKM.out, (by have := HJ.out; have := HJ2.out; show j2 = 2 * (k + 1); omega), rfl, by rw [hjw2], HO2.out, hLw⟩
   case measure => (rw [hjw2]; have := HKM.out; have := HJ.out; have := HJ2.out; have := HNN.out; simp [RowKit.intOf]; omega)
  ·obtain rfl : k = L.length := by have := hk.out; omega
   rw [List.take_length] at hO
   obtain ⟨i, hi⟩ : ∃ i, j + 1 = i := ⟨_, rfl⟩
   have hjw : wrap64 ((j : Int) + 1) = (i : Int) := by rw [← hi]; exact IntWalk.wrap64_in _ ⟨by omega, by have := HM.out; have := HJ.out; omega⟩
   have hgo : ¬ (i : Int) < (n : Int) := by have := HJ.out; have := HNN.out; omega
   have HO := Lib.hid hO
   clear hkm hO hk hi
   go_wp2
   go_ret
   exact ⟨_, rfl, HO.out, L0⟩
theorem zop (gq n c : Nat) (L : List (Int × Int)) (w : World) (hb : Blk w gq 3 (nums .i64 (zep L))) (hn : n = 2 * L.length) (hM : L.length ≤ 1000) :
  Calls Tryz.prog 16 #[.slice (some ⟨gq, 0, none⟩) n c] w (fun e w' => ∃ (g3 : Nat) (v : Value), e = .returned (.func (.func 55) #[] #[.pointer (some ⟨g3, 0, none⟩)]) ∧ Blk w' g3 27 #[v] ∧ OwnM w' w.heap.size 72 2 v (zab L) ∧ Lat w w') := by
 have HB := Lib.hid (fun w' (h : Lat w w') (i : Nat) (z : Int) (hz : (zep L)[i]? = some z) => show w'.cell? ⟨gq, i, none⟩ = some (.int .i64 z) by rw [(hb.later h).cell i]; exact zbO hz)
 have HNN := Lib.hid hn
 have HM := Lib.hid hM
 clear hb hn hM
 go_enter Tryz.func16, Tryz.ntmps16
 go_upto_region 2 with (fail)
 refine zas (Q := fun W => Code.wp _ _ _ _ W) ?_
 intro W hl hsz k3
 obtain ⟨g3, hg3⟩ : ∃ z, w.heap.size = z := ⟨_, rfl⟩
 obtain ⟨B0, hB0⟩ : ∃ z, W.heap.size = z := ⟨_, rfl⟩
 have HG3 : Hid (g3 < B0) := by have := k3.lt; show g3 < B0; omega
 have HW3 : Hid (w.heap.size ≤ g3) := Nat.le_of_eq hg3
 have HWB : Hid (w.heap.size ≤ B0) := by show _ ≤ B0; omega
 have HB9 : Hid (B0 ≤ W.heap.size) := Nat.le_of_eq hB0.symm
 rw [hg3] at k3 ⊢
 have hO0 : OwnM W B0 72 2 (.slice none 0 0) (zab (L.take 0)) := OwnM.nil _ _ _ _
 clear hg3 hsz hB0
 go_wp2
 go_loopw [4] (fun iv wr => ∃ (k j : Nat) (v : Value), Hid (k ≤ L.length) ∧ Hid (j = 2 * k) ∧ iv = .int .i64 (j : Nat) ∧ OwnM wr B0 72 2 v (zab (L.take k)) ∧ Blk wr g3 27 #[v] ∧ Lat w wr ∧ Hid (B0 ≤ wr.heap.size)) (fun iv _ => n - (RowKit.intOf iv).toNat)
 case atStart => exact ⟨0, 0, .slice none 0 0, Nat.zero_le _, rfl, rfl, hO0, k3, hl, HB9⟩
 case round =>
  clear k3 hO0 hl
  obtain ⟨k, j, ov, hk, HJ, rfl, hO, k3, L0, hB9⟩ := hrel
  by_cases hkm : k < L.length
  ·obtain ⟨x, hx⟩ : ∃ x, L[k]? = some x := ⟨_, List.getElem?_eq_getElem hkm⟩
   obtain ⟨f1, f2⟩ := zfW hx
   have htk : zab (L.take (k + 1)) = zab (L.take k) ++ [[.int .i64 x.1, .int .i64 x.2]] := by
    obtain ⟨h1, h2⟩ := List.getElem?_eq_some_iff.1 hx
    rw [List.take_succ_eq_append_getElem h1, h2]
    simp [zab, zji]
   have HTK := Lib.hid htk
   have HKM := Lib.hid hkm
   obtain ⟨i, hi⟩ : ∃ i, j + 1 = i := ⟨_, rfl⟩
   obtain ⟨j2, hj2⟩ : ∃ i, j + 2 = i := ⟨_, rfl⟩
   have HJ2 := Lib.hid hj2
   have hj1 : j < n := by have := HJ.out; have := HNN.out; omega
   have hi1 : i < n := by have := HJ.out; have := HNN.out; omega
   have hji : IntKind.i64.wrap ((j : Int) + 1) = (i : Int) := by rw [← hi]; exact IntWalk.i64_in _ ⟨by omega, by have := HM.out; have := HJ.out; omega⟩
   have hjw : wrap64 ((j : Int) + 1) = (i : Int) := by rw [← hi]; exact IntWalk.wrap64_in _ ⟨by omega, by have := HM.out; have := HJ.out; omega⟩
   have hjw2 : wrap64 ((j : Int) + 2) = (j2 : Int) := by rw [← hj2]; exact IntWalk.wrap64_in _ ⟨by omega, by have := HM.out; have := HJ.out; omega⟩
   have hgo : (i : Int) < (n : Int) := by omega
   rw [← HJ.out] at f1 f2
   rw [hi] at f2
   obtain ⟨V0, rfl⟩ : ∃ z, z = wr := ⟨_, rfl⟩
   have HT : ∀ w', Lat V0 w' → w'.cell? ⟨gq, j, none⟩ = some (.int .i64 x.1) := fun w' hl => HB.out w' (L0.trans hl) _ _ f1
   have HU : ∀ w', Lat V0 w' → w'.cell? ⟨gq, i, none⟩ = some (.int .i64 x.2) := fun w' hl => HB.out w' (L0.trans hl) _ _ f2
   have H3 : ∀ w', Lat V0 w' → w'.cell? ⟨g3, 0, none⟩ = some ov := fun w' hl => (k3.later hl).cell 0
   clear htk hkm f1 f2 hx hk hi hj2
   go_upto_region 5 with (fail)
   rename_i KN hKN
   refine zau (zfY gq n c j i x.1 x.2 ov g3) (zim gq n c j i x.1 x.2 ov g3 _ _ _ _ _ _ _ _ _ _ _) 26 12 [[], [], [], [1, 2], [3], [], [], [6], [5, 7], [8], [4, 9], [10], [0, 11], [12, 12, 0, 1, 2, 3, 4, 5, 6, 7, 8, 9, 10, 11, 12]] (by kernel_rfl) _ rfl rfl _ rfl rfl (by kernel_rfl) (by kernel_rfl) (by kernel_rfl) (by kernel_rfl) (by kernel_rfl) (by kernel_rfl) (by kernel_rfl) (by rfl) rfl (base_of (by repeat (first | exact base_nil _ | refine zad rfl ?_))) (zkL V0 gq n c j i x.1 x.2 ov g3 _ _ _ _ _ _ _ _ _ _ _ hj1 hi1 hji HT HU H3) ?_
   intro a9 W9 hsz9 hdf9 hL9 hbs hsl
   obtain ⟨v8, h8, q8⟩ := hsl 0 _ _ rfl rfl
   have hv8 : v8 = ov := q8
   rw [hv8] at h8
   clear hv8
   obtain ⟨v9, h9, q9⟩ := hsl 11 _ _ rfl rfl
   obtain ⟨gn, rfl, kn⟩ := q9
   refine zik (.tmp 12) (.tmp 23) 27 rfl B0 72 72 (.agg #[.int .i64 0, .int .i64 0]) 2 16 Tryz.underlying27 zaS rfl (by decide) (by decide) ov (zab (L.take k)) [.int .i64 x.1, .int .i64 x.2] (by simp [Value.oneCell']) W9 gn h8.ev (hO.later hL9) kn rfl 1 h9.ev (by rw [zam, List.length_take]; have := HM.out; omega) (Nat.le_trans hB9.out hL9.size) ?_
   intro v' w' hO2 hg2 hlat
   obtain ⟨Ap, nn, cp, rfl⟩ : ∃ Ap nn cp, v' = .slice Ap nn cp := by obtain ⟨A9, c9, e9, _⟩ := hO2.form; exact ⟨_, _, _, e9⟩
   have hge : ∀ q, ov.ownBlock = some q → B0 ≤ q := fun q hq => ((hO.later hL9).2.lt q hq).1
   have j3 : Blk w' g3 27 #[ov] := (hg2.block g3 (Nat.lt_of_lt_of_le k3.lt hL9.size) (fun e => by have := hge g3 e.symm; have := HG3.out; omega)).trans (k3.later hL9)
   have hp3 := hbs 3 _ rfl
   unfold Slot at hp3
   have ea : (a9.put (some 24) (.slice Ap nn cp)).eval (.tmp 3) = .pointer (some ⟨g3, 0, none⟩) := by simp [Act.eval, Act.put, Array.getElem?_setIfInBounds, hp3]
   have eb : (a9.put (some 24) (.slice Ap nn cp)).eval (.tmp 24) = .slice Ap nn cp := by simp [Act.eval, Act.put, hsz9]
   refine zoo (a := a9.put (some 24) (.slice Ap nn cp)) (.tmp 3) (.tmp 24) rfl g3 ea eb (j3.cell 0) (j3.frozen 0) ?_
   clear hp3 ea eb
   refine hKN _ _ ?_
   have hLw := hlat w (L0.trans hL9) HWB.out
   obtain ⟨T9, df9⟩ := a9
   obtain rfl : df9 = [] := hdf9
   obtain ⟨f, hf, rfl⟩ := zkJ T9 hsz9
   have X9 := fun k v h => (hf k).trans (zaa (hbs k v h))
   clear hbs hsl hf hsz9 hKN h8 h9
   simp only [Act.put, List.setIfInBounds_toArray, List.set_cons_zero, List.set_cons_succ, X9 0 _ rfl, X9 3 _ rfl, X9 4 _ rfl, X9 1 _ rfl, X9 2 _ rfl, X9 5 _ rfl, X9 6 _ rfl, X9 7 _ rfl, X9 8 _ rfl, X9 9 _ rfl, X9 10 _ rfl, X9 11 _ rfl, X9 24 _ rfl, X9 25 _ rfl]
   clear X9
   have i3 : Blk (w'.setCell ⟨g3, 0, none⟩ (.slice Ap nn cp)) g3 27 #[.slice Ap nn cp] := by simpa using j3.set 0 (.slice Ap nn cp)
   have hO3 := hO2.kept (w' := w'.setCell ⟨g3, 0, none⟩ (.slice Ap nn cp)) (fun q hq => Below.heap_setCell w' ⟨g3, 0, none⟩ _ q (by have := (hO2.2.lt q hq).1; have := HG3.out; show q ≠ g3; omega))
   have hLw2 := hLw.setCell (p := ⟨g3, 0, none⟩) HW3.out (.slice Ap nn cp)
   rw [← HTK.out] at hO3
   have HO2 := Lib.hid hO3
   clear hO hO2 hO3 L0 hlat kn HT HU hLw j3 k3 hge
   have hB10 : Hid (B0 ≤ (w'.setCell ⟨g3, 0, none⟩ (.slice Ap nn cp)).heap.size) := by have h1 := hg2.size; have h2 := hL9.size; have h3 := hB9.out; show B0 ≤ _; simp [World.setCell]; omega
   clear hg2 hL9
   generalize hV : w'.setCell ⟨g3, 0, none⟩ (.slice Ap nn cp) = V9 at i3 HO2 hLw2 hB10 ⊢
   clear hV
   go_wp2
   go_roundw
   case rel => exact ⟨k + 1, j2, _, HKM.out, (by have := HJ.out; have := HJ2.out; show j2 = 2 * (k + 1); omega), by rw [hjw2], HO2.out, i3, hLw2, hB10⟩
   case measure => (rw [hjw2]; have := HKM.out; have := HJ.out; have := HJ2.out; have := HNN.out; simp [RowKit.intOf]; omega)
  ·obtain rfl : k = L.length := by have := hk.out; omega
   rw [List.take_length] at hO
   obtain ⟨i, hi⟩ : ∃ i, j + 1 = i := ⟨_, rfl⟩
   have hjw : wrap64 ((j : Int) + 1) = (i : Int) := by rw [← hi]; exact IntWalk.wrap64_in _ ⟨by omega, by have := HM.out; have := HJ.out; omega⟩
   have hgo : ¬ (i : Int) < (n : Int) := by have := HJ.out; have := HNN.out; omega
   have HO := Lib.hid hO
   clear hkm hO hk hi
   go_wp2
   go_ret
   exact ⟨g3, rfl, ov, k3, HO.out.base HWB.out, L0⟩
end Go.Proofs.YtpmbglhbcjbkcaaGreat
