/- Several texts in one: RdB, RdRt, RdEn. -/
import Derived.Deep.DeepCutAuto
import Derived.Test.YtpmbglhbcjbkcaaGreatH32
namespace Go.Proofs.YtpmbglhbcjbkcaaGreat
set_option maxHeartbeats 16000000
set_option maxRecDepth 100000
theorem zbw (k : Nat) : (2 : Int) ^ (k + 1) = 2 * 2 ^ k := by rw [Int.pow_succ, Int.mul_comm]
def RtInv (a : Int) (kk : Nat) (v : Int) : Prop := 0 ≤ v ∧ v * v ≤ a ∧ a < (v + 2 ^ kk) * (v + 2 ^ kk)
theorem RtInv.some_ {a v : Int} {k : Nat} (h : RtInv a (k + 1) v) (hle : (v + 2 ^ k) * (v + 2 ^ k) ≤ a) : RtInv a k (v + 2 ^ k) := by
 obtain ⟨h1, h2, h3⟩ := h
 have hp := two_pow_pos k
 rw [zbw] at h3
 refine ⟨by omega, hle, ?_⟩
 rw [show v + 2 ^ k + 2 ^ k = v + 2 * 2 ^ k by omega]
 exact h3
theorem RtInv.none_ {a v : Int} {k : Nat} (h : RtInv a (k + 1) v) (hlt : a < (v + 2 ^ k) * (v + 2 ^ k)) : RtInv a k v := ⟨h.1, h.2.1, hlt⟩
theorem RtInv.done {a v : Int} (h : RtInv a 0 v) : rtZ a = v := zh7 h.1 h.2.1 (by simpa using h.2.2)
theorem RtInv.start {a : Int} {L : Nat} (h0 : 0 ≤ a) (h : a < 2 ^ L) (k : Nat) (hk : L ≤ 2 * k) : RtInv a k 0 := by
 refine ⟨by omega, by simpa using h0, ?_⟩
 rw [Int.zero_add, ← Int.pow_add]
 exact Int.lt_of_lt_of_le h (zdS (by decide) (by omega))
def FlrInv (a : Int) (n i kk : Nat) (os : List Int) : Prop :=
 os.length = n ∧ InR B32 os ∧ (∀ j, j < i → os.getD j 0 = 0) ∧ os.getD i 0 + 2 ^ kk ≤ B32 ∧ val B32 os * val B32 os ≤ a ∧ a < (val B32 os + 2 ^ kk * B32 ^ i) * (val B32 os + 2 ^ kk * B32 ^ i)
def FlrOut (a : Int) (n i : Nat) (os : List Int) : Prop :=
 os.length = n ∧ InR B32 os ∧ (∀ j, j < i → os.getD j 0 = 0) ∧ val B32 os * val B32 os ≤ a ∧ a < (val B32 os + B32 ^ i) * (val B32 os + B32 ^ i)
theorem zkM : (2 : Int) ^ 32 = B32 := by decide
theorem FlrOut.open_ {a : Int} {n i : Nat} {os : List Int} (h : FlrOut a n (i + 1) os) : FlrInv a n i 32 os := by
 obtain ⟨h1, h2, h3, h4, h5⟩ := h
 refine ⟨h1, h2, fun j hj => h3 j (by omega), ?_, h4, ?_⟩
 ·rw [h3 i (by omega), zkM]; omega
 ·rw [zkM, Int.mul_comm B32, ← za8]; exact h5
theorem FlrInv.close {a : Int} {n i : Nat} {os : List Int} (h : FlrInv a n i 0 os) : FlrOut a n i os := by
 obtain ⟨h1, h2, h3, _, h4, h5⟩ := h
 rw [Int.pow_zero, Int.one_mul] at h5
 exact ⟨h1, h2, h3, h4, h5⟩
theorem FlrInv.next {a : Int} {n i k : Nat} {os : List Int} (h : FlrInv a n i (k + 1) os) (hi : i < n) {d : Int} (hd : os[i]? = some d) :
  0 ≤ d ∧ d + 2 ^ k < B32 ∧ val B32 (os.set i (d + 2 ^ k)) = val B32 os + 2 ^ k * B32 ^ i ∧ InR B32 (os.set i (d + 2 ^ k)) := by
 obtain ⟨h1, h2, h3, h4, h5, h6⟩ := h
 have hD : os.getD i 0 = d := by rw [List.getD_eq_getElem?_getD, hd]; rfl
 have hr := h2.at hd
 have hp := two_pow_pos k
 rw [zbw, hD] at h4
 refine ⟨hr.1, by omega, ?_, h2.set i ⟨by omega, by omega⟩⟩
 rw [zbD B32 os i _ (by omega), hD, show d + 2 ^ k - d = 2 ^ k by omega, Int.mul_comm]
theorem FlrInv.some_ {a : Int} {n i k : Nat} {os : List Int} (h : FlrInv a n i (k + 1) os) (hi : i < n) {d : Int} (hd : os[i]? = some d) (hle : val B32 (os.set i (d + 2 ^ k)) * val B32 (os.set i (d + 2 ^ k)) ≤ a) : FlrInv a n i k (os.set i (d + 2 ^ k)) := by
 obtain ⟨n1, n2, n3, n4⟩ := h.next hi hd
 obtain ⟨h1, h2, h3, h4, h5, h6⟩ := h
 have hD : os.getD i 0 = d := by rw [List.getD_eq_getElem?_getD, hd]; rfl
 have hp := two_pow_pos k
 rw [zbw, hD] at h4
 refine ⟨by rw [List.length_set]; exact h1, n4, fun j hj => ?_, ?_, hle, ?_⟩
 ·have := h3 j hj
  rw [List.getD_eq_getElem?_getD] at this ⊢
  rw [List.getElem?_set_ne (by omega)]
  exact this
 ·rw [List.getD_eq_getElem?_getD, List.getElem?_set_self (by omega)]
  show d + 2 ^ k + 2 ^ k ≤ B32
  omega
 ·rw [n3]
  rw [zbw] at h6
  rw [show val B32 os + 2 ^ k * B32 ^ i + 2 ^ k * B32 ^ i = val B32 os + 2 * 2 ^ k * B32 ^ i by rw [Int.mul_assoc]; omega]
  exact h6
theorem FlrInv.none_ {a : Int} {n i k : Nat} {os : List Int} (h : FlrInv a n i (k + 1) os) (hi : i < n) {d : Int} (hd : os[i]? = some d) (hlt : a < val B32 (os.set i (d + 2 ^ k)) * val B32 (os.set i (d + 2 ^ k))) : FlrInv a n i k os := by
 obtain ⟨n1, n2, n3, n4⟩ := h.next hi hd
 obtain ⟨h1, h2, h3, h4, h5, h6⟩ := h
 have hp := two_pow_pos k
 rw [zbw] at h4
 rw [n3] at hlt
 exact ⟨h1, h2, h3, by omega, h5, hlt⟩
theorem FlrOut.start {a : Int} {L n : Nat} (h0 : 0 ≤ a) (h : a < B32 ^ L) (hL : L ≤ 2 * n) : FlrOut a n n (List.replicate n 0) := by
 refine ⟨by simp, InR.zeros zak n, fun j hj => by simp [List.getD_eq_getElem?_getD, hj], ?_, ?_⟩
 ·rw [zbd]; simpa using h0
 ·rw [zbd, Int.zero_add, ← zeY]
  exact Int.lt_of_lt_of_le h (zdS zak (by omega))
theorem FlrOut.done {a : Int} {n : Nat} {os : List Int} (h : FlrOut a n 0 os) : rtZ a = val B32 os := by
 obtain ⟨h1, h2, h3, h4, h5⟩ := h
 exact zh7 (zaj zak h2) h4 (by simpa using h5)
open Go.RowKit
set_option linter.unusedSimpArgs false
set_option linter.unusedVariables false
theorem znz (l : Nat) : ∃ K : Nat, ((l : Int) - 1).tdiv 2 = (K : Int) ∧ l ≤ 2 * (K + 1) ∧ K ≤ l := by
 rcases Nat.eq_zero_or_pos l with rfl | h
 ·exact ⟨0, by decide, by omega, by omega⟩
 ·refine ⟨(l - 1) / 2, ?_, by omega, by omega⟩
  rw [show (l : Int) - 1 = ((l - 1 : Nat) : Int) by omega]
  rfl
theorem zkN {b : Bool} {x : Int} {xs : List Int} {l : Nat} (hr : InR W64 xs) (hv : x = sgn b (val W64 xs)) (hl : LenIs xs l) : x < 2 ^ l := by
 have h1 := hl.1
 have h2 := zaj zaf hr
 cases b
 ·simp only [sgn, Bool.false_eq_true, if_false] at hv; omega
 ·simp only [sgn, if_true] at hv; omega
theorem zoq (W : World) (T : TypeId) : Sl (W.alloc (.cells #[.int .u64 1] T)) .u64 (some ⟨W.heap.size, 0, none⟩) 1 [1] := by
 have hb := Blk.new W T #[.int .u64 1]
 refine ⟨rfl, fun _ => ⟨_, rfl, hb.lt, fun i x hx => ?_⟩⟩
 match i, hx with
 | 0, hx => cases hx; exact hb.cell 0
theorem zor : InR W64 [1] := by intro x hx; simp at hx; subst hx; exact ⟨by decide, by decide⟩
theorem znA : val W64 [1] = 1 := by decide
theorem zos : Nz [1] := by unfold Nz; decide
theorem zot (W : World) (T : TypeId) : Lg (W.alloc (.cells #[.int .u64 1] T)) false (some ⟨W.heap.size, 0, none⟩) 1 1 1 :=
 ⟨Nat.le_refl _, [1], zoq W T, zor, zos, (fun h => by cases h), by rw [znA]; rfl⟩
def SPost (w : World) (z : Int) (N : Nat) (e : Ending) (w' : World) : Prop := ∃ A n c, e = .returned (.slice A n c) ∧ Lg w' false A n c z ∧ n ≤ N ∧ Lat w w'
theorem SPost.run {w w' : World} {z : Int} {N : Nat} {e : Ending} {d : Prop} (h : SPost w z N e w') : ∃ v, e = .returned v ∧ (Lat w w' ∧ (d → SV z N v w')) := by
 obtain ⟨A, n, c, e, hr, hn, hl⟩ := h
 exact ⟨_, e, hl, fun _ => ⟨A, n, c, rfl, hr, hn⟩⟩
theorem zmd (A : Option Addr) (n c : Nat) (z : Int) (K : Nat) (w : World) (h : Lg w false A n c z) (hn : n ≤ 1000000) (hK : K ≤ 64000000) :
  Calls Tryz.prog 114 #[.slice A n c, .int .i64 K] w (SPost w (z * 2 ^ K) (n + K / 64 + 1)) := by
 obtain ⟨hc, xs, hs, hr, hz, _, hv⟩ := h
 refine (zgq A n c xs K w hs hr hn hK).mono ?_
 rintro e w' ⟨A', n', c', ys, rfl, p1, p2, p3, p4, p5, p6, p7, p8⟩
 exact ⟨A', n', c', rfl, ⟨p5, ys, p1, p2, p3, (fun h => by cases h), by rw [p4, hv]; simp [sgn]⟩, p6, p7⟩
theorem zme (z : Int) : zaq z ≤ 0 ↔ z ≤ 0 := by
 unfold zaq
 split
 ·simp; omega
 ·split
  ·simp; omega
  ·simp; omega
theorem zkO (T : Array Value) (h : T.size = 30) : ∃ f : Nat → Value, (∀ k, f k = T.getD k undef) ∧ T = #[f 0, f 1, f 2, f 3, f 4, f 5, f 6, f 7, f 8, f 9, f 10, f 11, f 12, f 13, f 14, f 15, f 16, f 17, f 18, f 19, f 20, f 21, f 22, f 23, f 24, f 25, f 26, f 27, f 28, f 29] := ⟨fun k => T.getD k undef, fun _ => rfl, (spell 30 T h).trans (by kernel_rfl)⟩
noncomputable def zdb (g3 k : Nat) (b2 : Bool) (A2 : Option Addr) (n2 c2 N M : Nat) (v : Int) : List SRow := [
 ⟨.load 88 (.tmp 3), some 16, none, [], fun v _ => v = .agg #[.bool b2, .slice A2 n2 c2]⟩,
 ⟨.buildSlice 86 1 #[(0, .const (.int .u64 1))], some 17, none, [], SV 1 1⟩,
 ⟨.move (.tmp 4), some 18, none, [], fun v _ => v = .int .i64 (k : Nat)⟩,
 ⟨.call { callee := .value (.func 114), args := #[.tmp 17, .tmp 18], argTypes := #[86, 3] }, some 19, none, [1, 2], SV (2 ^ k) N⟩,
 ⟨.build 88 #[(1, .tmp 19)], some 20, none, [3], GV (2 ^ k) N⟩,
 ⟨.call { callee := .value (.func 61), args := #[.tmp 16, .tmp 20], argTypes := #[88, 88] }, some 21, none, [0, 4, 3], GV (v + 2 ^ k) M⟩,
 ⟨.alloc 88, some 5, none, [], fun _ _ => True⟩,
 ⟨.store 88 (.tmp 5) (.tmp 21), none, none, [6, 5, 5, 0, 1, 2, 3, 4, 5, 6], fun _ _ => True⟩]
noncomputable def zin (g3 k : Nat) (b2 : Bool) (A2 : Option Addr) (n2 c2 N M : Nat) (v : Int) (v0 v1 v2 v6 v7 v8 v9 v10 v11 v29 : Value) : List (Nat × Value) := [(3, .pointer (some ⟨g3, 0, none⟩)), (4, .int .i64 (k : Nat)), (0, v0), (1, v1), (2, v2), (6, v6), (7, v7), (8, v8), (9, v9), (10, v10), (11, v11), (29, v29)]
def zeq : List zca := [⟨6, 5, 88, #[.bool false, .slice none 0 0], 7, 21, 5⟩]
theorem zmf (g3 k : Nat) (b2 : Bool) (A2 : Option Addr) (n2 c2 N M : Nat) (v : Int) : AllKeep (zdb g3 k b2 A2 n2 c2 N M v) := ⟨fun _ _ _ h hk => h, ⟨fun _ _ _ h hk => h.keepW hk, ⟨fun _ _ _ h hk => h, ⟨fun _ _ _ h hk => h.keepW hk, ⟨fun _ _ _ h hk => h.keepW hk, ⟨fun _ _ _ h hk => h.keepW hk, ⟨fun _ _ _ h hk => h, ⟨fun _ _ _ h hk => h, trivial⟩⟩⟩⟩⟩⟩⟩⟩
theorem zmg (g3 k : Nat) (b2 : Bool) (A2 : Option Addr) (n2 c2 N M : Nat) (v : Int) : AllMemK Tryz.prog (zdb g3 k b2 A2 n2 c2 N M v) zeq := by
 refine ⟨⟨fun ev w o ho => ?_, by rfl, fun r v w hr => ?_, by rfl, fun r hr => ?_, by rfl, fun r v w hr h => ?_, by kernel_rfl, by simp [zbJ]⟩, ?_⟩
 ·obtain ⟨d, op, ty, p, af, g⟩ := o
  simp only at ho
  subst ho
  unfold execOp
  go_simp
 ·obtain rfl := Option.some.inj (show some _ = some r from hr); trivial
 ·obtain rfl := Option.some.inj (show some _ = some r from hr); exact ⟨by simp, by simp⟩
 ·obtain rfl := Option.some.inj (show some _ = some r from hr); exact (by obtain ⟨b, A, n, c, rfl, _, _⟩ := h; exact ⟨_, rfl, rfl, by simp [Value.oneCell']⟩)
 trivial
theorem zkP (V : World) (g3 k : Nat) (b2 : Bool) (A2 : Option Addr) (n2 c2 N M : Nat) (v : Int) (v0 v1 v2 v6 v7 v8 v9 v10 v11 v29 : Value) (R3 : ∀ w', Lat V w' → w'.rangeAt g3 0 [.bool b2, .slice A2 n2 c2]) (J2 : (Tryz.prog.info? 88).map (·.size) = some 2)
  (HMV : ∀ A n c w, Lg w false A n c 1 → n ≤ 1 → Calls Tryz.prog 114 #[.slice A n c, .int .i64 (k : Nat)] w (SPost w (2 ^ k) N))
  (HPL : ∀ b A n c w, Lat V w → Lg w b A n c (2 ^ k) → n ≤ N → Calls Tryz.prog 61 #[.agg #[.bool b2, .slice A2 n2 c2], .agg #[.bool b, .slice A n c]] w (LongPost w (v + 2 ^ k) M)) :
  StepsAtK Tryz.prog (zdb g3 k b2 A2 n2 c2 N M v) (zin g3 k b2 A2 n2 c2 N M v v0 v1 v2 v6 v7 v8 v9 v10 v11 v29) V (zeq.flatMap fun M => [M.ia, M.is]) 0 (zdb g3 k b2 A2 n2 c2 N M v) := by
 refine StepsAtK.next (fun _ _ _ h _ => h) (fun j b h => by cases h) (fun a w hl hb hd o ho => by have e1 := hb 3 _ rfl; exact Runs.val (zah (S := Lat V) e1 R3 Tryz.underlying88 rfl J2 o w ho hl) ⟨Lat.refl _, fun _ => rfl⟩) ?_
 refine StepsAtK.next (fun _ _ _ h hl => h.mono hl) (fun j b h => by cases h) (fun a w hl hb hd o ho => by obtain ⟨d, op, ty, p, af, gg⟩ := o; simp only at ho; subst ho; have ec : ∀ v, a.eval (.const v) = v := fun _ => rfl; exact Runs.new (w' := w.alloc (.cells #[.int .u64 1] 36)) (by unfold execOp; generalize a.eval = ev at ec ⊢; simp only [ec]; go_simp) ⟨Lat.alloc _ _, fun _ => ⟨_, 1, 1, rfl, zot _ _, Nat.le_refl _⟩⟩) ?_
 refine StepsAtK.next (fun _ _ _ h _ => h) (fun j b h => by cases h) (fun a w hl hb hd o ho => by have e1 := hb 4 _ rfl; exact rp1 o ho e1 fun ev ec e1 d ty p af g => by unfold execOp; simp only [e1, ec]; go_simp) ?_
 refine StepsAtK.next (fun _ _ _ h hl => h.mono hl) (fun j b h => by cases h) (fun a w hl hb hd o ho => by obtain ⟨v1, e1, q1⟩ := hd 1 _ _ (by simp) rfl rfl; obtain ⟨A1, n1, c1, rfl, r1, m1⟩ := (show SV 1 1 v1 w from q1); obtain ⟨_, e2, rfl⟩ := hd 2 _ _ (by simp) rfl rfl; exact Runs.call (zan (f := 114) (fun _ => by go_simp) o ho (by simp only [List.map_toArray, List.map_cons, List.map_nil, eval_const, e1, e2])) ((HMV A1 n1 c1 w r1 m1).mono fun e w' h => h.run)) ?_
 refine StepsAtK.next (fun _ _ _ h hl => h.mono hl) (fun j b h => by cases h) (fun a w hl hb hd o ho => by obtain ⟨v1, e1, q1⟩ := hd 3 _ _ (by simp) rfl rfl; obtain ⟨A1, n1, c1, rfl, r1, m1⟩ := (show SV (2 ^ k) N v1 w from q1); obtain ⟨d, op, ty, p, af, gg⟩ := o; simp only at ho; subst ho; have ec : ∀ v, a.eval (.const v) = v := fun _ => rfl; exact Runs.val (by unfold execOp; generalize a.eval = ev at e1 ec ⊢; simp only [e1]; go_simp) ⟨Lat.refl _, fun _ => ⟨false, A1, n1, c1, rfl, r1, m1⟩⟩) ?_
 refine StepsAtK.next (fun _ _ _ h hl => h.mono hl) (fun j b h => by cases h) (fun a w hl hb hd o ho => by obtain ⟨_, e1, rfl⟩ := hd 0 _ _ (by simp) rfl rfl; obtain ⟨v2, e2, q2⟩ := hd 4 _ _ (by simp) rfl rfl; obtain ⟨b2, A2, n2, c2, rfl, r2, m2⟩ := (show GV (2 ^ k) N v2 w from q2); exact Runs.call (zan (f := 61) (fun _ => by go_simp) o ho (by simp only [List.map_toArray, List.map_cons, List.map_nil, eval_const, e1, e2])) ((HPL _ _ _ _ w hl r2 m2).mono fun e w' h => h.run)) ?_
 refine StepsAtK.skip (by simp [zeq]) ?_
 refine StepsAtK.skip (by simp [zeq]) ?_
 exact StepsAtK.none
noncomputable def zfZ (g1 g5 : Nat) (b b5 : Bool) (A A5 : Option Addr) (n c n5 c5 M : Nat) (y s : Int) (ob : Bool) : List SRow := [
 ⟨.load 88 (.tmp 5), some 22, none, [], fun v _ => v = .agg #[.bool b5, .slice A5 n5 c5]⟩,
 ⟨.load 88 (.tmp 5), some 23, none, [], fun v _ => v = .agg #[.bool b5, .slice A5 n5 c5]⟩,
 ⟨.call { callee := .value (.func 62), args := #[.tmp 22, .tmp 23], argTypes := #[88, 88] }, some 24, none, [0, 1], GV (y * y) M⟩,
 ⟨.load 88 (.tmp 1), some 25, none, [], fun v _ => v = .agg #[.bool b, .slice A n c]⟩,
 ⟨.call { callee := .value (.func 78), args := #[.tmp 24, .tmp 25], argTypes := #[88, 88] }, some 26, none, [2, 3, 2], fun v _ => v = .int .i64 s⟩,
 ⟨.binOp .leq 3 (.tmp 26) (.const (.int .i64 0)) 3, some 27, none, [4], fun v _ => v = .bool ob⟩]
noncomputable def zio (g1 g5 : Nat) (b b5 : Bool) (A A5 : Option Addr) (n c n5 c5 M : Nat) (y s : Int) (ob : Bool) (v0 v2 v3 v4 v6 v7 v8 v9 v10 v11 v29 : Value) : List (Nat × Value) := [(1, .pointer (some ⟨g1, 0, none⟩)), (5, .pointer (some ⟨g5, 0, none⟩)), (0, v0), (2, v2), (3, v3), (4, v4), (6, v6), (7, v7), (8, v8), (9, v9), (10, v10), (11, v11), (29, v29)]
theorem zkQ (V : World) (g1 g5 : Nat) (b b5 : Bool) (A A5 : Option Addr) (n c n5 c5 M : Nat) (y s : Int) (ob : Bool) (v0 v2 v3 v4 v6 v7 v8 v9 v10 v11 v29 : Value) (R5 : ∀ w', Lat V w' → w'.rangeAt g5 0 [.bool b5, .slice A5 n5 c5]) (R1 : ∀ w', Lat V w' → w'.rangeAt g1 0 [.bool b, .slice A n c]) (J2 : (Tryz.prog.info? 88).map (·.size) = some 2)
  (HTI : ∀ w, Lat V w → Calls Tryz.prog 62 #[.agg #[.bool b5, .slice A5 n5 c5], .agg #[.bool b5, .slice A5 n5 c5]] w (LongPost w (y * y) M))
  (HCM : ∀ b' A' n' c' w, Lat V w → Lg w b' A' n' c' (y * y) → n' ≤ M → Calls Tryz.prog 78 #[.agg #[.bool b', .slice A' n' c'], .agg #[.bool b, .slice A n c]] w (fun e w' => e = .returned (.int .i64 s) ∧ Lat w w'))
  (hob : decide (s ≤ 0) = ob) :
  AllStepsN Tryz.prog (zfZ g1 g5 b b5 A A5 n c n5 c5 M y s ob) (zio g1 g5 b b5 A A5 n c n5 c5 M y s ob v0 v2 v3 v4 v6 v7 v8 v9 v10 v11 v29) V (zfZ g1 g5 b b5 A A5 n c n5 c5 M y s ob) := by
 refine nG ?_ fun a w hl hb hd o ho => by have e1 := hb 5 _ rfl; exact Runs.val (zah (S := Lat V) e1 R5 Tryz.underlying88 rfl J2 o w ho hl) ⟨Lat.refl _, fun _ => rfl⟩
 refine nG ?_ fun a w hl hb hd o ho => by have e1 := hb 5 _ rfl; exact Runs.val (zah (S := Lat V) e1 R5 Tryz.underlying88 rfl J2 o w ho hl) ⟨Lat.refl _, fun _ => rfl⟩
 refine nG ?_ fun a w hl hb hd o ho => by obtain ⟨_, e1, rfl⟩ := hd 0 _ _ (by simp) rfl rfl; obtain ⟨_, e2, rfl⟩ := hd 1 _ _ (by simp) rfl rfl; exact Runs.call (zan (f := 62) (fun _ => by go_simp) o ho (by simp only [List.map_toArray, List.map_cons, List.map_nil, eval_const, e1, e2])) ((HTI w hl).mono fun e w' h => h.run)
 refine nG ?_ fun a w hl hb hd o ho => by have e1 := hb 1 _ rfl; exact Runs.val (zah (S := Lat V) e1 R1 Tryz.underlying88 rfl J2 o w ho hl) ⟨Lat.refl _, fun _ => rfl⟩
 refine nG ?_ fun a w hl hb hd o ho => by obtain ⟨v1, e1, q1⟩ := hd 2 _ _ (by simp) rfl rfl; obtain ⟨b1, A1, n1, c1, rfl, r1, m1⟩ := (show GV (y * y) M v1 w from q1); obtain ⟨_, e2, rfl⟩ := hd 3 _ _ (by simp) rfl rfl; exact rcC o ho (HCM _ _ _ _ w hl r1 m1)
 refine nG ?_ fun a w hl hb hd o ho => by obtain ⟨_, e1, rfl⟩ := hd 4 _ _ (by simp) rfl rfl; obtain ⟨d, op, ty, p, af, gg⟩ := o; simp only at ho; subst ho; have ec : ∀ v, a.eval (.const v) = v := fun _ => rfl; exact Runs.val (by unfold execOp; generalize a.eval = ev at e1 ec ⊢; simp only [e1, ec]; go_simp; try simp [hob]) ⟨Lat.refl _, fun _ => rfl⟩
 exact AllStepsN.none
theorem zkR (b : Bool) (A : Option Addr) (n c : Nat) (x : Int) (w : World) (h1 : Lg w b A n c x) (hx : 0 ≤ x) (hn : n ≤ 100000) :
  Calls Tryz.prog 77 #[.agg #[.bool b, .slice A n c]] w (LongPost w (rtZ x) n) := by
 have H1 := Lib.hid h1
 obtain ⟨hc, xs, s1, r1, z1, _, v1⟩ := h1
 have HLT := Lib.hid (fun l (hl : LenIs xs l) => zkN r1 v1 hl)
 have HX := Lib.hid hx
 have HN := Lib.hid hn
 have S1 := Lib.hid s1
 have R1 := Lib.hid r1
 have Z1 := Lib.hid z1
 clear v1 hx s1 r1 z1 hc hn
 go_enter Tryz.func77, Tryz.ntmps77
 go_upto_region 2 with (fail)
 refine za0 (Q := fun W => Code.wp _ _ _ _ W) ?_
 intro W hl hsz k1 k2 k3
 have e0 := k1.cell 0
 have e1 := k1.cell 1
 go_wp2_with fail
 refine (zdl A n c xs W (S1.out.later hl) R1.out Z1.out (by have := HN.out; omega)).mono ?_
 rintro e w1 ⟨l, rfl, hL, rfl⟩
 obtain ⟨K, hK, hl2, hKl⟩ := znz l
 have hl64 : l ≤ 6400000 := by have := hL.2.2.1; have := S1.out.1; have := HN.out; omega
 have HRT := Lib.hid (RtInv.start HX.out (HLT.out l hL) (K + 1) (by omega))
 have hK64 : K ≤ 6400000 := by omega
 have wl : wrap64 ((l : Int) - 1) = (l : Int) - 1 := IntWalk.wrap64_in _ ⟨by omega, by omega⟩
 have wk : wrap64 (K : Int) = (K : Int) := IntWalk.wrap64_in _ ⟨by omega, by omega⟩
 have HK6 := Lib.hid hK64
 obtain ⟨g1, hg1⟩ : ∃ z, w.heap.size = z := ⟨_, rfl⟩
 obtain ⟨g2, hg2⟩ : ∃ z, w.heap.size + 1 = z := ⟨_, rfl⟩
 obtain ⟨g3, hg3⟩ : ∃ z, w.heap.size + 1 + 1 = z := ⟨_, rfl⟩
 have HG : Hid (g1 < g2 ∧ g2 < g3 ∧ w.heap.size = g1) := by show g1 < g2 ∧ g2 < g3 ∧ w.heap.size = g1; clear wl wk hK; omega
 rw [hg3] at k3 ⊢
 rw [hg2] at k2 ⊢
 rw [hg1] at k1 ⊢
 have hLG := H1.out.later hl
 clear hg1 hg2 hg3 e0 e1 hL hl2 hl64 hsz HLT S1 R1 Z1 hKl hK64
 go_wp2
 clear wl
 go_loopw [4] (fun iv wr => ∃ (q : Nat) (v : Int) (b' : Bool) (A' : Option Addr) (n' c' : Nat), iv = .int .i64 ((q : Int) - 1) ∧ Hid (q ≤ 6400001) ∧ Hid (RtInv x q v) ∧ Lg wr b' A' n' c' v ∧ Hid (n' ≤ n) ∧ Lg wr b A n c x ∧ Blk wr g1 88 #[.bool b, .slice A n c] ∧ Blk wr g2 88 #[.bool false, .slice none 0 0] ∧ Blk wr g3 88 #[.bool b', .slice A' n' c'] ∧ Lat w wr) (fun iv _ => (RowKit.intOf iv + 1).toNat)
 case atStart => exact ⟨K + 1, 0, false, none, 0, 0, by simp [hK, wk], (by have := HK6.out; show K + 1 ≤ 6400001; omega), HRT, Lg.zero _, Nat.zero_le _, hLG, k1, k2, k3, hl⟩
 case round =>
  clear k1 k2 k3 hLG hl hK HRT HK6 wk
  obtain ⟨q, v, b', A', n', c', rfl, hq, hR, hv, hn', hx, k1, k2, k3, hlw⟩ := hrel
  rcases Nat.eq_zero_or_pos q with rfl | hq0
  ·have hneg : ((0 : Nat) : Int) - 1 = -1 := rfl
   rw [hneg]
   have e0 := k3.cell 0
   have e1 := k3.cell 1
   have d0 := k2.cell 0
   have d1 := k2.cell 1
   have f0 := k2.frozen 0
   have f1 := k2.frozen 1
   have hlt := k2.lt
   have HV := Lib.hid hR.out.done
   have HLv := Lib.hid hv
   have HLW := Lib.hid hlw
   clear hR hx hv hlw
   go_wp2
   refine za6 (Q := fun W => bodyPost _ _ _ _ _ W) k2 ?_
   intro w4 j4 l4 hr4
   have c0 := j4.cell 0
   have c1 := j4.cell 1
   refine bodyPost_ret (v := .agg #[.bool b', .slice A' n' c']) (by simp [results, Tryz.results77, go_sem, c0, c1]) rfl ?_
   exact ⟨b', A', n', c', rfl, by rw [HV.out]; exact hr4 HLv.out, hn'.out, l4.narrow HLW.out (by have := HG.out; omega)⟩
  ·obtain ⟨k, rfl⟩ : ∃ k, q = k + 1 := ⟨q - 1, by omega⟩
   have hk : ((k + 1 : Nat) : Int) - 1 = (k : Int) := by omega
   rw [hk]
   have hk0 : (0 : Int) ≤ (k : Int) := by omega
   clear hq0 hk
   have HK3 := Lib.hid k3.lt
   go_upto_region 5 with (fail)
   obtain ⟨N, hN⟩ : ∃ z, 1 + k / 64 + 1 = z := ⟨_, rfl⟩
   have HNB : Hid (N ≤ 200000) := by have := hq.out; show N ≤ 200000; omega
   obtain ⟨M, hM⟩ : ∃ z, 300000 = z := ⟨_, rfl⟩
   have HMB : Hid (M = 300000) := hM.symm
   have R3 : ∀ w', Lat wr w' → w'.rangeAt g3 0 [.bool b', .slice A' n' c'] := fun w' hl => (k3.later hl).rangeAll
   have J2 : (Tryz.prog.info? 88).map (·.size) = some 2 := by kernel_rfl
   have HMV : ∀ A n c w, Lg w false A n c 1 → n ≤ 1 → Calls Tryz.prog 114 #[.slice A n c, .int .i64 (k : Nat)] w (SPost w (2 ^ k) N) := fun A n c w h hn => by
    refine (zmd A n c 1 k w h (by omega) (by have := hq.out; omega)).mono ?_
    rintro e w' ⟨A', n', c', rfl, p1, p2, p3⟩
    exact ⟨A', n', c', rfl, by rw [Int.one_mul] at p1; exact p1, by omega, p3⟩
   have HPL : ∀ b A n c w, Lat wr w → Lg w b A n c (2 ^ k) → n ≤ N → Calls Tryz.prog 61 #[.agg #[.bool b', .slice A' n' c'], .agg #[.bool b, .slice A n c]] w (LongPost w (v + 2 ^ k) M) := fun b A n c w hl h hn => by
    refine (zbp b' A' n' c' v b A n c (2 ^ k) w (hv.later hl) h (by have := hn'.out; have := HN.out; omega) (by have := HNB.out; omega)).mono ?_
    rintro e w' ⟨b7, A7, n7, c7, rfl, p1, p2, p3⟩
    exact ⟨b7, A7, n7, c7, rfl, p1, by have := hn'.out; have := HN.out; have := HNB.out; have := HMB.out; omega, p3⟩
   clear hN hM
   rename_i KN hKN
   refine zbt (zdb g3 k b' A' n' c' N M v) (zin g3 k b' A' n' c' N M v _ _ _ _ _ _ _ _ _ _) zeq 30 8 [[], [], [], [1, 2], [3], [0, 4, 3], [], [6, 5, 5, 0, 1, 2, 3, 4, 5, 6]] (by kernel_rfl) (by kernel_rfl) (by kernel_rfl) (by kernel_rfl) (by kernel_rfl) (by kernel_rfl) (by kernel_rfl) (by rfl) rfl (base_of (by repeat (first | exact base_nil _ | refine zad rfl ?_))) (zmf g3 k b' A' n' c' N M v) (zmg g3 k b' A' n' c' N M v) (zkP wr g3 k b' A' n' c' N M v _ _ _ _ _ _ _ _ _ _ R3 J2 HMV HPL) ?_
   intro a9 W9 hsz9 hdf9 hL9 hbs hsl hmm
   obtain ⟨g5, c5, s5, n5, b5, p5, far5⟩ := hmm 0 _ rfl
   obtain ⟨v9, h9, q9⟩ := hsl 5 _ _ rfl rfl
   obtain ⟨y0, yA, yn, yc, rfl, r5, m5⟩ := (show GV _ _ v9 W9 from q9)
   obtain rfl := zda p5 h9
   clear h9
   have w5 := zaa s5
   refine hKN _ _ ?_
   obtain ⟨T9, df9⟩ := a9
   obtain rfl : df9 = [] := hdf9
   obtain ⟨f, hf, rfl⟩ := zkO T9 hsz9
   have X9 := fun k v h => (hf k).trans (zaa (hbs k v h))
   have x5 : f 5 = .pointer (some ⟨g5, 0, none⟩) := (hf 5).trans w5
   clear hbs hsl hmm hf hsz9 hKN s5 p5 far5 w5
   simp only [X9 3 _ rfl, X9 4 _ rfl, X9 0 _ rfl, X9 1 _ rfl, X9 2 _ rfl, X9 6 _ rfl, X9 7 _ rfl, X9 8 _ rfl, X9 9 _ rfl, X9 10 _ rfl, X9 11 _ rfl, X9 29 _ rfl, x5]
   clear X9 x5
   replace k1 := k1.later hL9
   replace k2 := k2.later hL9
   replace k3 := k3.later hL9
   replace hx := hx.later hL9
   replace hv := hv.later hL9
   replace hlw := hlw.trans hL9
   have HG5 : Hid (g3 < g5) := Nat.lt_of_lt_of_le HK3.out n5
   obtain ⟨kb, hkb⟩ := (⟨b5, trivial⟩ : ∃ _ : Blk W9 g5 88 #[.bool y0, .slice yA yn yc], True)
   clear b5 hkb
   clear hL9 R3 HMV HPL n5
   obtain ⟨W6, rfl⟩ : ∃ z, z = W9 := ⟨_, rfl⟩
   obtain ⟨y, hy⟩ : ∃ z, v + 2 ^ k = z := ⟨_, rfl⟩
   rw [hy] at r5
   have HY := Lib.hid hy
   clear hy
   obtain ⟨s, hs⟩ : ∃ z, zaq (y * y - x) = z := ⟨_, rfl⟩
   obtain ⟨ob, hob⟩ : ∃ z, decide (s ≤ 0) = z := ⟨_, rfl⟩
   have HOB : Hid (decide (y * y - x ≤ 0) = ob) := by
    show _ = ob
    rw [← hob, ← hs]
    exact (decide_eq_decide.2 (zme _)).symm
   obtain ⟨M2, hM2⟩ : ∃ z, 600000 = z := ⟨_, rfl⟩
   have HTI := fun (w : World) (hl : Lat W6 w) => (zbc y0 yA yn yc y y0 yA yn yc y w (r5.later hl) (r5.later hl) (by have := HMB.out; omega) (by have := HMB.out; omega)).mono fun _ _ h => h.le (M := M2) (by have := HMB.out; omega)
   have HCM : ∀ b' A' n' c' w, Lat W6 w → Lg w b' A' n' c' (y * y) → n' ≤ M2 → Calls Tryz.prog 78 #[.agg #[.bool b', .slice A' n' c'], .agg #[.bool b, .slice A n c]] w (fun e w' => e = .returned (.int .i64 s) ∧ Lat w w') := fun b' A' n' c' w hl h hn => by
    rw [← hs]
    exact zcY b' A' n' c' (y * y) b A n c x w h (hx.later hl) (by omega) (by have := HN.out; omega)
   clear hM2 hs
   have R5 : ∀ w', Lat W6 w' → w'.rangeAt g5 0 [.bool y0, .slice yA yn yc] := fun w' hl => (kb.later hl).rangeAll
   have R1 : ∀ w', Lat W6 w' → w'.rangeAt g1 0 [.bool b, .slice A n c] := fun w' hl => (k1.later hl).rangeAll
   go_upto_region 6 with (fail)
   rename_i KN hKN
   refine zae (zfZ g1 g5 b y0 A yA n c yn yc M2 y s ob) (zio g1 g5 b y0 A yA n c yn yc M2 y s ob _ _ _ _ _ _ _ _ _ _ _) 30 6 [[], [], [0, 1], [], [2, 3, 2], [4]] (by kernel_rfl) (by kernel_rfl) (by kernel_rfl) (by kernel_rfl) (by kernel_rfl) (by kernel_rfl) (by rfl) rfl (base_of (by repeat (first | exact base_nil _ | refine zad rfl ?_))) (zkQ W6 g1 g5 b y0 A yA n c yn yc M2 y s ob _ _ _ _ _ _ _ _ _ _ _ R5 R1 J2 HTI HCM hob) ?_
   ·intro a9 W9 hsz9 hdf9 hL9 hbs hsl
    obtain ⟨v9, h9, q9⟩ := hsl 5 _ _ rfl rfl
    obtain rfl : v9 = .bool ob := q9
    have w27 := zaa h9
    clear h9
    refine hKN _ _ ?_
    obtain ⟨T9, df9⟩ := a9
    obtain rfl : df9 = [] := hdf9
    obtain ⟨f, hf, rfl⟩ := zkO T9 hsz9
    have XX := fun k v h => (hf k).trans (zaa (hbs k v h))
    have x1 : f 1 = .pointer (some ⟨g1, 0, none⟩) := XX 1 _ rfl
    have x5 : f 5 = .pointer (some ⟨g5, 0, none⟩) := XX 5 _ rfl
    have x27 := (hf 27).trans w27
    clear hbs hsl hf hsz9 hKN w27
    simp only [x1, x5, XX 0 _ rfl, XX 2 _ rfl, XX 3 _ rfl, XX 4 _ rfl, XX 6 _ rfl, XX 7 _ rfl, XX 8 _ rfl, XX 9 _ rfl, XX 10 _ rfl, XX 11 _ rfl, XX 29 _ rfl, x27]
    clear XX x1 x5 x27
    replace k1 := k1.later hL9
    replace k2 := k2.later hL9
    replace k3 := k3.later hL9
    replace kb := kb.later hL9
    replace hx := hx.later hL9
    replace hv := hv.later hL9
    replace r5 := r5.later hL9
    replace hlw := hlw.trans hL9
    have wk1 : wrap64 ((k : Int) - 1) = (k : Int) - 1 := IntWalk.wrap64_in _ ⟨by omega, by have := hq.out; omega⟩
    obtain ⟨W7, rfl⟩ : ∃ z, z = W9 := ⟨_, rfl⟩
    clear hL9 R5 R1 J2 HTI HCM hob
    cases ob with
    | true =>
      have hle : y * y ≤ x := by have := of_decide_eq_true HOB.out; omega
      have hR2 := hR.out.some_ (by rw [HY.out]; exact hle)
      rw [HY.out] at hR2
      have HR2 := Lib.hid hR2
      have hn5 : Hid (yn ≤ n) := by
       have h0 := hR2.1
       have h1 : y.natAbs ≤ x.natAbs := by
        rcases Int.lt_or_le y 1 with h2 | h2
        ·have : y = 0 := by omega
         subst this; simp
        ·have h3 : y * 1 ≤ y * y := Int.mul_le_mul_of_nonneg_left h2 h0
         omega
       exact r5.len_le hx h1
      clear hle hR2 hR hn' HY
      have e0 := kb.cell 0
      have e1 := kb.cell 1
      have f0 := k3.frozen 0
      have f1 := k3.frozen 1
      have d0 := k3.cell 0
      have d1 := k3.cell 1
      have hlt := k3.lt
      go_upto_region 4 with (fail)
      refine za6 (Q := fun W => Code.wp _ _ _ _ W) k3 ?_
      intro w8 j3 l8 hr8
      have j1 := k1.keepP l8 (by have := HG.out; omega)
      have j2 := k2.keepP l8 (by have := HG.out; omega)
      have L8 := l8.narrow hlw (by have := HG.out; omega)
      have q5 := hr8 r5
      have qx := hr8 hx
      clear e0 e1 f0 f1 d0 d1 k1 k2 k3 kb hx hv r5 l8 hr8
      go_wp2
      go_roundw
      case rel => exact ⟨k, y, y0, yA, yn, yc, by rw [wk1], (by have := hq.out; show k ≤ 6400001; omega), HR2, q5, hn5, qx, j1, j2, j3, L8⟩
      case measure => (rw [wk1]; show (((k : Int) - 1) + 1).toNat < ((k : Int) + 1).toNat; omega)
    | false =>
      have hlt : x < y * y := by have := of_decide_eq_false HOB.out; omega
      have hR2 := hR.out.none_ (by rw [HY.out]; exact hlt)
      have HR2 := Lib.hid hR2
      clear hlt hR2 hR HY
      go_wp2
      go_roundw
      case rel => exact ⟨k, v, b', A', n', c', by rw [wk1], (by have := hq.out; show k ≤ 6400001; omega), HR2, hv, hn', hx, k1, k2, k3, hlw⟩
      case measure => (rw [wk1]; show (((k : Int) - 1) + 1).toNat < ((k : Int) + 1).toNat; omega)
end Go.Proofs.YtpmbglhbcjbkcaaGreat
namespace Go.Proofs.YtpmbglhbcjbkcaaGreat
set_option maxHeartbeats 16000000
set_option maxRecDepth 100000
def eSq (x : Int × Int) (k : Nat) : Int := x.1 * x.1 * x.2 * 4 ^ k
noncomputable def eDn (x : Int × Int) (k : Nat) : Int := rtZ (eSq x k)
noncomputable def eUp (x : Int × Int) (k : Nat) : Int := if eDn x k * eDn x k < eSq x k then eDn x k + 1 else eDn x k
noncomputable def eLo (x : Int × Int) (k : Nat) : Int := if x.1 < 0 then -(eUp x k) else eDn x k
noncomputable def eHi (x : Int × Int) (k : Nat) : Int := if x.1 < 0 then -(eDn x k) else eUp x k
noncomputable def sLo (r : List (Int × Int)) (k : Nat) : Int := (r.map fun x => eLo x k).sum
noncomputable def sHi (r : List (Int × Int)) (k : Nat) : Int := (r.map fun x => eHi x k).sum
theorem ziq (r : List (Int × Int)) (x : Int × Int) (k : Nat) : sLo (r ++ [x]) k = sLo r k + eLo x k := by simp [sLo]
theorem zir (r : List (Int × Int)) (x : Int × Int) (k : Nat) : sHi (r ++ [x]) k = sHi r k + eHi x k := by simp [sHi]
theorem zmh (k : Nat) : (4 : Int) ^ k = 2 ^ k * 2 ^ k := by
 induction k with
 | zero => rfl
 | succ n ih => rw [Int.pow_succ, ih, Int.pow_succ]; simp only [Int.mul_assoc, Int.mul_comm, Int.mul_left_comm]; rw [show (4 : Int) = 2 * 2 by decide]; simp only [Int.mul_assoc, Int.mul_comm, Int.mul_left_comm]
theorem znB (x : Int × Int) (k : Nat) : x.1 * 2 ^ k * (x.1 * 2 ^ k) * x.2 = eSq x k := by
 unfold eSq
 rw [zmh]
 simp only [Int.mul_assoc, Int.mul_comm, Int.mul_left_comm]
theorem zfl {x : Int × Int} (h : 0 ≤ x.2) (k : Nat) : 0 ≤ eSq x k := by
 unfold eSq
 have h1 : 0 ≤ x.1 * x.1 := by
  rcases Int.lt_or_le x.1 0 with h | h
  ·exact Int.mul_nonneg_of_nonpos_of_nonpos (Int.le_of_lt h) (Int.le_of_lt h)
  ·exact Int.mul_nonneg h h
 exact Int.mul_nonneg (Int.mul_nonneg h1 h) (Int.le_of_lt (Int.pow_pos (by decide)))
end Go.Proofs.YtpmbglhbcjbkcaaGreat
