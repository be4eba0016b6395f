/- Several texts in one: CnA, RgE, RgI. -/
import Derived.Test.YtogkkhaepfablaaGreatK03
import Derived.Test.YtogkkhaepfablaaGreatK34
import Derived.Test.YtogkkhaepfablaaGreatJ20
import Derived.Test.YtogkkhaepfablaaGreatJ21
import Derived.Test.YtogkkhaepfablaaGreatK02
import Derived.Test.YtogkkhaepfablaaGreatK07
import Derived.Test.YtogkkhaepfablaaGreatK05
namespace Go.Proofs.YtogkkhaepfablaaGreat
open Go.RowKit
set_option linter.unusedSimpArgs false
structure MixR (s a b c x : Nat) : Prop where
 e0 : IntKind.u64.wrap ((s : Int) + 11400714819323198485) = (a : Int)
 e1 : ∃ y : Int, IntKind.u64.wrap ((a : Int) / 1073741824) = y ∧ IntKind.u64.wrap (bits .xor .u64 (a : Int) y * 13787848793156543929) = (b : Int)
 e2 : ∃ y : Int, IntKind.u64.wrap ((b : Int) / 134217728) = y ∧ IntKind.u64.wrap (bits .xor .u64 (b : Int) y * 10723151780598845931) = (c : Int)
 e3 : ∃ y : Int, IntKind.u64.wrap ((c : Int) / 2147483648) = y ∧ bits .xor .u64 (c : Int) y = (x : Int)
theorem mixR (s : Nat) (hs : s < 18446744073709551616) : MixR s (chStep s) (chM1 (chStep s)) (chM2 (chM1 (chStep s))) (chMix (chStep s)) := by
 obtain ⟨h0, h1, h2, h3⟩ := mixF s hs
 have b1 := chStep_lt s
 have b2 := chM1_lt (chStep s)
 have b3 := chM2_lt (chM1 (chStep s))
 exact ⟨h0, ⟨_, by rw [IntKind.wrap_u64]; exact Int.emod_eq_of_lt (by omega) (by omega), h1⟩, ⟨_, by rw [IntKind.wrap_u64]; exact Int.emod_eq_of_lt (by omega) (by omega), h2⟩, ⟨_, by rw [IntKind.wrap_u64]; exact Int.emod_eq_of_lt (by omega) (by omega), h3⟩⟩
set_option maxRecDepth 100000 in
set_option maxHeartbeats 1000000 in
theorem rNext_in (s a b c x : Nat) (F : MixR s a b c x) (w : World) :
  Calls Tryz.prog 40 #[.agg #[.int .u64 s]] w (fun e w' => e = .returned (.tuple #[.int .u64 (x : Nat), .agg #[.int .u64 (a : Nat)]]) ∧ Lat w w') := by
 obtain ⟨e0, ⟨y1, f1, e1⟩, ⟨y2, f2, e2⟩, ⟨y3, f3', e3⟩⟩ := F
 go_enter Tryz.func40, Tryz.ntmps40
 go_upto_region 1 with (fail)
 refine name2 (Q := fun W => Code.wp _ _ _ _ W) ?_
 intro W1 l1 hs1 k1 k3
 have c1 : W1.cell? ⟨w.heap.size, 0, none⟩ = some (.int .u64 (s : Int)) := k1.cell 0
 have f3 := k3.frozen 0
 have h3 := k3.lt
 have d3 : W1.cell? ⟨w.heap.size + 1, 0, none⟩ = some (.int .u64 0) := k3.cell 0
 go_wp2
 refine name_set (Q := fun W => bodyPost _ _ _ _ _ W) k3 ?_
 intro W2 k5 g1 g2 g3
 have L2 := g3.narrow l1 (by omega)
 have g0 : W2.cell? ⟨w.heap.size + 1, 0, none⟩ = some (.int .u64 (a : Int)) := k5.cell 0
 refine bodyPost_ret (v := .tuple #[.int .u64 (x : Int), .agg #[.int .u64 (a : Int)]]) (by simp [results, Tryz.results40, go_sem, g0]) rfl ?_
 exact ⟨rfl, L2⟩
def RxC (s x t : Nat) : Prop := ∀ w : World, Calls Tryz.prog 40 #[.agg #[.int .u64 s]] w (fun e w' => e = .returned (.tuple #[.int .u64 (x : Nat), .agg #[.int .u64 (t : Nat)]]) ∧ Lat w w')
theorem rxC (s : Nat) (hs : s < 18446744073709551616) : RxC s (chMix (chStep s)) (chStep s) := fun w => rNext_in s _ _ _ _ (mixR s hs) w
end Go.Proofs.YtogkkhaepfablaaGreat
namespace Go.Proofs.YtogkkhaepfablaaGreat
open Go.RowKit
set_option linter.unusedSimpArgs false
def one64 (x : Nat) : W8 := ⟨x, 0, 0, 0, 0, 0, 0, 0⟩
theorem one64_ok {x : Nat} (h : x < 18446744073709551616) : (one64 x).ok := by
 intro y hy
 simp only [one64, W8.list, List.mem_cons, List.not_mem_nil, or_false] at hy
 have : (0 : Int) < W64 := W64_pos
 unfold W64 at *
 rcases hy with rfl | rfl | rfl | rfl | rfl | rfl | rfl | rfl <;> omega
theorem one64_int {x : Nat} (_h : x < 18446744073709551616) : (one64 x).toInt = x := by
 unfold W8.toInt
 rw [if_pos (by simp [one64]), W8.mag_eq]
 simp [one64]
set_option maxRecDepth 100000 in
set_option maxHeartbeats 1000000 in
theorem words64_any (x : Nat) (hx : x < 18446744073709551616) (w : World) : Calls Tryz.prog 42 #[.int .u64 (x : Nat)] w (RefPost w x 17) := by
 have HI := fun w => rIn_any (one64 x) (one64_ok hx) w
 rw [one64_int hx] at HI
 go_enter Tryz.func42, Tryz.ntmps42
 go_upto_region 1 with (fail)
 refine name1 (Q := fun W => Code.wp _ _ _ _ W) ?_
 intro W hl hs k2
 go_wp2_with fail
 refine (HI W).mono ?_
 rintro e w1 ⟨b, A, n, c, rfl, r1, r2, l1⟩
 replace k2 := k2.later l1
 have L1 := hl.trans l1
 have d0 := k2.cell 0
 have d1 := k2.cell 1
 have f0 := k2.frozen 0
 have f1 := k2.frozen 1
 have hlt := k2.lt
 go_wp2
 refine name_long (Q := fun W => bodyPost _ _ _ _ _ W) k2 ?_
 intro w4 j4 l4 hr4
 have c0 := j4.cell 0
 have c1 := j4.cell 1
 refine bodyPost_ret (v := .agg #[.bool b, .slice A n c]) (by simp [results, Tryz.results42, go_sem, c0, c1]) rfl ?_
 exact ⟨b, A, n, c, rfl, hr4 r1, r2, l4.narrow L1 (Nat.le_refl _)⟩
theorem no_i64u (s : Int) : ∀ (j : Nat) (x : Int), (#[.int .u64 s] : Array Value)[j]? ≠ some (.int .i64 x) := by
 intro j x
 match j with
 | 0 => simp
 | j + 1 => simp
end Go.Proofs.YtogkkhaepfablaaGreat
namespace Go.Proofs.YtogkkhaepfablaaGreat
open Go.RowKit
set_option linter.unusedSimpArgs false
set_option linter.unusedVariables false
theorem RefPost.leD {w w' : World} {z : Int} {N M : Nat} {e : Ending} (h : RefPost w z N e w') (hN : N ≤ M) : RefPost w z M e w' := by
 obtain ⟨b, A, n, c, e, hr, hn, hl⟩ := h
 exact ⟨b, A, n, c, e, hr, by omega, hl⟩
theorem blen_pow2 {z : Int} (hz : 0 ≤ z) (k : Nat) : (2 : Int) ^ k ≤ z ↔ k < blen z := by
 obtain ⟨n, rfl⟩ := Int.eq_ofNat_of_zero_le hz
 have h4 : ((2 ^ k : Nat) : Int) = (2 : Int) ^ k := by simp
 rw [← h4, Int.ofNat_le]
 unfold blen
 by_cases h0 : (n : Int) = 0
 ·rw [if_pos h0]
  obtain rfl : n = 0 := by omega
  have := Nat.two_pow_pos k
  omega
 ·rw [if_neg h0, Int.toNat_natCast]
  have hn : n ≠ 0 := by omega
  rw [← Nat.le_log2 hn]
  omega
theorem dg_raise {k : Nat} {p : Int} (hk : k ≤ 511) (hp : (2 : Int) ^ k = p) : ∀ A1 n1 c1 w, Rg w false A1 n1 c1 2 → n1 ≤ 2 → Calls Tryz.prog 37 #[.agg #[.bool false, .slice A1 n1 c1], .int .i64 (k : Nat)] w (RefN w p 1100) := fun A1 n1 c1 w h h' => by
 have hp0 : (0 : Int) ≤ p := by rw [← hp]; exact Int.le_of_lt (Int.pow_pos (by decide))
 have := rRaised_any false A1 n1 c1 2 k w h h' (by omega)
 rw [hp] at this
 exact this.mono fun e w' h => (h.leD (by omega)).nonneg hp0
theorem dg_order {wr : World} {b : Bool} {A : Option Addr} {n c : Nat} {z p o : Int} (hr : Rg wr b A n c z) (hn : n ≤ 1000) (ho : ordR (p - z) = o) : ∀ A1 n1 c1 w, Lat wr w → Rg w false A1 n1 c1 p → n1 ≤ 1100 → Calls Tryz.prog 41 #[.agg #[.bool false, .slice A1 n1 c1], .agg #[.bool b, .slice A n c]] w (fun e w' => e = .returned (.int .i64 o) ∧ Lat w w') := fun A1 n1 c1 w hl h h' => by
 have := rOrder_any false A1 n1 c1 p b A n c z w h (hr.later hl) (by omega) (by omega)
 rwa [ho] at this
theorem dg_test {z p o : Int} {k : Nat} (hz : 0 ≤ z) (hp : (2 : Int) ^ k = p) (ho : ordR (p - z) = o) : (k < blen z → decide (o ≤ 0) = true) ∧ (k = blen z → decide (o ≤ 0) = false) := by
 have h := blen_pow2 hz k
 rw [hp] at h
 unfold ordR at ho
 constructor
 ·intro hk
  have := h.2 hk
  refine decide_eq_true ?_
  split at ho
  ·omega
  ·split at ho <;> omega
 ·intro hk
  have : ¬ p ≤ z := fun h2 => by have := h.1 h2; omega
  refine decide_eq_false ?_
  rw [if_neg (by omega), if_neg (by omega)] at ho
  omega
theorem spell13 (T : Array Value) (h : T.size = 13) : ∃ f : Nat → Value, (∀ k, f k = T.getD k undef) ∧ T = #[f 0, f 1, f 2, f 3, f 4, f 5, f 6, f 7, f 8, f 9, f 10, f 11, f 12] := ⟨fun k => T.getD k undef, fun _ => rfl, (spell 13 T h).trans (by kernel_rfl)⟩
noncomputable def dg2_rows (b : Bool) (A : Option Addr) (n c k g1 : Nat) (p o : Int) (ob : Bool) : List SRow := [
 ⟨Op.call { callee := Callee.value (Operand.func 38), args := #[Operand.const (Value.int IntKind.i64 2)], argTypes := #[3] }, some 4, none, [], LN 2 2⟩,
 ⟨Op.move (Operand.tmp 3), some 5, none, [], fun v _ => v = .int .i64 (k : Nat)⟩,
 ⟨Op.call { callee := Callee.value (Operand.func 37), args := #[Operand.tmp 4, Operand.tmp 5], argTypes := #[85, 3] }, some 6, none, [0, 1, 0], LN p 1100⟩,
 ⟨Op.load 85 (Operand.tmp 1), some 7, none, [], fun v _ => v = .agg #[.bool b, .slice A n c]⟩,
 ⟨Op.call { callee := Callee.value (Operand.func 41), args := #[Operand.tmp 6, Operand.tmp 7], argTypes := #[85, 85] }, some 8, none, [2, 3, 2], fun v _ => v = .int .i64 o⟩,
 ⟨Op.binOp BinOp.leq 3 (Operand.tmp 8) (Operand.const (Value.int IntKind.i64 0)) 3, some 9, none, [4], fun v _ => v = .bool ob⟩]
noncomputable def dg2_base (b : Bool) (A : Option Addr) (n c k g1 : Nat) (p o : Int) (ob : Bool) : List (Nat × Value) := [(0, .agg #[.bool b, .slice A n c]), (1, .pointer (some ⟨g1, 0, none⟩)), (2, .int .i64 0), (3, .int .i64 (k : Nat)), (12, undef)]
set_option maxRecDepth 100000 in
set_option maxHeartbeats 4000000 in
theorem dg2_steps (V : World) (b : Bool) (A : Option Addr) (n c k g1 : Nat) (p o : Int) (ob : Bool) (hob : decide (o ≤ 0) = ob) (R1 : ∀ w', Lat V w' → w'.rangeAt g1 0 [.bool b, .slice A n c]) (J85 : (Tryz.prog.info? 85).map (·.size) = some 2) (HL2 : ∀ w, Calls Tryz.prog 38 #[.int .i64 2] w (RefN w 2 2))
  (HR : ∀ A1 n1 c1 w, Rg w false A1 n1 c1 2 → n1 ≤ 2 → Calls Tryz.prog 37 #[.agg #[.bool false, .slice A1 n1 c1], .int .i64 (k : Nat)] w (RefN w p 1100))
  (HO : ∀ A1 n1 c1 w, Lat V w → Rg w false A1 n1 c1 p → n1 ≤ 1100 → Calls Tryz.prog 41 #[.agg #[.bool false, .slice A1 n1 c1], .agg #[.bool b, .slice A n c]] w (fun e w' => e = .returned (.int .i64 o) ∧ Lat w w')) :
  AllSteps Tryz.prog (dg2_rows b A n c k g1 p o ob) (dg2_base b A n c k g1 p o ob) V (dg2_rows b A n c k g1 p o ob) := by
 refine AllSteps.next (fun _ _ _ h hl => h.mono hl) (fun j b h => by cases h) (fun a w hl hb hd o ho => by exact Runs.call (yv_call (f := 38) (fun _ => by go_simp) o ho (by simp only [List.map_toArray, List.map_cons, List.map_nil, eval_const])) ((HL2 w).mono fun e w' h => h.run)) ?_
 refine AllSteps.next (fun _ _ _ h _ => h) (fun j b h => by cases h) (fun a w hl hb hd o ho => by have e1 := hb 3 _ rfl; exact Runs.val (yv_move (S := fun _ => True) e1 o w ho trivial) ⟨Lat.refl _, fun _ => rfl⟩) ?_
 refine AllSteps.next (fun _ _ _ h hl => h.mono hl) (fun j b h => by cases h) (fun a w hl hb hd o ho => by obtain ⟨v1, e1, q1⟩ := hd 0 _ _ (by simp) rfl rfl; obtain ⟨A1, n1, c1, rfl, r1, m1⟩ := (show LN 2 2 v1 w from q1); obtain ⟨v2, e2, q2⟩ := hd 1 _ _ (by simp) rfl rfl; subst q2; exact Runs.call (yv_call (f := 37) (fun _ => by go_simp) o ho (by simp only [List.map_toArray, List.map_cons, List.map_nil, eval_const, e1, e2])) ((HR A1 n1 c1 w r1 m1).mono fun e w' h => h.run)) ?_
 refine AllSteps.next (fun _ _ _ h _ => h) (fun j b h => by cases h) (fun a w hl hb hd o ho => by have e1 := hb 1 _ rfl; exact Runs.val (yv_load (S := Lat V) e1 R1 Tryz.underlying85 rfl J85 o w ho hl) ⟨Lat.refl _, fun _ => rfl⟩) ?_
 refine AllSteps.next (fun _ _ _ h _ => h) (fun j b h => by cases h) (fun a w hl hb hd o ho => by obtain ⟨v1, e1, q1⟩ := hd 2 _ _ (by simp) rfl rfl; obtain ⟨A1, n1, c1, rfl, r1, m1⟩ := (show LN p 1100 v1 w from q1); obtain ⟨v2, e2, q2⟩ := hd 3 _ _ (by simp) rfl rfl; subst q2; exact Runs.call (yv_call (f := 41) (fun _ => by go_simp) o ho (by simp only [List.map_toArray, List.map_cons, List.map_nil, eval_const, e1, e2])) ((HO A1 n1 c1 w hl r1 m1).mono fun e w' h => ⟨_, h.1, h.2, fun _ => rfl⟩)) ?_
 refine AllSteps.next (fun _ _ _ h _ => h) (fun j b h => by cases h) (fun a w hl hb hd o ho => by obtain ⟨v1, e1, q1⟩ := hd 4 _ _ (by simp) rfl rfl; subst q1; obtain ⟨d, op, ty, p, af, g⟩ := o; simp only at ho; subst ho; have ec : ∀ v, a.eval (.const v) = v := fun _ => rfl; exact Runs.val (by unfold execOp; generalize a.eval = ev at e1 ec ⊢; simp only [e1, ec]; rw [← hob]; go_simp) ⟨Lat.refl _, fun _ => rfl⟩) ?_
 exact AllSteps.none
set_option maxRecDepth 100000 in
set_option maxHeartbeats 4000000 in
theorem rDigits_any (b : Bool) (A : Option Addr) (n c : Nat) (z : Int) (w : World) (h : Rg w b A n c z) (hz : 0 ≤ z) (hz2 : z < P511) (hn : n ≤ 1000) :
  Calls Tryz.prog 50 #[.agg #[.bool b, .slice A n c]] w (fun e w' => e = .returned (.int .i64 (blen z : Nat)) ∧ Lat w w') := by
 have hb511 := blen_lt hz hz2
 have HT := Lib.hid (fun (k : Nat) (p o : Int) => @dg_test z p o k hz)
 have HL2 := Lib.hid (fun w => (rLong1_any 2 w (by decide) (by decide)).mono fun e w' h => h.nonneg (by decide))
 obtain ⟨B, hB⟩ : ∃ B, blen z = B := ⟨_, rfl⟩
 rw [hB] at hb511 HT ⊢
 clear hB hz hz2
 go_enter Tryz.func50, Tryz.ntmps50
 go_upto_region 1 with (fail)
 refine name1 (Q := fun W => Code.wp _ _ _ _ W) ?_
 intro W hl hs k1
 obtain ⟨g1, hg1⟩ : ∃ z, w.heap.size = z := ⟨_, rfl⟩
 rw [hg1] at k1 ⊢
 replace h := h.later hl
 clear hs hg1
 go_upto_region 2 with (fail)
 go_loopw [3] (fun i wr => ∃ k : Nat, i = .int .i64 k ∧ k ≤ B ∧ Rg wr b A n c z ∧ Blk wr g1 85 #[.bool b, .slice A n c] ∧ Lat w wr) (fun i _ => B - (intOf i).toNat)
 case atStart => exact ⟨0, rfl, by omega, h, k1, hl⟩
 case round =>
  clear h k1 hl
  obtain ⟨k, rfl, hk, hr, k1, L⟩ := hrel
  have hk511 : k ≤ 511 := by omega
  obtain ⟨p, hp⟩ : ∃ p, (2 : Int) ^ k = p := ⟨_, rfl⟩
  obtain ⟨o, ho⟩ : ∃ o, ordR (p - z) = o := ⟨_, rfl⟩
  by_cases hkB : k < B
  ·have hob := (HT.out k p o hp ho).1 hkB
   have R1 : ∀ w', Lat wr w' → w'.rangeAt g1 0 [.bool b, .slice A n c] := fun w' hl => (k1.later hl).rangeAll
   have J85 : (Tryz.prog.info? 85).map (·.size) = some 2 := by kernel_rfl
   have HR := dg_raise hk511 hp
   have HOr := dg_order (c := c) (p := p) hr hn ho
   go_upto_region 2 with (fail)
   rename_i KN hKN
   refine wp_region_slots (dg2_rows b A n c k g1 p o true) (dg2_base b A n c k g1 p o true) 13 6 [[], [], [0, 1, 0], [], [2, 3, 2], [4]] (by kernel_rfl) (by kernel_rfl) (by kernel_rfl) (by kernel_rfl) (by kernel_rfl) (by kernel_rfl) (by rfl) rfl ?_ (dg2_steps wr b A n c k g1 p o true hob R1 J85 HL2.out HR HOr) ?_
   ·
    exact base_of (base_cons (by rfl) (base_cons (by rfl) (base_cons (by rfl) (base_cons (by rfl) (base_cons (by rfl) (base_nil _))))))
   ·intro a9 W9 hsz9 hdf9 hL9 hbs hsl
    obtain ⟨v9, h9, q9⟩ := hsl 5 _ _ rfl rfl
    obtain rfl : v9 = .bool true := q9
    have w9 := slot_getD h9
    clear h9
    refine hKN _ _ ?_
    obtain ⟨T9, df9⟩ := a9
    obtain rfl : df9 = [] := hdf9
    obtain ⟨f, hf, rfl⟩ := spell13 T9 hsz9
    have X9 := fun k v h => (hf k).trans (slot_getD (hbs k v h))
    have x9 := (hf 9).trans w9
    clear hbs hsl hf hsz9 hKN w9
    simp only [X9 0 _ rfl, X9 1 _ rfl, X9 2 _ rfl, X9 3 _ rfl, X9 12 _ rfl, x9]
    clear x9 X9
    have hr9 := hr.later hL9
    have k9 := k1.later hL9
    have L9 := L.trans hL9
    clear hr k1 L R1 J85 HR HOr hp ho
    go_wp2
    go_roundw
    case rel => exact ⟨k + 1, by go_num, hkB, hr9, k9, L9⟩
    case measure => simp [intOf]; omega
  ·obtain rfl : k = B := by omega
   have hob := (HT.out k p o hp ho).2 rfl
   have R1 : ∀ w', Lat wr w' → w'.rangeAt g1 0 [.bool b, .slice A n c] := fun w' hl => (k1.later hl).rangeAll
   have J85 : (Tryz.prog.info? 85).map (·.size) = some 2 := by kernel_rfl
   have HR := dg_raise hk511 hp
   have HOr := dg_order (c := c) (p := p) hr hn ho
   go_upto_region 2 with (fail)
   rename_i KN hKN
   refine wp_region_slots (dg2_rows b A n c k g1 p o false) (dg2_base b A n c k g1 p o false) 13 6 [[], [], [0, 1, 0], [], [2, 3, 2], [4]] (by kernel_rfl) (by kernel_rfl) (by kernel_rfl) (by kernel_rfl) (by kernel_rfl) (by kernel_rfl) (by rfl) rfl ?_ (dg2_steps wr b A n c k g1 p o false hob R1 J85 HL2.out HR HOr) ?_
   ·
    exact base_of (base_cons (by rfl) (base_cons (by rfl) (base_cons (by rfl) (base_cons (by rfl) (base_cons (by rfl) (base_nil _))))))
   ·intro a9 W9 hsz9 hdf9 hL9 hbs hsl
    obtain ⟨v9, h9, q9⟩ := hsl 5 _ _ rfl rfl
    obtain rfl : v9 = .bool false := q9
    have w9 := slot_getD h9
    clear h9
    refine hKN _ _ ?_
    obtain ⟨T9, df9⟩ := a9
    obtain rfl : df9 = [] := hdf9
    obtain ⟨f, hf, rfl⟩ := spell13 T9 hsz9
    have X9 := fun k v h => (hf k).trans (slot_getD (hbs k v h))
    have x9 := (hf 9).trans w9
    clear hbs hsl hf hsz9 hKN w9
    simp only [X9 0 _ rfl, X9 1 _ rfl, X9 2 _ rfl, X9 3 _ rfl, X9 12 _ rfl, x9]
    clear x9 X9
    have L9 := L.trans hL9
    clear hr k1 L R1 J85 HR HOr hp ho
    go_wp2
    go_ret
    exact ⟨rfl, L9⟩
end Go.Proofs.YtogkkhaepfablaaGreat
