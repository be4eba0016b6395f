/- Several texts in one: CnA, RgD, RgE, RgF, DwA, DwF, Lv, RgI, DwW, DrI, Win, RgJ, RgK, RgL, BwA, BwB, Below, Frame, FrameC, FrDr, BwC. -/
import Derived.Test.YtogkkhaepfablaaGreatChC
import Derived.Test.YtogkkhaepfablaaGreatJ19
import Derived.Test.YtogkkhaepfablaaGreatChP
import Derived.Deep.DeepCutAuto
import Derived.Test.YtogkkhaepfablaaGreatJ20
import Derived.Test.YtogkkhaepfablaaGreatJ21
import Derived.Test.YtogkkhaepfablaaGreatRgA
import Derived.Test.YtogkkhaepfablaaGreatChF
import Derived.Test.YtogkkhaepfablaaGreatJ22
import Derived.Test.YtogkkhaepfablaaGreatChJ
import Derived.Test.YtogkkhaepfablaaGreatJ18
import Derived.Test.YtogkkhaepfablaaGreatJ23
import Derived.Test.YtogkkhaepfablaaGreatSlq
import Derived.Test.YtogkkhaepfablaaGreatK29
import Derived.Test.YtogkkhaepfablaaGreatChW
import Derived.Test.YtogkkhaepfablaaGreatChX
import Derived.Test.YtogkkhaepfablaaGreatK30
import Derived.Test.YtogkkhaepfablaaGreatChG
import Derived.Test.YtogkkhaepfablaaGreatK31
import Derived.OpenShut
import Derived.Test.YtogkkhaepfablaaGreatRows
import Derived.Test.YtogkkhaepfablaaGreatJ01
import Derived.Below
import Derived.WalkKit
import Derived.ProofKit
import Derived.ShutString
import Derived.ChangeSame
import Derived.ReadAgain
import Derived.Lib.SmallJoins
import Derived.Deep.Strs
import Derived.Test.YtogkkhaepfablaaGreatCwD

/- Chance: the reference's next number, and another state by a label. -/
namespace Go.Proofs.YtogkkhaepfablaaGreat
open Go.RowKit
set_option linter.unusedSimpArgs false

/-- The facts of one number, as the reference's walk needs them. -/
structure MixR (s a b c x : Nat) : Prop where
  e0 : IntKind.u64.wrap ((s : Int) + 11400714819323198485) = (a : Int)
  e1 : ∃ y : Int, IntKind.u64.wrap ((a : Int) / 1073741824) = y ∧ IntKind.u64.wrap (bits .xor .u64 (a : Int) y * 13787848793156543929) = (b : Int)
  e2 : ∃ y : Int, IntKind.u64.wrap ((b : Int) / 134217728) = y ∧ IntKind.u64.wrap (bits .xor .u64 (b : Int) y * 10723151780598845931) = (c : Int)
  e3 : ∃ y : Int, IntKind.u64.wrap ((c : Int) / 2147483648) = y ∧ bits .xor .u64 (c : Int) y = (x : Int)
theorem mixR (s : Nat) (hs : s < 18446744073709551616) : MixR s (chStep s) (chM1 (chStep s)) (chM2 (chM1 (chStep s))) (chMix (chStep s)) := by
  obtain ⟨h0, h1, h2, h3⟩ := mixF s hs
  have b1 := chStep_lt s
  have b2 := chM1_lt (chStep s)
  have b3 := chM2_lt (chM1 (chStep s))
  exact ⟨h0, ⟨_, by rw [IntKind.wrap_u64]; exact Int.emod_eq_of_lt (by omega) (by omega), h1⟩, ⟨_, by rw [IntKind.wrap_u64]; exact Int.emod_eq_of_lt (by omega) (by omega), h2⟩, ⟨_, by rw [IntKind.wrap_u64]; exact Int.emod_eq_of_lt (by omega) (by omega), h3⟩⟩

set_option maxRecDepth 100000 in
set_option maxHeartbeats 1000000 in
theorem rNext_in (s a b c x : Nat) (F : MixR s a b c x) (w : World) :
    Calls Tryz.prog 40 #[.agg #[.int .u64 s]] w (fun e w' => e = .returned (.tuple #[.int .u64 (x : Nat), .agg #[.int .u64 (a : Nat)]]) ∧ Lat w w') := by
  obtain ⟨e0, ⟨y1, f1, e1⟩, ⟨y2, f2, e2⟩, ⟨y3, f3', e3⟩⟩ := F
  go_enter Tryz.func40, Tryz.ntmps40
  go_upto_region 1 with (fail)
  refine name2 (Q := fun W => Code.wp _ _ _ _ W) ?_
  intro W1 l1 hs1 k1 k3
  have c1 : W1.cell? ⟨w.heap.size, 0, none⟩ = some (.int .u64 (s : Int)) := k1.cell 0
  have f3 := k3.frozen 0
  have h3 := k3.lt
  have d3 : W1.cell? ⟨w.heap.size + 1, 0, none⟩ = some (.int .u64 0) := k3.cell 0
  go_wp2
  refine name_set (Q := fun W => bodyPost _ _ _ _ _ W) k3 ?_
  intro W2 k5 g1 g2 g3
  have L2 := g3.narrow l1 (by omega)
  have g0 : W2.cell? ⟨w.heap.size + 1, 0, none⟩ = some (.int .u64 (a : Int)) := k5.cell 0
  refine bodyPost_ret (v := .tuple #[.int .u64 (x : Int), .agg #[.int .u64 (a : Int)]]) (by simp [results, Tryz.results40, go_sem, g0]) rfl ?_
  exact ⟨rfl, L2⟩
def RxC (s x t : Nat) : Prop := ∀ w : World, Calls Tryz.prog 40 #[.agg #[.int .u64 s]] w (fun e w' => e = .returned (.tuple #[.int .u64 (x : Nat), .agg #[.int .u64 (t : Nat)]]) ∧ Lat w w')
theorem rxC (s : Nat) (hs : s < 18446744073709551616) : RxC s (chMix (chStep s)) (chStep s) := fun w => rNext_in s _ _ _ _ (mixR s hs) w

end Go.Proofs.YtogkkhaepfablaaGreat

/- Chance: the reference's powers. -/
namespace Go.Proofs.YtogkkhaepfablaaGreat
open Go.RowKit
set_option linter.unusedSimpArgs false

theorem rg_succ (k : Nat) : Value.int .i64 ((k : Int) + 1) = .int .i64 ((k + 1 : Nat) : Int) := by simp
theorem rg_up {b k : Nat} (h : k < b) : b - (intOf (.int .i64 ((k : Int) + 1))).toNat < b - (intOf (.int .i64 (k : Int))).toNat := by
  show b - ((k : Int) + 1).toNat < b - ((k : Int)).toNat
  omega
/-- A number goes on where one block that holds no int is written. -/
theorem Rg.keepL {w W : World} {b : Bool} {A : Option Addr} {n c : Nat} {z : Int} {g : Nat} {t : TypeId} {cs : Array Value} (h : Rg w b A n c z) (hl : LatP (· = g) w W) (hb : Blk w g t cs) (hno : ∀ (j : Nat) (x : Int), cs[j]? ≠ some (.int .i64 x)) : Rg W b A n c z := by
  have ha := h.apart hb hno
  obtain ⟨hn, xs, hs, r⟩ := h
  refine ⟨hn, xs, ⟨hs.1, fun hp => ?_⟩, r⟩
  obtain ⟨a, e, hlt, hc⟩ := hs.2 hp
  refine ⟨a, e, Nat.lt_of_lt_of_le hlt hl.size, fun i x hx => ?_⟩
  have hk : W.heap[(a.add i).block]? = w.heap[(a.add i).block]? := by rw [block_add]; exact hl.block _ hlt (ha hp a e)
  exact (World.cell?_of_block hk).trans (hc i x hx)
/-- A number written over another one: the world under a name. -/
theorem name_long {w : World} {g : Nat} {t : TypeId} {b0 b' : Bool} {A0 A' : Option Addr} {n0 c0 n' c' : Nat} {Q : World → Prop} (hb : Blk w g t #[.bool b0, .slice A0 n0 c0])
    (h : ∀ W, Blk W g t #[.bool b', .slice A' n' c'] → LatP (· = g) w W → (∀ {b A n c z}, Rg w b A n c z → Rg W b A n c z) → Q W) :
    Q ((w.setCell ⟨g, 0, none⟩ (.bool b')).setCell ⟨g, 1, none⟩ (.slice A' n' c')) := by
  refine h _ ?_ ?_ ?_
  · have := (hb.set 0 (.bool b')).set 1 (.slice A' n' c')
    simpa using this
  · exact LatP.setCells [.bool b', .slice A' n' c'] w 0
  · intro b A n c z hr
    have ha := hr.apart hb (no_i64 _ _ _ _)
    exact (hr.far (p := ⟨g, 0, none⟩) ha _).far (p := ⟨g, 1, none⟩) ha _

set_option maxRecDepth 100000 in
set_option maxHeartbeats 1000000 in
theorem rRaised_any (b1 : Bool) (A1 : Option Addr) (n1 c1 : Nat) (x : Int) (k : Nat) (w : World) (h1 : Rg w b1 A1 n1 c1 x) (hn : n1 ≤ 2) (hk : k ≤ 1000) :
    Calls Tryz.prog 37 #[.agg #[.bool b1, .slice A1 n1 c1], .int .i64 k] w (RefPost w (x ^ k) (2 + 2 * k)) := by
  go_enter Tryz.func37, Tryz.ntmps37
  go_upto_region 1 with (fail)
  refine name2 (Q := fun W => Code.wp _ _ _ _ W) ?_
  intro W hl hs k2 k4
  go_wp2_with fail
  refine (rLong1_any 1 W (by decide) (by decide)).mono ?_
  rintro e w1 ⟨b, A, n, c, rfl, r1, r2, l1⟩
  replace k2 := k2.later l1
  replace k4 := k4.later l1
  have L1 := hl.trans l1
  have R1 := h1.later L1
  have h4 := k4.lt
  clear h1 hl l1 hs
  go_upto_region 2 with (fail)
  refine name1 (Q := fun W => Code.wp _ _ _ _ W) ?_
  intro w2 l2 hs2 k5
  replace k2 := k2.later l2
  replace k4 := k4.later l2
  have L2 := L1.trans l2
  have R2 := R1.later l2
  replace r1 := r1.later l2
  obtain ⟨g5, hg5⟩ : ∃ z, w1.heap.size = z := ⟨_, rfl⟩
  rw [hg5] at k5 h4 ⊢
  obtain ⟨g4, hg4⟩ : ∃ z, w.heap.size + 1 = z := ⟨_, rfl⟩
  rw [hg4] at k4 h4 ⊢
  have hw4 : w.heap.size ≤ g4 := by omega
  clear hg5 hg4 L1 R1 l2 hs2
  go_wp2_with fail
  go_loopw [6] (fun i wr => ∃ (j : Nat) (b : Bool) (A : Option Addr) (n c : Nat), i = .int .i64 j ∧ j ≤ k ∧ Rg wr b A n c (x ^ j) ∧ n ≤ 2 + 2 * j ∧ Rg wr b1 A1 n1 c1 x ∧ Blk wr w.heap.size 85 #[.bool b1, .slice A1 n1 c1] ∧ Blk wr g4 85 #[.bool false, .slice none 0 0] ∧ Blk wr g5 85 #[.bool b, .slice A n c] ∧ Lat w wr) (fun i _ => k - (intOf i).toNat)
  case atStart => exact ⟨0, b, A, n, c, rfl, by omega, by rw [Int.pow_zero]; exact r1, by omega, R2, k2, k4, k5, L2⟩
  case round =>
    clear r1 r2 k2 k4 k5 L2 R2
    obtain ⟨j, b, A, n, c, rfl, hj, r1, r2, R2, k2, k4, k5, L2⟩ := hrel
    by_cases hjk : j < k
    · have hjI : (j : Int) < (k : Int) := by omega
      have d0 := k2.cell 0
      have d1 := k2.cell 1
      have e0 := k5.cell 0
      have e1 := k5.cell 1
      go_wp2_with fail
      refine (rTimes_any b A n c (x ^ j) b1 A1 n1 c1 x wr r1 R2 (by omega) (by omega)).mono ?_
      rintro e w3 ⟨b', A', n', c', rfl, q1, q2, l3⟩
      replace k2 := k2.later l3
      replace k4 := k4.later l3
      replace k5 := k5.later l3
      have L3 := L2.trans l3
      have R3 := R2.later l3
      clear d0 d1 e0 e1 r1 R2 l3
      have e0 := k5.cell 0
      have e1 := k5.cell 1
      have f0 := k5.frozen 0
      have f1 := k5.frozen 1
      have hlt := k5.lt
      have hlt4 := k4.lt
      go_upto_region 4 with (fail)
      refine name_long (Q := fun W => Code.wp _ _ _ _ W) k5 ?_
      intro w4 j5 l4 hr4
      have j2 := k2.keepP l4 (by omega)
      have j4 := k4.keepP l4 (by omega)
      have L4 := l4.narrow L3 (by omega)
      go_wp2
      exact ⟨⟨j + 1, b', A', n', c', rg_succ j, hjk, by rw [Int.pow_succ]; exact hr4 q1, by omega, hr4 R3, j2, j4, j5, L4⟩, rg_up hjk⟩
    · obtain rfl : j = k := by omega
      have e0 := k5.cell 0
      have e1 := k5.cell 1
      have f0 := k4.frozen 0
      have f1 := k4.frozen 1
      have d0 := k4.cell 0
      have d1 := k4.cell 1
      have hlt := k4.lt
      go_wp2
      refine name_long (Q := fun W => bodyPost _ _ _ _ _ W) k4 ?_
      intro w4 j4 l4 hr4
      have c0 := j4.cell 0
      have c1 := j4.cell 1
      refine bodyPost_ret (v := .agg #[.bool b, .slice A n c]) (by simp [results, Tryz.results37, go_sem, c0, c1]) rfl ?_
      exact ⟨b, A, n, c, rfl, hr4 r1, r2, l4.narrow L2 hw4⟩
end Go.Proofs.YtogkkhaepfablaaGreat

/- Chance: the reference's Below. -/
namespace Go.Proofs.YtogkkhaepfablaaGreat
open Go.RowKit
set_option linter.unusedSimpArgs false

def one64 (x : Nat) : W8 := ⟨x, 0, 0, 0, 0, 0, 0, 0⟩
theorem one64_ok {x : Nat} (h : x < 18446744073709551616) : (one64 x).ok := by
  intro y hy
  simp only [one64, W8.list, List.mem_cons, List.not_mem_nil, or_false] at hy
  have : (0 : Int) < W64 := W64_pos
  unfold W64 at *
  rcases hy with rfl | rfl | rfl | rfl | rfl | rfl | rfl | rfl <;> omega
theorem one64_int {x : Nat} (_h : x < 18446744073709551616) : (one64 x).toInt = x := by
  unfold W8.toInt
  rw [if_pos (by simp [one64]), W8.mag_eq]
  simp [one64]
set_option maxRecDepth 100000 in
set_option maxHeartbeats 1000000 in
theorem words64_any (x : Nat) (hx : x < 18446744073709551616) (w : World) : Calls Tryz.prog 42 #[.int .u64 (x : Nat)] w (RefPost w x 17) := by
  have HI := fun w => rIn_any (one64 x) (one64_ok hx) w
  rw [one64_int hx] at HI
  go_enter Tryz.func42, Tryz.ntmps42
  go_upto_region 1 with (fail)
  refine name1 (Q := fun W => Code.wp _ _ _ _ W) ?_
  intro W hl hs k2
  go_wp2_with fail
  refine (HI W).mono ?_
  rintro e w1 ⟨b, A, n, c, rfl, r1, r2, l1⟩
  replace k2 := k2.later l1
  have L1 := hl.trans l1
  have d0 := k2.cell 0
  have d1 := k2.cell 1
  have f0 := k2.frozen 0
  have f1 := k2.frozen 1
  have hlt := k2.lt
  go_wp2
  refine name_long (Q := fun W => bodyPost _ _ _ _ _ W) k2 ?_
  intro w4 j4 l4 hr4
  have c0 := j4.cell 0
  have c1 := j4.cell 1
  refine bodyPost_ret (v := .agg #[.bool b, .slice A n c]) (by simp [results, Tryz.results42, go_sem, c0, c1]) rfl ?_
  exact ⟨b, A, n, c, rfl, hr4 r1, r2, l4.narrow L1 (Nat.le_refl _)⟩

theorem no_i64u (s : Int) : ∀ (j : Nat) (x : Int), (#[.int .u64 s] : Array Value)[j]? ≠ some (.int .i64 x) := by
  intro j x
  match j with
  | 0 => simp
  | j + 1 => simp
set_option maxRecDepth 100000 in
set_option maxHeartbeats 1000000 in
theorem rBelow_low (s : Nat) (n : Int) (h : n < 1) (w : World) :
    Calls Tryz.prog 9 #[.agg #[.int .u64 s], .int .i64 n] w (fun e w' => e = .returned (.tuple #[.int .i64 0, .agg #[.int .u64 0], .int .i64 2]) ∧ Lat w w') := by
  have h0 : decide (n < 1) = true := decide_eq_true h
  go_enter Tryz.func9, Tryz.ntmps9
  go_upto_region 1 with (fail)
  refine name2 (Q := fun W => Code.wp _ _ _ _ W) ?_
  intro W l1 hs k1 k2
  have c5 : W.cell? ⟨w.heap.size + 1, 0, none⟩ = some (.int .u64 0) := k2.cell 0
  have f5 := k2.frozen 0
  have hlt5 := k2.lt
  go_wp2
  refine name_set (Q := fun W => bodyPost _ _ _ _ _ W) k2 ?_
  intro W6 k6 _ _ lp6
  have g0 : W6.cell? ⟨w.heap.size + 1, 0, none⟩ = some (.int .u64 0) := k6.cell 0
  refine bodyPost_ret (v := .tuple #[.int .i64 0, .agg #[.int .u64 0], .int .i64 2]) (by simp [results, Tryz.results9, go_sem, g0]) rfl ?_
  exact ⟨rfl, lp6.narrow l1 (by omega)⟩
/-- What the reference's Below hands back. -/
def RbPost (n : Nat) (ok : Nat → Bool) (st xs : Nat → Nat) (w : World) (e : Ending) (w' : World) : Prop :=
  ((∃ j, j < 200 ∧ (∀ i, i < j → ok (xs i) = false) ∧ ok (xs j) = true ∧ e = .returned (.tuple #[.int .i64 ((xs j % n : Nat) : Int), .agg #[.int .u64 (st (j + 1) : Nat)], .int .i64 0])) ∨
   ((∀ i, i < 200 → ok (xs i) = false) ∧ e = .returned (.tuple #[.int .i64 0, .agg #[.int .u64 0], .int .i64 9]))) ∧ Lat w w'
set_option maxRecDepth 100000 in
set_option maxHeartbeats 4000000 in
theorem rBelow_in (s n : Nat) (h1 : 1 ≤ n) (h2 : n < 9223372036854775808) (lim : Int) (hlim : (18446744073709551616 : Int) / n * n = lim) (st xs : Nat → Nat) (h0 : st 0 = s) (HN : ∀ j, RxC (st j) (xs j) (st (j + 1)))
    (hx : ∀ j, xs j < 18446744073709551616) (ok : Nat → Bool) (hok : ∀ x, x < 18446744073709551616 → (ok x = true ↔ (x : Int) < lim)) (w : World) :
    Calls Tryz.prog 9 #[.agg #[.int .u64 s], .int .i64 n] w (RbPost n ok st xs w) := by
  have hn1 : ¬ (n : Int) < 1 := by omega
  have hpow : (2 : Int) ^ 64 = 18446744073709551616 := by decide
  have HR : ∀ (b1 : Bool) (A1 : Option Addr) (n1 c1 : Nat) (w : World), Rg w b1 A1 n1 c1 2 → n1 ≤ 2 → Calls Tryz.prog 37 #[.agg #[.bool b1, .slice A1 n1 c1], .int .i64 64] w (RefPost w 18446744073709551616 130) := fun b1 A1 n1 c1 w h h' => by
    have := rRaised_any b1 A1 n1 c1 2 64 w h h' (by decide)
    rw [hpow] at this
    exact this
  have HL2 : ∀ w, Calls Tryz.prog 38 #[.int .i64 2] w (RefPost w 2 2) := fun w => rLong1_any 2 w (by decide) (by decide)
  have HLn : ∀ w, Calls Tryz.prog 38 #[.int .i64 (n : Nat)] w (RefPost w n 2) := fun w => rLong1_any n w (by omega) (by omega)
  have HP : ∀ (b1 : Bool) (A1 : Option Addr) (n1 c1 : Nat) (b2 : Bool) (A2 : Option Addr) (n2 c2 : Nat) (w : World), Rg w b1 A1 n1 c1 18446744073709551616 → Rg w b2 A2 n2 c2 n → n1 ≤ 130 → n2 ≤ 2 → Calls Tryz.prog 36 #[.agg #[.bool b1, .slice A1 n1 c1], .agg #[.bool b2, .slice A2 n2 c2]] w (RPartsPost w (18446744073709551616 / n) (18446744073709551616 % n) (n1 + 1) n2) :=
    fun b1 A1 n1 c1 b2 A2 n2 c2 w h h' g g' => rParts_any b1 A1 n1 c1 _ b2 A2 n2 c2 _ w h h' (by omega) (.inl (by decide)) (by omega) (by omega)
  have HT : ∀ (b1 : Bool) (A1 : Option Addr) (n1 c1 : Nat) (b2 : Bool) (A2 : Option Addr) (n2 c2 : Nat) (w : World), Rg w b1 A1 n1 c1 (18446744073709551616 / n) → Rg w b2 A2 n2 c2 n → n1 ≤ 131 → n2 ≤ 2 → Calls Tryz.prog 39 #[.agg #[.bool b1, .slice A1 n1 c1], .agg #[.bool b2, .slice A2 n2 c2]] w (RefPost w lim (n1 + n2)) :=
    fun b1 A1 n1 c1 b2 A2 n2 c2 w h h' g g' => by
      have := rTimes_any b1 A1 n1 c1 _ b2 A2 n2 c2 _ w h h' (by omega) (by omega)
      rw [hlim] at this
      exact this
  have HW : ∀ j w, Calls Tryz.prog 42 #[.int .u64 (xs j : Nat)] w (RefPost w (xs j : Nat) 17) := fun j w => words64_any _ (hx j) w
  have HO : ∀ j (b1 : Bool) (A1 : Option Addr) (n1 c1 : Nat) (b2 : Bool) (A2 : Option Addr) (n2 c2 : Nat) (w : World), Rg w b1 A1 n1 c1 (xs j : Nat) → Rg w b2 A2 n2 c2 lim → n1 ≤ 17 → n2 ≤ 133 → Calls Tryz.prog 41 #[.agg #[.bool b1, .slice A1 n1 c1], .agg #[.bool b2, .slice A2 n2 c2]] w (fun e w' => e = .returned (.int .i64 (if ok (xs j) = true then -1 else if (xs j : Int) = lim then 0 else 1)) ∧ Lat w w') :=
    fun j b1 A1 n1 c1 b2 A2 n2 c2 w h h' g g' => by
      have := rOrder_any b1 A1 n1 c1 _ b2 A2 n2 c2 _ w h h' (by omega) (by omega)
      have e : ordR ((xs j : Int) - lim) = if ok (xs j) = true then -1 else if (xs j : Int) = lim then 0 else 1 := by
        have := hok (xs j) (hx j)
        unfold ordR
        by_cases h : ok (xs j) = true
        · rw [if_pos h, if_pos (by have := this.1 h; omega)]
        · have h3 : ¬ (xs j : Int) < lim := fun h4 => h (this.2 h4)
          rw [if_neg h, if_neg (by omega)]
          by_cases h5 : (xs j : Int) = lim
          · rw [if_pos h5, if_pos (by omega)]
          · rw [if_neg h5, if_neg (by omega)]
      rw [e] at this
      exact this
  have H0 := Lib.hid h0
  have HX := Lib.hid hx
  clear hlim hpow hok h0 hx
  go_enter Tryz.func9, Tryz.ntmps9
  go_upto_region 1 with (fail)
  refine name2 (Q := fun W => Code.wp _ _ _ _ W) ?_
  intro W hl hs k2 k5
  obtain ⟨g2, hg2⟩ : ∃ z, w.heap.size = z := ⟨_, rfl⟩
  obtain ⟨g5, hg5⟩ : ∃ z, w.heap.size + 1 = z := ⟨_, rfl⟩
  rw [hg2] at k2
  rw [hg5] at k5
  have hb : w.heap.size ≤ g2 ∧ g2 < g5 := by omega
  rw [hg5, hg2]
  clear hs
  go_wp2_with fail
  refine (HL2 W).mono ?_
  rintro e w1 ⟨b, A, n1, c, rfl, r1, r2, l1⟩
  go_wp2_with fail
  refine (HR b A n1 c w1 r1 r2).mono ?_
  rintro e w2 ⟨b', A', n1', c', rfl, r3, r4, l2⟩
  go_wp2_with fail
  refine (HLn w2).mono ?_
  rintro e w3 ⟨b2, A2, n2, c2, rfl, r5, r6, l3⟩
  go_wp2_with fail
  refine (HP b' A' n1' c' b2 A2 n2 c2 w3 (r3.later l3) r5 r4 r6).mono ?_
  rintro e w4 ⟨bq, Aq, nq, cq, br, Ar, nr, cr, rfl, q1, q2, q3, q4, l4⟩
  have LL := ((l1.trans l2).trans l3).trans l4
  replace k2 := k2.later LL
  replace k5 := k5.later LL
  have L4 := hl.trans LL
  clear l1 l2 l3 l4 LL r1 r2 r3 r5 r6 hl HL2 HR HP q3
  go_upto_region 4 with (fail)
  refine name2 (Q := fun W => Code.wp _ _ _ _ W) ?_
  intro V l5 hs5 k7 k8
  obtain ⟨g7, hg7⟩ : ∃ z, w4.heap.size = z := ⟨_, rfl⟩
  rw [hg7] at k7 ⊢
  have hg57 : g5 < g7 := by rw [← hg7]; exact k5.lt
  replace k2 := k2.later l5
  replace k5 := k5.later l5
  replace q1 := q1.later l5
  have L5 := L4.trans l5
  clear l5 hs5 k8 hg7 L4 hg2 hg5
  rename_i K4 hK4
  have TAIL4 : ∀ (a3 a7 a8 a10 a11 a12 a13 a14 a15 a16 a17 a18 a19 a20 a21 a22 a23 a24 a25 a26 a27 a28 a29 a30 a31 a32 a33 a34 a35 a36 a37 a38 a39 a40 a41 a42 a43 a44 a45 a46 a47 a48 a49 : Value) (g9 : Nat) (b : Bool) (A : Option Addr) (nl cl : Nat) (V : World), Lat w V → Blk V g2 24 #[.int .u64 (s : Nat)] → Blk V g5 24 #[.int .u64 0] → Blk V g9 85 #[.bool b, .slice A nl cl] → Rg V b A nl cl lim → nl ≤ 133 → g5 < g9 → K4 { tmps := #[.agg #[.int .u64 (s : Nat)], .int .i64 (n : Nat), .pointer (some ⟨g2, 0, none⟩), a3, .int .i64 0, .pointer (some ⟨g5, 0, none⟩), .int .i64 0, a7, a8, .pointer (some ⟨g9, 0, none⟩), a10, a11, a12, a13, a14, a15, a16, a17, a18, a19, a20, a21, a22, a23, a24, a25, a26, a27, a28, a29, a30, a31, a32, a33, a34, a35, a36, a37, a38, a39, a40, a41, a42, a43, a44, a45, a46, a47, a48, a49], defers := [] } V := by
    as_aux_lemma =>
      intro a3 a7 a8 a10 a11 a12 a13 a14 a15 a16 a17 a18 a19 a20 a21 a22 a23 a24 a25 a26 a27 a28 a29 a30 a31 a32 a33 a34 a35 a36 a37 a38 a39 a40 a41 a42 a43 a44 a45 a46 a47 a48 a49 g9 b A nl cl V L5 k2 k5 k9 R9 hnl h59
      refine hK4 _ _ ?_
      clear hK4 HLn HT
      have hwg : w.heap.size ≤ g2 := hb.1
      have h25 : g2 < g5 := hb.2
      go_wp2_with fail
      go_loopw [10] (fun i wr => ∃ j : Nat, j ≤ 200 ∧ i = .int .i64 j ∧ (∀ i, i < j → ok (xs i) = false) ∧ Blk wr g2 24 #[.int .u64 (st j : Nat)] ∧ Blk wr g5 24 #[.int .u64 0] ∧ Blk wr g9 85 #[.bool b, .slice A nl cl] ∧ Rg wr b A nl cl lim ∧ Lat w wr) (fun i _ => 200 - (intOf i).toNat)
      case atStart => exact ⟨0, by omega, rfl, fun i hi => absurd hi (Nat.not_lt_zero _), by rw [H0.out]; exact k2, k5, k9, R9, L5⟩
      case round =>
        clear k2 k5 k9 R9 L5
        obtain ⟨j, hj, rfl, hno, k2, k5, k9, R9, L5⟩ := hrel
        by_cases hlt : j < 200
        · obtain ⟨x, hxj⟩ : ∃ x, xs j = x := ⟨_, rfl⟩
          obtain ⟨c, hcj⟩ : ∃ c, st j = c := ⟨_, rfl⟩
          obtain ⟨d, hdj⟩ : ∃ d, st (j + 1) = d := ⟨_, rfl⟩
          have N1 := HN j
          have W1 := HW j
          have O1 := HO j
          rw [hcj, hdj, hxj] at N1
          rw [hxj] at W1 O1
          obtain ⟨r, hr⟩ : ∃ r : Int, (if ok x = true then -1 else if (x : Int) = lim then 0 else 1) = r := ⟨_, rfl⟩
          rw [hr] at O1
          obtain ⟨ob, hob⟩ : ∃ o, ok x = o := ⟨_, rfl⟩
          have hro : decide (r < 0) = ob := by
            rw [← hob, ← hr]
            by_cases h : ok x = true
            · rw [if_pos h, h]; rfl
            · rw [if_neg h]; by_cases h5 : (x : Int) = lim <;> simp [h, h5]
          have HOK := Lib.hid (show decide (r < 0) = ob ∧ ok x = ob from ⟨hro, hob⟩)
          clear hro
          clear hr hob
          rw [hcj] at k2
          have HJ := Lib.hid (show xs j = x ∧ st (j + 1) = d ∧ x < 18446744073709551616 from ⟨hxj, hdj, by rw [← hxj]; exact HX.out j⟩)
          have hltI : (j : Int) < 200 := by omega
          have c2 : wr.cell? ⟨g2, 0, none⟩ = some (.int .u64 (c : Int)) := k2.cell 0
          clear hxj hcj hdj HN HW HO
          go_wp2_with fail
          refine (N1 wr).mono ?_
          rintro e w1 ⟨rfl, l1⟩
          replace k2 := k2.later l1
          replace k5 := k5.later l1
          replace k9 := k9.later l1
          replace R9 := R9.later l1
          replace L5 := L5.trans l1
          clear l1 c2 N1
          go_upto_region 9 with (fail)
          refine name1 (Q := fun W => Code.wp _ _ _ _ W) ?_
          intro w2 l2 hs2 k12
          replace k2 := k2.later l2
          replace k5 := k5.later l2
          replace k9 := k9.later l2
          replace R9 := R9.later l2
          replace L5 := L5.trans l2
          obtain ⟨g12, hg12⟩ : ∃ z, w1.heap.size = z := ⟨_, rfl⟩
          rw [hg12] at k12 ⊢
          clear l2 hs2 hg12
          have c12 : w2.cell? ⟨g12, 0, none⟩ = some (.int .u64 (d : Int)) := k12.cell 0
          have c2 : w2.cell? ⟨g2, 0, none⟩ = some (.int .u64 (c : Int)) := k2.cell 0
          have f2 := k2.frozen 0
          have hlt2 := k2.lt
          go_upto_region 10 with (fail)
          refine name_set (Q := fun W => Code.wp _ _ _ _ W) k2 ?_
          intro w3 j2 _ _ lp
          have j5 := k5.keepP lp (by omega)
          have j9 := k9.keepP lp (by omega)
          have jR := R9.keepL lp k2 (no_i64u _)
          have L6 := lp.narrow L5 hwg
          have R9r : ∀ w', Lat w3 w' → w'.rangeAt g9 0 [.bool b, .slice A nl cl] := fun w' h => Blk.rangeAll (l := [.bool b, .slice A nl cl]) (j9.later h)
          have J91 : (Tryz.prog.info? 85).map (·.size) = some 2 := by kernel_rfl
          clear lp k2 k5 k9 R9 f2 hlt2 c12 c2 k12
          have UL0 := Lat.drew w3
          refine wp_region_held_drew (S := fun w' => Lat w3 w') (by kernel_rfl) UL0 (fun hHeld => ?_)
          generalize w3.drew = U0 at UL0 hHeld ⊢
          refine wpAnyH_take (i := 0) (v := .int .u64 (x : Nat)) rfl (by kernel_rfl) (by kernel_rfl) (by kernel_rfl) (fun _ _ _ h => h) (Or.inl ⟨by rfl, by intro w' hS; go_simp⟩) hHeld ?_
          simp only [Act.put, List.getElem_toArray, List.getElem_cons_succ, List.getElem_cons_zero, List.setIfInBounds_toArray, List.set_cons_zero, List.set_cons_succ]
          refine' wpAnyH_take (i := 2) rfl (by kernel_rfl) (by kernel_rfl) (by kernel_rfl) (fun _ _ _ h => h) (yieldsIf_load_mid (by rfl) 85 (.tmp 9) rfl g9 0 rfl [.bool b, .slice A nl cl] _ R9r Tryz.underlying85 rfl J91) hHeld ?_
          simp only [Act.put, List.getElem_toArray, List.getElem_cons_succ, List.getElem_cons_zero, List.setIfInBounds_toArray, List.set_cons_zero, List.set_cons_succ]
          refine wpAnyH_ready (rs := [1]) (by kernel_rfl) (by simp) (AllReadyH.cons rfl (fun K hK => ?_) AllReadyH.nil)
          go_simp
          refine (W1 _).mono ?_
          rintro e U1 ⟨b3, A3, n3, c3, rfl, p1, p2, la⟩
          have UL1 := UL0.trans la
          refine hK.out _ _ UL1 (fun hHeld1 => ?_)
          clear hK K
          try simp only [Act.put, List.getElem_toArray, List.getElem_cons_succ, List.getElem_cons_zero, List.setIfInBounds_toArray, List.set_cons_zero, List.set_cons_succ]
          clear la
          refine wpAnyH_ready (rs := [3]) (by kernel_rfl) (by simp) (AllReadyH.cons rfl (fun K hK => ?_) AllReadyH.nil)
          go_simp
          refine (O1 b3 A3 n3 c3 b A nl cl _ p1 (jR.later UL1) p2 hnl).mono ?_
          rintro e U2 ⟨rfl, la⟩
          replace p1 := p1.later la
          have UL2 := UL1.trans la
          refine hK.out _ _ UL2 (fun hHeld2 => ?_)
          clear hK K
          try simp only [Act.put, List.getElem_toArray, List.getElem_cons_succ, List.getElem_cons_zero, List.setIfInBounds_toArray, List.set_cons_zero, List.set_cons_succ]
          clear la
          refine wpAnyH_take (i := 4) (v := .bool ob) rfl (by kernel_rfl) (by kernel_rfl) (by kernel_rfl) (fun _ _ _ h => h) (Or.inl ⟨by rfl, by intro w' hS; rw [← HOK.out.1]; go_simp⟩) hHeld2 ?_
          simp only [Act.put, List.getElem_toArray, List.getElem_cons_succ, List.getElem_cons_zero, List.setIfInBounds_toArray, List.set_cons_zero, List.set_cons_succ]
          refine wpAnyH_done (by kernel_rfl) ?_ _
          replace j2 := j2.later UL2
          replace j5 := j5.later UL2
          replace j9 := j9.later UL2
          replace jR := jR.later UL2
          replace L6 := L6.trans UL2
          have hok := HOK.out.2
          clear HOK
          cases ob with
          | true =>
            obtain ⟨hxj, hdj, hxl⟩ := HJ.out
            have c2 : U2.cell? ⟨g2, 0, none⟩ = some (.int .u64 (d : Int)) := j2.cell 0
            have c2d : U2.drew.cell? ⟨g2, 0, none⟩ = some (.int .u64 (d : Int)) := j2.cell 0
            have f5 := j5.frozen 0
            have d5 : U2.cell? ⟨g5, 0, none⟩ = some (.int .u64 0) := j5.cell 0
            have h5 := j5.lt
            have hw1 : IntKind.u64.wrap (n : Int) = (n : Int) := by rw [IntKind.wrap_u64]; omega
            have hn0 : ((n : Int) == 0) = false := by rw [beq_eq_false_iff_ne]; omega
            have hn9 : ¬ n = 0 := by omega
            have hm := Nat.mod_lt x (show 0 < n by omega)
            have hrm : (x : Int).tmod (n : Int) = ((x % n : Nat) : Int) := rfl
            have hw2 : IntKind.i64.wrap (((x % n : Nat) : Int)) = ((x % n : Nat) : Int) := by rw [IntWalk.i64_left]; exact IntWalk.wrap64_in _ (by omega)
            go_wp2_with fail
            go_region_held3 (fun w' => w'.cell? ⟨g2, 0, none⟩ = some (.int .u64 (d : Int))) (first | (with_reducible assumption) | exact cell_off (by omega) _ c2d) (fail)
            all_goals
              go_wp2
              have hw3 : IntKind.i64.wrap ((x : Int) % (n : Int)) = ((x % n : Nat) : Int) := hw2
              rw [hw3]
              have e3 : ((U2.setCell ⟨g5, 0, none⟩ (.int .u64 (d : Int))).drew).cell? ⟨g5, 0, none⟩ = some (.int .u64 (d : Int)) := by
                have := (j5.set 0 (.int .u64 (d : Int))).cell 0
                simpa using this
              have LF : Lat w ((U2.setCell ⟨g5, 0, none⟩ (.int .u64 (d : Int))).drew) := (L6.setCell (p := ⟨g5, 0, none⟩) (by simp; omega) _).trans (Lat.drew _)
              refine bodyPost_ret (v := .tuple #[.int .i64 ((x % n : Nat) : Int), .agg #[.int .u64 (d : Int)], .int .i64 0]) (by simp [results, Tryz.results9, go_sem, e3]) rfl ?_
              exact ⟨.inl ⟨j, hlt, hno, by rw [hxj]; exact hok, by rw [hxj, hdj]⟩, LF⟩
          | false =>
            obtain ⟨hxj, hdj, _⟩ := HJ.out
            go_wp2
            refine ⟨⟨j + 1, hlt, rg_succ j, fun i hi => ?_, by rw [hdj]; exact j2, j5, j9, jR, L6⟩, rg_up hlt⟩
            rcases Nat.lt_succ_iff_lt_or_eq.1 hi with h | rfl
            · exact hno i h
            · rw [hxj]; exact hok
        · obtain rfl : j = 200 := by omega
          have c5 : wr.cell? ⟨g5, 0, none⟩ = some (.int .u64 0) := k5.cell 0
          have f5 := k5.frozen 0
          have hlt5 := k5.lt
          go_wp2
          refine name_set (Q := fun W => bodyPost _ _ _ _ _ W) k5 ?_
          intro W6 k6 _ _ lp6
          have g0 : W6.cell? ⟨g5, 0, none⟩ = some (.int .u64 0) := k6.cell 0
          refine bodyPost_ret (v := .tuple #[.int .i64 0, .agg #[.int .u64 0], .int .i64 9]) (by simp [results, Tryz.results9, go_sem, g0]) rfl ?_
          exact ⟨.inr ⟨hno, rfl⟩, lp6.narrow L5 (by omega)⟩
  have R7 : ∀ w', Lat V w' → w'.rangeAt g7 0 [.bool bq, .slice Aq nq cq] := fun w' h => Blk.rangeAll (l := [.bool bq, .slice Aq nq cq]) (k7.later h)
  have J91 : (Tryz.prog.info? 85).map (·.size) = some 2 := by kernel_rfl
  have hq : nq ≤ 131 := by omega
  have hgV : g7 < V.heap.size := k7.lt
  clear hb r4 q2 q4
  have UL0 := Lat.drew V
  refine wp_region_held_drew (S := fun w' => Lat V w') (by kernel_rfl) UL0 (fun hHeld => ?_)
  generalize V.drew = U0 at UL0 hHeld ⊢
  refine' wpAnyH_take (i := 0) rfl (by kernel_rfl) (by kernel_rfl) (by kernel_rfl) (fun _ _ _ h => h) (yieldsIf_load_mid (by rfl) 85 (.tmp 7) rfl g7 0 rfl [.bool bq, .slice Aq nq cq] _ R7 Tryz.underlying85 rfl J91) hHeld ?_
  simp only [Act.put, List.getElem_toArray, List.getElem_cons_succ, List.getElem_cons_zero, List.setIfInBounds_toArray, List.set_cons_zero, List.set_cons_succ]
  refine wpAnyH_take (i := 1) (v := .int .i64 (n : Nat)) rfl (by kernel_rfl) (by kernel_rfl) (by kernel_rfl) (fun _ _ _ h => h) (Or.inl ⟨by rfl, by intro w' hS; go_simp⟩) hHeld ?_
  simp only [Act.put, List.getElem_toArray, List.getElem_cons_succ, List.getElem_cons_zero, List.setIfInBounds_toArray, List.set_cons_zero, List.set_cons_succ]
  refine wpAnyH_ready (rs := [2, 4]) (by kernel_rfl) (by simp) (AllReadyH.cons rfl (fun K hK => ?_) (AllReadyH.cons rfl (fun K hK => ?_) AllReadyH.nil))
  · skip
    go_simp
    refine (HLn _).mono ?_
    rintro e U1 ⟨bn, An, nn, cn, rfl, p1, p2, la⟩
    have UL1 := UL0.trans la
    refine hK.out _ _ UL1 (fun hHeld1 => ?_)
    clear hK K
    try simp only [Act.put, List.getElem_toArray, List.getElem_cons_succ, List.getElem_cons_zero, List.setIfInBounds_toArray, List.set_cons_zero, List.set_cons_succ]
    clear la
    refine wpAnyH_ready (rs := [3, 4]) (by kernel_rfl) (by simp) (AllReadyH.cons rfl (fun K hK => ?_) (AllReadyH.cons rfl (fun K hK => ?_) AllReadyH.nil))
    · skip
      go_simp
      refine (HT bq Aq nq cq bn An nn cn _ (q1.later UL1) p1 hq p2).mono ?_
      rintro e U2 ⟨bt, At, nt, ct, rfl, t1, t2, la⟩
      replace p1 := p1.later la
      have UL2 := UL1.trans la
      refine hK.out _ _ UL2 (fun hHeld2 => ?_)
      clear hK K
      try simp only [Act.put, List.getElem_toArray, List.getElem_cons_succ, List.getElem_cons_zero, List.setIfInBounds_toArray, List.set_cons_zero, List.set_cons_succ]
      clear la
      refine wpAnyH_ready (rs := [4]) (by kernel_rfl) (by simp) (AllReadyH.cons rfl (fun K hK => ?_) AllReadyH.nil)
      go_simp
      have b_g9 := Blk.new U2 85 #[.bool false, .slice none 0 0]
      have h_g9 : V.heap.size ≤ U2.heap.size := UL2.size
      have la := Lat.alloc U2 (.cells #[.bool false, .slice none 0 0] 85)
      obtain ⟨U3, hV⟩ : ∃ V, U2.alloc (.cells #[.bool false, .slice none 0 0] 85) = V := ⟨_, rfl⟩
      rw [hV] at b_g9 la ⊢
      clear hV
      generalize U2.heap.size = g9 at *
      replace p1 := p1.later la
      replace t1 := t1.later la
      have UL3 := UL2.trans la
      refine hK.out _ _ UL3 (fun hHeld3 => ?_)
      clear hK K
      try simp only [Act.put, List.getElem_toArray, List.getElem_cons_succ, List.getElem_cons_zero, List.setIfInBounds_toArray, List.set_cons_zero, List.set_cons_succ]
      clear la
      refine wpAnyH_ready (rs := [5]) (by kernel_rfl) (by simp) (AllReadyH.cons rfl (fun K hK => ?_) AllReadyH.nil)
      rw [if_pos (by rfl)]
      refine wp_store_mid 85 (.tmp 9) (.tmp 27) rfl g9 0 #[.bool bt, .slice At nt ct] rfl rfl (b_g9.thereAll _ rfl) (by kernel_rfl) (by simp [Value.oneCell']) ?_
      refine name_long (Q := fun W => K _ W) b_g9 ?_
      intro U4 b9 lpS hrg
      replace t1 := hrg t1
      replace b_g9 := b9
      have UL4 : Lat V U4 := lpS.narrow UL3 h_g9
      clear b9 lpS hrg
      refine hK.out _ _ UL4 (fun hHeld4 => ?_)
      clear hK K
      try simp only [Act.put, List.getElem_toArray, List.getElem_cons_succ, List.getElem_cons_zero, List.setIfInBounds_toArray, List.set_cons_zero, List.set_cons_succ]
      refine wpAnyH_done (by kernel_rfl) ?_ _
      exact TAIL4 _ _ _ _ _ _ _ _ _ _ _ _ _ _ _ _ _ _ _ _ _ _ _ _ _ _ _ _ _ _ _ _ _ _ _ _ _ _ _ _ _ _ _ g9 bt At nt ct U4 (L5.trans UL4) (k2.later UL4) (k5.later UL4) b_g9 t1 (by omega) (by omega)
    · skip
      go_simp
      have b_g9 := Blk.new U1 85 #[.bool false, .slice none 0 0]
      have h_g9 : V.heap.size ≤ U1.heap.size := UL1.size
      have la := Lat.alloc U1 (.cells #[.bool false, .slice none 0 0] 85)
      obtain ⟨U2, hV⟩ : ∃ V, U1.alloc (.cells #[.bool false, .slice none 0 0] 85) = V := ⟨_, rfl⟩
      rw [hV] at b_g9 la ⊢
      clear hV
      generalize U1.heap.size = g9 at *
      replace p1 := p1.later la
      have UL2 := UL1.trans la
      refine hK.out _ _ UL2 (fun hHeld2 => ?_)
      clear hK K
      try simp only [Act.put, List.getElem_toArray, List.getElem_cons_succ, List.getElem_cons_zero, List.setIfInBounds_toArray, List.set_cons_zero, List.set_cons_succ]
      clear la
      refine wpAnyH_ready (rs := [3]) (by kernel_rfl) (by simp) (AllReadyH.cons rfl (fun K hK => ?_) AllReadyH.nil)
      go_simp
      refine (HT bq Aq nq cq bn An nn cn _ (q1.later UL2) p1 hq p2).mono ?_
      rintro e U3 ⟨bt, At, nt, ct, rfl, t1, t2, la⟩
      replace p1 := p1.later la
      replace b_g9 := b_g9.later la
      have UL3 := UL2.trans la
      refine hK.out _ _ UL3 (fun hHeld3 => ?_)
      clear hK K
      try simp only [Act.put, List.getElem_toArray, List.getElem_cons_succ, List.getElem_cons_zero, List.setIfInBounds_toArray, List.set_cons_zero, List.set_cons_succ]
      clear la
      refine wpAnyH_ready (rs := [5]) (by kernel_rfl) (by simp) (AllReadyH.cons rfl (fun K hK => ?_) AllReadyH.nil)
      rw [if_pos (by rfl)]
      refine wp_store_mid 85 (.tmp 9) (.tmp 27) rfl g9 0 #[.bool bt, .slice At nt ct] rfl rfl (b_g9.thereAll _ rfl) (by kernel_rfl) (by simp [Value.oneCell']) ?_
      refine name_long (Q := fun W => K _ W) b_g9 ?_
      intro U4 b9 lpS hrg
      replace t1 := hrg t1
      replace b_g9 := b9
      have UL4 : Lat V U4 := lpS.narrow UL3 h_g9
      clear b9 lpS hrg
      refine hK.out _ _ UL4 (fun hHeld4 => ?_)
      clear hK K
      try simp only [Act.put, List.getElem_toArray, List.getElem_cons_succ, List.getElem_cons_zero, List.setIfInBounds_toArray, List.set_cons_zero, List.set_cons_succ]
      refine wpAnyH_done (by kernel_rfl) ?_ _
      exact TAIL4 _ _ _ _ _ _ _ _ _ _ _ _ _ _ _ _ _ _ _ _ _ _ _ _ _ _ _ _ _ _ _ _ _ _ _ _ _ _ _ _ _ _ _ g9 bt At nt ct U4 (L5.trans UL4) (k2.later UL4) (k5.later UL4) b_g9 t1 (by omega) (by omega)
  · skip
    go_simp
    have b_g9 := Blk.new U0 85 #[.bool false, .slice none 0 0]
    have h_g9 : V.heap.size ≤ U0.heap.size := UL0.size
    have la := Lat.alloc U0 (.cells #[.bool false, .slice none 0 0] 85)
    obtain ⟨U1, hV⟩ : ∃ V, U0.alloc (.cells #[.bool false, .slice none 0 0] 85) = V := ⟨_, rfl⟩
    rw [hV] at b_g9 la ⊢
    clear hV
    generalize U0.heap.size = g9 at *
    have UL1 := UL0.trans la
    refine hK.out _ _ UL1 (fun hHeld1 => ?_)
    clear hK K
    try simp only [Act.put, List.getElem_toArray, List.getElem_cons_succ, List.getElem_cons_zero, List.setIfInBounds_toArray, List.set_cons_zero, List.set_cons_succ]
    clear la
    refine wpAnyH_ready (rs := [2]) (by kernel_rfl) (by simp) (AllReadyH.cons rfl (fun K hK => ?_) AllReadyH.nil)
    go_simp
    refine (HLn _).mono ?_
    rintro e U2 ⟨bn, An, nn, cn, rfl, p1, p2, la⟩
    replace b_g9 := b_g9.later la
    have UL2 := UL1.trans la
    refine hK.out _ _ UL2 (fun hHeld2 => ?_)
    clear hK K
    try simp only [Act.put, List.getElem_toArray, List.getElem_cons_succ, List.getElem_cons_zero, List.setIfInBounds_toArray, List.set_cons_zero, List.set_cons_succ]
    clear la
    refine wpAnyH_ready (rs := [3]) (by kernel_rfl) (by simp) (AllReadyH.cons rfl (fun K hK => ?_) AllReadyH.nil)
    go_simp
    refine (HT bq Aq nq cq bn An nn cn _ (q1.later UL2) p1 hq p2).mono ?_
    rintro e U3 ⟨bt, At, nt, ct, rfl, t1, t2, la⟩
    replace p1 := p1.later la
    replace b_g9 := b_g9.later la
    have UL3 := UL2.trans la
    refine hK.out _ _ UL3 (fun hHeld3 => ?_)
    clear hK K
    try simp only [Act.put, List.getElem_toArray, List.getElem_cons_succ, List.getElem_cons_zero, List.setIfInBounds_toArray, List.set_cons_zero, List.set_cons_succ]
    clear la
    refine wpAnyH_ready (rs := [5]) (by kernel_rfl) (by simp) (AllReadyH.cons rfl (fun K hK => ?_) AllReadyH.nil)
    rw [if_pos (by rfl)]
    refine wp_store_mid 85 (.tmp 9) (.tmp 27) rfl g9 0 #[.bool bt, .slice At nt ct] rfl rfl (b_g9.thereAll _ rfl) (by kernel_rfl) (by simp [Value.oneCell']) ?_
    refine name_long (Q := fun W => K _ W) b_g9 ?_
    intro U4 b9 lpS hrg
    replace t1 := hrg t1
    replace b_g9 := b9
    have UL4 : Lat V U4 := lpS.narrow UL3 h_g9
    clear b9 lpS hrg
    refine hK.out _ _ UL4 (fun hHeld4 => ?_)
    clear hK K
    try simp only [Act.put, List.getElem_toArray, List.getElem_cons_succ, List.getElem_cons_zero, List.setIfInBounds_toArray, List.set_cons_zero, List.set_cons_succ]
    refine wpAnyH_done (by kernel_rfl) ?_ _
    exact TAIL4 _ _ _ _ _ _ _ _ _ _ _ _ _ _ _ _ _ _ _ _ _ _ _ _ _ _ _ _ _ _ _ _ _ _ _ _ _ _ _ _ _ _ _ g9 bt At nt ct U4 (L5.trans UL4) (k2.later UL4) (k5.later UL4) b_g9 t1 (by omega) (by omega)
end Go.Proofs.YtogkkhaepfablaaGreat

/- Chance: the reference's Below answers as the program's. -/
namespace Go.Proofs.YtogkkhaepfablaaGreat
open Go.RowKit

/-- The reference's Below: the number, the state, the error, as the program's. -/
theorem rBelow_any (s : Nat) (hs : s < 18446744073709551616) (n : Int) (h2 : n < 9223372036854775808) (w : World) :
    Calls Tryz.prog 9 #[.agg #[.int .u64 s], .int .i64 n] w (fun e w' => e = .returned (.tuple #[.int .i64 (belV s n), .agg #[.int .u64 (belS s n : Nat)], .int .i64 (belE s n)]) ∧ Lat w w') := by
  by_cases h : n < 1
  · rw [belV, belS, belE, if_pos h, if_pos h, if_pos h]
    exact rBelow_low s n h w
  · obtain ⟨m, rfl⟩ := Int.eq_ofNat_of_zero_le (show 0 ≤ n by omega)
    rw [belV, belS, belE, if_neg h, if_neg h, if_neg h, Int.toNat_natCast]
    obtain ⟨st, hst⟩ : ∃ st : Nat → Nat, st = fun j => chAfter chNext j s := ⟨_, rfl⟩
    obtain ⟨xs, hxs⟩ : ∃ xs : Nat → Nat, xs = fun j => chMix (chStep (chAfter chNext j s)) := ⟨_, rfl⟩
    have hx : ∀ j, xs j < 18446744073709551616 := fun j => by
      simp only [hxs]
      exact chMix_lt (chStep (chAfter chNext j s))
    have hN : ∀ j, RxC (st j) (xs j) (st (j + 1)) := fun j => by
      have := rxC (chAfter chNext j s) (after_lt hs j)
      simp only [hst, hxs, after_succ]
      exact this
    have h00 : st 0 = s := by rw [hst]; simp only [chAfter]
    obtain ⟨lim, hlim⟩ : ∃ lim : Int, (18446744073709551616 : Int) / (m : Int) * (m : Int) = lim := ⟨_, rfl⟩
    refine (rBelow_in s m (by omega) (by omega) lim hlim st xs h00 hN hx (chOk m) (fun x hx => ?_) w).mono ?_
    · rw [chOk_iff (by omega) (by omega) x hx, ← hlim]
      have e : (18446744073709551616 : Int) / (m : Int) * (m : Int) = ((18446744073709551616 / m * m : Nat) : Int) := by
        simp
      rw [e]
      exact Int.ofNat_lt.symm
    · clear hlim hx hN h00
      simp only [hst, hxs]
      rintro e w' ⟨h3 | h3, hl⟩
      · obtain ⟨j, hj, hno, hok, rfl⟩ := h3
        have ht : chBel s m = some (chNext (chAfter chNext j s)) := by
          unfold chBel
          exact chTry_take (draw := chNext) (ok := chOk m) (f := 200) (j := j) (s := s) hj (fun i hi => by rw [next_fst]; exact hno i hi) (by rw [next_fst]; exact hok)
        have e1 : optR m (chBel s m) = ((chMix (chStep (chAfter chNext j s)) % m : Nat) : Int) := by rw [ht, optR, next_fst]
        have e2 : optE (chBel s m) = 0 := by rw [ht, optE]
        have e3 : optT 0 (chBel s m) = chAfter chNext (j + 1) s := by rw [ht, optT, after_succ, next_snd]
        rw [e1, e2, e3]
        exact ⟨rfl, hl⟩
      · obtain ⟨hno, rfl⟩ := h3
        have ht : chBel s m = none := by
          unfold chBel
          exact chTry_none (draw := chNext) (ok := chOk m) (f := 200) (s := s) (fun i hi => by rw [next_fst]; exact hno i hi)
        have e1 : optR m (chBel s m) = 0 := by rw [ht, optR]
        have e2 : optE (chBel s m) = 9 := by rw [ht, optE]
        have e3 : optT 0 (chBel s m) = 0 := by rw [ht, optT]
        rw [e1, e2, e3]
        exact ⟨rfl, hl⟩
end Go.Proofs.YtogkkhaepfablaaGreat

/- The reference's drafts of numbers: Small, and Of. -/
namespace Go.Proofs.YtogkkhaepfablaaGreat
open Go.RowKit
set_option linter.unusedSimpArgs false

/-- A draft's small number. -/
def smallV (b : Bool) (less : Int) : Int := if b then -(less % 1000001) else less % 1000001
theorem smallV_in (b : Bool) {less : Int} : -1000000 ≤ smallV b less ∧ smallV b less ≤ 1000000 := by
  have h1 := Int.emod_nonneg less (show (1000001 : Int) ≠ 0 by decide)
  have h2 := Int.emod_lt_of_pos less (show (0 : Int) < 1000001 by decide)
  unfold smallV
  cases b
  · rw [if_neg (by decide)]; omega
  · rw [if_pos rfl]; omega
set_option maxRecDepth 100000 in
set_option maxHeartbeats 1000000 in
theorem rSmall_any (b : Bool) (A : Option Addr) (n c : Nat) (less : Int) (h : 0 ≤ less ∧ less < 4294967296) (w : World) :
    Calls Tryz.prog 55 #[.agg #[.bool b, .slice A n c, .int .u32 less]] w (fun e w' => e = .returned (.int .i64 (smallV b less)) ∧ Lat w w') := by
  have hm : less.tmod 1000001 = less % 1000001 := Int.tmod_eq_emod_of_nonneg h.1
  obtain ⟨q, hq⟩ : ∃ q, less % 1000001 = q := ⟨_, rfl⟩
  have hq2 : 0 ≤ q ∧ q < 1000001 := by omega
  have hw : wrap64 q = q := IntWalk.wrap64_in _ (by omega)
  have hwn : wrap64 (-q) = -q := IntWalk.wrap64_in _ (by omega)
  have hw32 : IntKind.u32.wrap q = q := by have : IntKind.u32.wrap q = q % 4294967296 := rfl; rw [this]; omega
  rw [hq] at hm
  have hV : smallV b less = if b then -q else q := by unfold smallV; rw [hq]
  rw [hV]
  clear hV hq
  go_enter Tryz.func55, Tryz.ntmps55
  go_upto_region 1 with (fail)
  refine name1 (Q := fun W => Code.wp _ _ _ _ W) ?_
  intro W hl hs k1
  have c0 := k1.cell 0
  have c1 := k1.cell 1
  have c2 := k1.cell 2
  cases b
  · go_wp2
    go_ret
    exact ⟨rfl, hl⟩
  · go_wp2
    go_ret
    exact ⟨rfl, hl⟩

set_option maxRecDepth 100000 in
set_option maxHeartbeats 2000000 in
theorem rWOf_any (n : Int) (h0 : -9223372036854775808 ≤ n) (h1 : n < 9223372036854775808) (w : World) :
    Calls Tryz.prog 12 #[.int .i64 n] w (fun e w' => e = .returned (.agg #[.int .u64 (W8.of n).a0, .int .u64 (W8.of n).a1, .int .u64 (W8.of n).a2, .int .u64 (W8.of n).a3, .int .u64 (W8.of n).a4, .int .u64 (W8.of n).a5, .int .u64 (W8.of n).a6, .int .u64 (W8.of n).a7]) ∧ Lat w w') := by
  have HL := fun w => rLong1_any n w h0 h1
  have hp : (9223372036854775808 : Int) ≤ P511 := by decide
  go_enter Tryz.func12, Tryz.ntmps12
  go_upto_region 1 with (fail)
  refine name1 (Q := fun W => Code.wp _ _ _ _ W) ?_
  intro W hl hs k2
  go_wp2_with fail
  refine (HL W).mono ?_
  rintro e w1 ⟨b, A, m, c, rfl, r1, r2, l1⟩
  replace k2 := k2.later l1
  have L1 := hl.trans l1
  go_wp2_with fail
  refine (rOut_any b A m c n w1 r1 (by omega)).mono ?_
  rintro e w2 ⟨u, r, rfl, hu, l2⟩
  obtain ⟨rfl, rfl⟩ : u = W8.of n ∧ r = 0 := by
    rcases hu with ⟨_, _, h, h'⟩ | ⟨h, _⟩
    · exact ⟨h, h'⟩
    · omega
  replace k2 := k2.later l2
  have L2 := L1.trans l2
  clear hu l1 l2 L1 r1 r2 hl hs HL
  obtain ⟨g, hg⟩ : ∃ g, w.heap.size = g := ⟨_, rfl⟩
  rw [hg] at k2 ⊢
  have hwg : w.heap.size ≤ g := by omega
  clear hg
  obtain ⟨u, hu⟩ : ∃ u, W8.of n = u := ⟨_, rfl⟩
  rw [hu]
  go_upto_region 2 with (fail)
  refine name1 (Q := fun W => Code.wp _ _ _ _ W) ?_
  intro W3 l3 hs3 k3
  replace k2 := k2.later l3
  have L3 := L2.trans l3
  have d0 := k3.cell 0
  have d1 := k3.cell 1
  have d2 := k3.cell 2
  have d3 := k3.cell 3
  have d4 := k3.cell 4
  have d5 := k3.cell 5
  have d6 := k3.cell 6
  have d7 := k3.cell 7
  have p0 := k2.cell 0
  have p1 := k2.cell 1
  have p2 := k2.cell 2
  have p3 := k2.cell 3
  have p4 := k2.cell 4
  have p5 := k2.cell 5
  have p6 := k2.cell 6
  have p7 := k2.cell 7
  have f0 := k2.frozen 0
  have f1 := k2.frozen 1
  have f2 := k2.frozen 2
  have f3 := k2.frozen 3
  have f4 := k2.frozen 4
  have f5 := k2.frozen 5
  have f6 := k2.frozen 6
  have f7 := k2.frozen 7
  have hlt := k2.lt
  go_wp2
  refine name_put8 (Q := fun W => bodyPost _ _ _ _ _ W) k2 ?_
  intro W4 k4 l4
  have e0 := k4.cell 0
  have e1 := k4.cell 1
  have e2 := k4.cell 2
  have e3 := k4.cell 3
  have e4 := k4.cell 4
  have e5 := k4.cell 5
  have e6 := k4.cell 6
  have e7 := k4.cell 7
  refine bodyPost_ret (v := .agg #[.int .u64 u.a0, .int .u64 u.a1, .int .u64 u.a2, .int .u64 u.a3, .int .u64 u.a4, .int .u64 u.a5, .int .u64 u.a6, .int .u64 u.a7]) (by simp [results, Tryz.results12, go_sem, e0, e1, e2, e3, e4, e5, e6, e7]) rfl ?_
  exact ⟨by rw [hu], l4.narrow L3 hwg⟩
end Go.Proofs.YtogkkhaepfablaaGreat

/- The reference's sums, with what is known of where they lie. -/
namespace Go.Proofs.YtogkkhaepfablaaGreat
open Go.RowKit

/-- Digits in new memory. -/
def DigF (w : World) (z : Int) (N : Nat) (e : Ending) (w' : World) : Prop :=
  ∃ A n c xs, e = .returned (.slice A n c) ∧ Sl w' .i64 A n xs ∧ InR B32 xs ∧ val B32 xs = z ∧ n ≤ c ∧ n ≤ N ∧ Lat w w' ∧ ∀ a, A = some a → w.heap.size ≤ a.block
/-- What made leaves: its digits are those that came in. -/
def MadeF (w : World) (A : Option Addr) (z : Int) (N : Nat) (e : Ending) (w' : World) : Prop :=
  ∃ b n c, e = .returned (.agg #[.bool b, .slice A n c]) ∧ Rg w' b A n c z ∧ n ≤ N ∧ Lat w w'
/-- A number in new memory. -/
def RefF (w : World) (z : Int) (N : Nat) (e : Ending) (w' : World) : Prop :=
  ∃ b A n c, e = .returned (.agg #[.bool b, .slice A n c]) ∧ Rg w' b A n c z ∧ n ≤ N ∧ Lat w w' ∧ ∀ a, A = some a → w.heap.size ≤ a.block
theorem MadeF.close {w w2 : World} {g t : Nat} {b b0 : Bool} {A A0 : Option Addr} {n c n0 c0 N : Nat} {z : Int} (hk : Blk w2 g t #[.bool b0, .slice A0 n0 c0]) (hlg : Rg w2 b A n c z) (hL : Lat w w2) (hg : w.heap.size ≤ g) (hn : n ≤ N) :
    MadeF w A z N (.returned (.agg #[.bool b, .slice A n c])) ((w2.setCell ⟨g, 0, none⟩ (.bool b)).setCell ⟨g, 1, none⟩ (.slice A n c)) := by
  have ha := hlg.apart hk (no_i64 _ _ _ _)
  exact ⟨_, _, _, rfl, (hlg.far (p := ⟨g, 0, none⟩) ha _).far (p := ⟨g, 1, none⟩) ha _, hn, (hL.setCell (p := ⟨g, 0, none⟩) hg _).setCell (p := ⟨g, 1, none⟩) hg _⟩
theorem RefF.of {w w' : World} {b : Bool} {A : Option Addr} {n c N : Nat} {z : Int} (h : RefPost w z N (.returned (.agg #[.bool b, .slice A n c])) w') (hf : ∀ a, A = some a → w.heap.size ≤ a.block) : RefF w z N (.returned (.agg #[.bool b, .slice A n c])) w' := by
  obtain ⟨b', A', n', c', e, h1, h2, h3⟩ := h
  cases e
  exact ⟨_, _, _, _, rfl, h1, h2, h3, hf⟩

set_option maxHeartbeats 4000000 in
theorem more_fresh (A1 : Option Addr) (n1 c1 : Nat) (xs : List Int) (A2 : Option Addr) (n2 c2 : Nat) (ys : List Int) (w : World) (h1 : Sl w .i64 A1 n1 xs) (h2 : Sl w .i64 A2 n2 ys) (hx : InR B32 xs) (hy : InR B32 ys)
    (hn : n1 ≤ 1000000) (hm : n2 ≤ 1000000) :
    Calls Tryz.prog 71 #[.slice A1 n1 c1, .slice A2 n2 c2] w (DigF w (val B32 xs + val B32 ys) (max n1 n2 + 1)) := by
  go_enter Tryz.func71, Tryz.ntmps71
  go_wp2
  go_loopw [5, 6, 7] (fun v bt i wr => ∃ (k : Nat) (c : Int) (os : List Int), i = .int .i64 k ∧ bt = .int .i64 c ∧ Own wr w.heap.size 3 .i64 v os ∧ MorInv B32 xs ys (max n1 n2) k c os ∧ Lat w wr) (fun _ _ i _ => max n1 n2 + 1 - (intOf i).toNat)
  case atStart => exact ⟨0, 0, [], rfl, rfl, Own.nil _ _ _ _, MorInv.start B32 xs ys _, Lat.refl _⟩
  case round =>
    obtain ⟨k, c, os, rfl, rfl, hown, hinv, hlr⟩ := hrel
    have hc0 := hinv.1.1
    have hc1 := hinv.1.2
    have hlen := Lib.hid hinv.2.1
    have hkN := hinv.2.2.2.2.1
    have hend := Lib.hid hinv.2.2.2.2.2
    have hwl := hlr.size
    have hol : os.length ≤ 1000001 := by have := hlen.out; omega
    rcases (h1.later hlr).digit hx k with ⟨hlt, a, x, rfl, hgx, rx0, rx1, hcell⟩ | ⟨hlt, hgx⟩
    · rcases (h2.later hlr).digit hy k with ⟨hlt2, a', y, rfl, hgy, ry0, ry1, hcell2⟩ | ⟨hlt2, hgy⟩
      · have hst := hinv.step B32_one (by omega) hgx.out hgy.out ⟨rx0, rx1⟩ ⟨ry0, ry1⟩ (by omega)
        go_wp2_with (at_builtin; refine wpList_push rfl _ _ 71 rfl w.heap.size 3 3 .i64 8 Tryz.underlying71 infoI64 (by decide) _ os [_] _ rfl wr (by rfl) hown 1 rfl (by decide) (by rfl) (by omega) hwl ?_; intro v' w1 hown1 hlat1)
        go_roundw
        case rel => exact ⟨k + 1, _, _, by go_num, rfl, hown1, hst, hlat1 w hlr (Nat.le_refl _)⟩
        case measure => simp [intOf]; omega
      · have hst := hinv.step B32_one (by omega) hgx.out hgy.out ⟨rx0, rx1⟩ ⟨Int.le_refl _, B32_pos⟩ (by omega)
        rw [Int.add_zero] at hst
        go_wp2_with (at_builtin; refine wpList_push rfl _ _ 71 rfl w.heap.size 3 3 .i64 8 Tryz.underlying71 infoI64 (by decide) _ os [_] _ rfl wr (by rfl) hown 1 rfl (by decide) (by rfl) (by omega) hwl ?_; intro v' w1 hown1 hlat1)
        go_roundw
        case rel => exact ⟨k + 1, _, _, by go_num, rfl, hown1, hst, hlat1 w hlr (Nat.le_refl _)⟩
        case measure => simp [intOf]; omega
    · rcases (h2.later hlr).digit hy k with ⟨hlt2, a', y, rfl, hgy, ry0, ry1, hcell2⟩ | ⟨hlt2, hgy⟩
      · have hst := hinv.step B32_one (by omega) hgx.out hgy.out ⟨Int.le_refl _, B32_pos⟩ ⟨ry0, ry1⟩ (by omega)
        rw [Int.add_zero] at hst
        go_wp2_with (at_builtin; refine wpList_push rfl _ _ 71 rfl w.heap.size 3 3 .i64 8 Tryz.underlying71 infoI64 (by decide) _ os [_] _ rfl wr (by rfl) hown 1 rfl (by decide) (by rfl) (by omega) hwl ?_; intro v' w1 hown1 hlat1)
        go_roundw
        case rel => exact ⟨k + 1, _, _, by go_num, rfl, hown1, hst, hlat1 w hlr (Nat.le_refl _)⟩
        case measure => simp [intOf]; omega
      · by_cases hcp : 0 < c
        · have hkle : k ≤ max n1 n2 := by
            rcases Nat.lt_or_ge (max n1 n2) k with h | h
            · have := hend.out (by omega); omega
            · exact h
          have hst := hinv.step B32_one hkle hgx.out hgy.out ⟨Int.le_refl _, B32_pos⟩ ⟨Int.le_refl _, B32_pos⟩ (fun _ => ⟨rfl, rfl⟩)
          rw [Int.add_zero, Int.add_zero] at hst
          go_wp2_with (at_builtin; refine wpList_push rfl _ _ 71 rfl w.heap.size 3 3 .i64 8 Tryz.underlying71 infoI64 (by decide) _ os [_] _ rfl wr (by rfl) hown 1 rfl (by decide) (by rfl) (by omega) hwl ?_; intro v' w1 hown1 hlat1)
          go_roundw
          case rel => exact ⟨k + 1, _, _, by go_num, rfl, hown1, hst, hlat1 w hlr (Nat.le_refl _)⟩
          case measure => simp [intOf]; omega
        · obtain rfl : c = 0 := by omega
          obtain ⟨r1, r2, r3, r4⟩ := hinv.done (by have := h1.1; omega) (by have := h2.1; omega)
          have R4 := Lib.hid r4
          have R2 := Lib.hid r2
          clear r2 r4
          obtain ⟨A3, c3, rfl, hs1, hc1', hfr⟩ := hown.form
          go_wp2
          go_ret
          exact ⟨A3, _, c3, os, rfl, hs1, r1, R4.out, hc1', by have := R2.out; omega, hlr, fun a h => (hfr a h).1⟩
set_option maxHeartbeats 1000000 in
theorem made_same (below : Bool) (A : Option Addr) (n c : Nat) (w : World) (xs : List Int) (hs : Sl w .i64 A n xs) (hr : InR B32 xs) (hc : n ≤ c) (hn : n ≤ 3000000) :
    Calls Tryz.prog 69 #[.bool below, .slice A n c] w (MadeF w A (sgn below (val B32 xs)) n) := by
  go_enter Tryz.func69, Tryz.ntmps69
  go_wp2_with fail
  refine name1 (Q := fun W => Calls _ _ _ W _) ?_
  intro W hl hsz hb
  refine (cut_any A n c W xs (hs.later hl) hc hn).mono ?_
  rintro e w1 ⟨m, rfl, q1, q2, q3, q4, q5⟩
  have K := hb.later q5
  have L := hl.trans q5
  have c0 := K.cell 0
  have c1 := K.cell 1
  have f0 := K.frozen 0
  have f1 := K.frozen 1
  have hrm : InR B32 (xs.take m) := fun y hy => hr y (List.mem_of_mem_take hy)
  have hln := hs.1
  have hq1 := q1.1
  have Q3 := Lib.hid q3
  have Q2 := Lib.hid q2
  have hmn : m ≤ n := by omega
  clear q3 q2 q4
  by_cases hm : 0 < m
  · have hd : decide ((0 : Int) < m) = true := by simp; exact hm
    have hrg : Rg w1 below A m c (sgn below (val B32 xs)) := ⟨by omega, _, q1, hrm, Q2.out, (fun _ => by intro e; rw [e] at hq1; simp at hq1; omega), by rw [Q3.out]⟩
    cases below
    all_goals
      go_wp2
      refine bodyPost_ret (v := .agg #[.bool _, .slice A m c]) (by simp [results, Tryz.results69, go_sem, c0, c1]; rfl) rfl ?_
      exact MadeF.close K hrg L (Nat.le_refl _) hmn
  · obtain rfl : m = 0 := by omega
    have h0 : val B32 xs = 0 := by rw [← Q3.out]; simp [val]
    have hrg : Rg w1 false A 0 c (sgn below (val B32 xs)) := ⟨by omega, _, q1, hrm, Q2.out, (fun h => by cases h), by rw [← Q3.out]; cases below <;> simp [sgn, val]⟩
    clear h0
    cases below
    all_goals
      go_wp2
      refine bodyPost_ret (v := .agg #[.bool false, .slice A 0 c]) (by simp [results, Tryz.results69, go_sem, c0, c1]) rfl ?_
      exact MadeF.close K hrg L (Nat.le_refl _) (by omega)
set_option maxHeartbeats 400000 in
theorem rPlus_fresh (b1 : Bool) (A1 : Option Addr) (n1 c1 : Nat) (x : Int) (A2 : Option Addr) (n2 c2 : Nat) (y : Int) (w : World) (h1 : Rg w b1 A1 n1 c1 x) (h2 : Rg w b1 A2 n2 c2 y) (hn : n1 ≤ 1000000) (hm : n2 ≤ 1000000) :
    Calls Tryz.prog 43 #[.agg #[.bool b1, .slice A1 n1 c1], .agg #[.bool b1, .slice A2 n2 c2]] w (RefF w (x + y) (max n1 n2 + 1)) := by
  obtain ⟨hc1, xs, s1, r1, z1, _, v1⟩ := h1
  obtain ⟨hc2, ys, s2, r2, z2, _, v2⟩ := h2
  have V1 := Lib.hid v1
  have V2 := Lib.hid v2
  clear v1 v2
  go_enter Tryz.func43, Tryz.ntmps43
  go_wp2
  refine name3 (Q := fun W => Code.wp _ _ _ _ W) ?_
  intro W hl hs k1 k2 k3
  have a1 := k1.evS (gs := [w.heap.size + 1 + 1]) (by simp; try omega) 0 rfl
  have a2 := k1.evS (gs := [w.heap.size + 1 + 1]) (by simp; try omega) (0 + 1) rfl
  have a4 := k2.evS (gs := [w.heap.size + 1 + 1]) (by simp; try omega) (0 + 1) rfl
  have L0 := Lat.drew W
  have M0 := L0.s [w.heap.size + 1 + 1]
  go_region_held3 (fun w' => LatS W [w.heap.size + 1 + 1] w') (first | assumption | ((repeat refine LatS.set ?_ (by simp) _); assumption))
    (first
      | (go_at_call 71; refine (more_fresh A1 n1 c1 xs A2 n2 c2 ys _ (s1.later (hl.trans L0)) (s2.later (hl.trans L0)) r1 r2 hn hm).mono ?_; rintro e w1 ⟨A, n, c, zs, rfl, p1, p2, p3, p4, p5, p6, p7⟩; have L1 := L0.trans p6; have M1 := L1.s [w.heap.size + 1 + 1]; have P3 := Lib.hid p3; clear p3)
      | (go_at_call 69; refine (made_same b1 A n c _ zs p1 p2 p4 (by omega)).mono ?_; rintro e w2 ⟨b, m, c', rfl, q1, q2, q3⟩; have L2 := L1.trans q3; have M2 := L2.s [w.heap.size + 1 + 1]; have hk3 := k3.later L2; have c0 := hk3.cell 0; have c1' := hk3.cell 1; have f0 := hk3.frozen 0; have f1 := hk3.frozen 1))
  go_wp2
  refine bodyPost_ret (v := .agg #[.bool b, .slice A m c']) (by simp [results, Tryz.results43, go_sem, c0, c1']) rfl ?_
  have := RefPost.close hk3 q1 (hl.trans L2) (by omega) (Nat.le_trans q2 p5)
  rw [P3.out, rs_add, ← V1.out, ← V2.out] at this
  exact RefF.of this (fun a h => Nat.le_trans hl.size (Nat.le_trans L0.size (p7 a h)))

/-- A number appended to a list in memory of its own: what else lay there stays. -/
theorem wpList_pushG {P : Program} {ops : Array Oper} {rest : List Oper} {o : Oper} {a : Act} {Q : Exit → Act → World → Prop} (hgd : o.guard = none) (s x : Operand) (t : TypeId)
    (ho : o.op = .call { callee := .builtin .append, args := #[s, x], argTypes := #[t, t] })
    (B : Nat) (E T : TypeId) (k : IntKind) (by_ : Nat) (ht : P.underlying t = some (.slice E)) (hinfo : (P.info? E).map (fun i => (i.zero, i.size, i.bytes)) = some (some (.int k 0), 1, by_)) (hby : by_ ≤ 8)
    (v : Value) (xs ys : List Int) (cs : Array Value) (hcs : cs = nums k ys) (W : World) (hs : a.eval s = v) (hown : Own W B E k v xs)
    (m : Nat) (hm : ys.length = m) (hm0 : 0 < m) (hx : a.eval x = .slice (some ⟨W.heap.size, 0, none⟩) m m) (hlen : xs.length + m ≤ 17000000000000) (hB : B ≤ W.heap.size)
    (h : ∀ v' w', Own w' B E k v' (xs ++ ys) → (∀ W0, Lat W0 W → W0.heap.size ≤ B → Lat W0 w') → (∀ q, q < W.heap.size → ¬ some q = v.ownBlock → w'.heap[q]? = W.heap[q]?) → W.heap.size ≤ w'.heap.size → wpList P ops Q rest (a.put o.dst v') w') : wpList P ops Q (o :: rest) a (W.alloc (.cells cs T)) := by
  obtain ⟨i0, hi, hz0, hz1, hz2⟩ := info_parts hinfo
  subst hcs
  have hown1 := Own.later hown (Lat.alloc W (.cells (nums k ys) T))
  have hb := Blk.new W T (nums k ys)
  subst hm
  refine wpList_append_own _ hgd s x t ho B E i0 (.int k 0) 1 by_ ht hi hz0 hz1 hz2 rfl (by decide) v xs.length _ hs hown1 ⟨W.heap.size, 0, none⟩ ys.length ys.length (ys.map (Value.int k)) hx (by simp) ?_ ?_ ?_ ?_ ?_ ?_
  · intro j u hu
    have e : (⟨W.heap.size, 0, none⟩ : Addr).add j = ⟨W.heap.size, j, none⟩ := by unfold Addr.add; split <;> simp_all
    rw [e, hb.cell j]
    simpa [nums] using hu
  · exact ints_oneCell _ _
  · unfold maxLen; omega
  · have := Nat.mul_le_mul_left (xs.length + ys.length) hby; omega
  · simp; omega
  · intro v' w' h1 h2 _
    have la := Lat.alloc W (.cells (nums k ys) T)
    refine h v' w' ?_ (fun W0 hl hle => Own.lat hown1 (hl.trans (Lat.alloc _ _)) hle h2) (fun q hq hn => (h2.block q (Nat.lt_of_lt_of_le hq la.size) hn).trans (Below.block la q hq)) (Nat.le_trans la.size h2.size)
    unfold Own
    rw [List.length_append, List.map_append]
    exact h1
theorem Sl.kept' {w W : World} {k : IntKind} {A : Option Addr} {n : Nat} {xs : List Int} (h : Sl W k A n xs) (hs : W.heap.size ≤ w.heap.size) (hk : ∀ a, A = some a → a.block < W.heap.size → w.heap[a.block]? = W.heap[a.block]?) : Sl w k A n xs := by
  refine ⟨h.1, fun hn => ?_⟩
  obtain ⟨a, e, hlt, hc⟩ := h.2 hn
  refine ⟨a, e, Nat.lt_of_lt_of_le hlt hs, fun j x hx => ?_⟩
  rw [← hc j x hx]
  exact World.cell?_of_block (by rw [block_add]; exact hk a e hlt)
theorem Rg.kept {w W : World} {b : Bool} {A : Option Addr} {n c : Nat} {z : Int} (h : Rg W b A n c z) (hs : W.heap.size ≤ w.heap.size) (hk : ∀ a, A = some a → a.block < W.heap.size → w.heap[a.block]? = W.heap[a.block]?) : Rg w b A n c z := by
  obtain ⟨hn, xs, h1, r⟩ := h
  exact ⟨hn, xs, h1.kept' hs hk, r⟩
theorem Own.kept {w w' : World} {B : Nat} {E : TypeId} {k : IntKind} {v : Value} {xs : List Int} (h : Own w B E k v xs) (hk : ∀ g, B ≤ g → v.ownBlock = some g → w'.heap[g]? = w.heap[g]?) : Own w' B E k v xs := by
  obtain ⟨h1, h2⟩ := h
  refine ⟨h1, ?_⟩
  rcases h2 with h2 | ⟨g, cap, cur, a1, a2, a3, a4⟩
  · exact .inl h2
  · refine .inr ⟨g, cap, cur, a1, a2, ?_, a4⟩
    rw [hk g a2 (by rw [a1]; rfl)]; exact a3
theorem Own.at_ {w : World} {B : Nat} {E : TypeId} {k : IntKind} {v : Value} {xs : List Int} (h : Own w B E k v xs) : ∀ q, v.ownBlock = some q → B ≤ q ∧ q < w.heap.size := by
  intro q hq
  obtain ⟨h1, h2⟩ := h
  rcases h2 with ⟨rfl, _⟩ | ⟨g, cap, cur, rfl, hb, hg, _⟩
  · cases hq
  · have e : g = q := by simpa [Value.ownBlock] using hq
    subst e
    refine ⟨hb, ?_⟩
    rcases Nat.lt_or_ge g w.heap.size with hlt | hge
    · exact hlt
    · rw [Array.getElem?_eq_none hge] at hg; cases hg
/-- A number that is not negative. -/
def RefN (w : World) (z : Int) (N : Nat) (e : Ending) (w' : World) : Prop :=
  ∃ A n c, e = .returned (.agg #[.bool false, .slice A n c]) ∧ Rg w' false A n c z ∧ n ≤ N ∧ Lat w w'
theorem RefPost.nonneg {w w' : World} {z : Int} {N : Nat} {e : Ending} (h : RefPost w z N e w') (hz : 0 ≤ z) : RefN w z N e w' := by
  obtain ⟨b, A, n, c, rfl, h1, h2, h3⟩ := h
  cases b with
  | false => exact ⟨_, _, _, rfl, h1, h2, h3⟩
  | true => have := h1.neg_of; omega
def RefFN (w : World) (z : Int) (N : Nat) (e : Ending) (w' : World) : Prop :=
  ∃ A n c, e = .returned (.agg #[.bool false, .slice A n c]) ∧ Rg w' false A n c z ∧ n ≤ N ∧ Lat w w' ∧ ∀ a, A = some a → w.heap.size ≤ a.block
theorem RefF.nonneg {w w' : World} {z : Int} {N : Nat} {e : Ending} (h : RefF w z N e w') (hz : 0 ≤ z) : RefFN w z N e w' := by
  obtain ⟨b, A, n, c, rfl, h1, h2, h3, h4⟩ := h
  cases b with
  | false => exact ⟨_, _, _, rfl, h1, h2, h3, h4⟩
  | true => have := h1.neg_of; omega
end Go.Proofs.YtogkkhaepfablaaGreat

/- Numbers of any length of the reference in the slots of a drawn region. -/
namespace Go.Proofs.YtogkkhaepfablaaGreat
open Go.RowKit

/-- A number in a slot. -/
def LV (z : Int) (N : Nat) (v : Value) (w : World) : Prop := ∃ b A n c, v = .agg #[.bool b, .slice A n c] ∧ Rg w b A n c z ∧ n ≤ N
def LN (z : Int) (N : Nat) (v : Value) (w : World) : Prop := ∃ A n c, v = .agg #[.bool false, .slice A n c] ∧ Rg w false A n c z ∧ n ≤ N
def LNF (z : Int) (N B : Nat) (v : Value) (w : World) : Prop := ∃ A n c, v = .agg #[.bool false, .slice A n c] ∧ Rg w false A n c z ∧ n ≤ N ∧ ∀ a, A = some a → B ≤ a.block
section
variable {z : Int} {N B : Nat} {v : Value} {w w' : World} {e : Ending} {d : Prop}
theorem LV.mono (h : LV z N v w) (hl : Lat w w') : LV z N v w' := by
  obtain ⟨b, A, n, c, e, hr, hn⟩ := h
  exact ⟨b, A, n, c, e, hr.later hl, hn⟩
theorem LN.mono (h : LN z N v w) (hl : Lat w w') : LN z N v w' := by
  obtain ⟨A, n, c, e, hr, hn⟩ := h
  exact ⟨A, n, c, e, hr.later hl, hn⟩
theorem LNF.mono (h : LNF z N B v w) (hl : Lat w w') : LNF z N B v w' := by
  obtain ⟨A, n, c, e, hr, hn⟩ := h
  exact ⟨A, n, c, e, hr.later hl, hn⟩
theorem RefPost.run (h : RefPost w z N e w') : ∃ v, e = .returned v ∧ (Lat w w' ∧ (d → LV z N v w')) := by
  obtain ⟨b, A, n, c, e, hr, hn, hl⟩ := h
  exact ⟨_, e, hl, fun _ => ⟨b, A, n, c, rfl, hr, hn⟩⟩
theorem RefN.run (h : RefN w z N e w') : ∃ v, e = .returned v ∧ (Lat w w' ∧ (d → LN z N v w')) := by
  obtain ⟨A, n, c, e, hr, hn, hl⟩ := h
  exact ⟨_, e, hl, fun _ => ⟨A, n, c, rfl, hr, hn⟩⟩
theorem RefFN.run (h : RefFN w z N e w') (hB : B ≤ w.heap.size) : ∃ v, e = .returned v ∧ (Lat w w' ∧ (d → LNF z N B v w')) := by
  obtain ⟨A, n, c, e, hr, hn, hl, hf⟩ := h
  exact ⟨_, e, hl, fun _ => ⟨A, n, c, rfl, hr, hn, fun a ha => Nat.le_trans hB (hf a ha)⟩⟩
end
end Go.Proofs.YtogkkhaepfablaaGreat

/- Chance: the reference's digits. -/
namespace Go.Proofs.YtogkkhaepfablaaGreat
open Go.RowKit
set_option linter.unusedSimpArgs false
set_option linter.unusedVariables false

theorem RefPost.leD {w w' : World} {z : Int} {N M : Nat} {e : Ending} (h : RefPost w z N e w') (hN : N ≤ M) : RefPost w z M e w' := by
  obtain ⟨b, A, n, c, e, hr, hn, hl⟩ := h
  exact ⟨b, A, n, c, e, hr, by omega, hl⟩
theorem blen_pow2 {z : Int} (hz : 0 ≤ z) (k : Nat) : (2 : Int) ^ k ≤ z ↔ k < blen z := by
  obtain ⟨n, rfl⟩ := Int.eq_ofNat_of_zero_le hz
  have h4 : ((2 ^ k : Nat) : Int) = (2 : Int) ^ k := by simp
  rw [← h4, Int.ofNat_le]
  unfold blen
  by_cases h0 : (n : Int) = 0
  · rw [if_pos h0]
    obtain rfl : n = 0 := by omega
    have := Nat.two_pow_pos k
    omega
  · rw [if_neg h0, Int.toNat_natCast]
    have hn : n ≠ 0 := by omega
    rw [← Nat.le_log2 hn]
    omega
theorem dg_raise {k : Nat} {p : Int} (hk : k ≤ 511) (hp : (2 : Int) ^ k = p) : ∀ A1 n1 c1 w, Rg w false A1 n1 c1 2 → n1 ≤ 2 → Calls Tryz.prog 37 #[.agg #[.bool false, .slice A1 n1 c1], .int .i64 (k : Nat)] w (RefN w p 1100) := fun A1 n1 c1 w h h' => by
  have hp0 : (0 : Int) ≤ p := by rw [← hp]; exact Int.le_of_lt (Int.pow_pos (by decide))
  have := rRaised_any false A1 n1 c1 2 k w h h' (by omega)
  rw [hp] at this
  exact this.mono fun e w' h => (h.leD (by omega)).nonneg hp0
theorem dg_order {wr : World} {b : Bool} {A : Option Addr} {n c : Nat} {z p o : Int} (hr : Rg wr b A n c z) (hn : n ≤ 1000) (ho : ordR (p - z) = o) : ∀ A1 n1 c1 w, Lat wr w → Rg w false A1 n1 c1 p → n1 ≤ 1100 → Calls Tryz.prog 41 #[.agg #[.bool false, .slice A1 n1 c1], .agg #[.bool b, .slice A n c]] w (fun e w' => e = .returned (.int .i64 o) ∧ Lat w w') := fun A1 n1 c1 w hl h h' => by
  have := rOrder_any false A1 n1 c1 p b A n c z w h (hr.later hl) (by omega) (by omega)
  rwa [ho] at this
theorem dg_test {z p o : Int} {k : Nat} (hz : 0 ≤ z) (hp : (2 : Int) ^ k = p) (ho : ordR (p - z) = o) : (k < blen z → decide (o ≤ 0) = true) ∧ (k = blen z → decide (o ≤ 0) = false) := by
  have h := blen_pow2 hz k
  rw [hp] at h
  unfold ordR at ho
  constructor
  · intro hk
    have := h.2 hk
    refine decide_eq_true ?_
    split at ho
    · omega
    · split at ho <;> omega
  · intro hk
    have : ¬ p ≤ z := fun h2 => by have := h.1 h2; omega
    refine decide_eq_false ?_
    rw [if_neg (by omega), if_neg (by omega)] at ho
    omega
theorem spell13 (T : Array Value) (h : T.size = 13) : ∃ f : Nat → Value, (∀ k, f k = T.getD k undef) ∧ T = #[f 0, f 1, f 2, f 3, f 4, f 5, f 6, f 7, f 8, f 9, f 10, f 11, f 12] := ⟨fun k => T.getD k undef, fun _ => rfl, (spell 13 T h).trans (by kernel_rfl)⟩
noncomputable def dg2_rows (b : Bool) (A : Option Addr) (n c k g1 : Nat) (p o : Int) (ob : Bool) : List SRow := [
  ⟨Op.call { callee := Callee.value (Operand.func 38), args := #[Operand.const (Value.int IntKind.i64 2)], argTypes := #[3] }, some 4, none, [], LN 2 2⟩,
  ⟨Op.move (Operand.tmp 3), some 5, none, [], fun v _ => v = .int .i64 (k : Nat)⟩,
  ⟨Op.call { callee := Callee.value (Operand.func 37), args := #[Operand.tmp 4, Operand.tmp 5], argTypes := #[85, 3] }, some 6, none, [0, 1, 0], LN p 1100⟩,
  ⟨Op.load 85 (Operand.tmp 1), some 7, none, [], fun v _ => v = .agg #[.bool b, .slice A n c]⟩,
  ⟨Op.call { callee := Callee.value (Operand.func 41), args := #[Operand.tmp 6, Operand.tmp 7], argTypes := #[85, 85] }, some 8, none, [2, 3, 2], fun v _ => v = .int .i64 o⟩,
  ⟨Op.binOp BinOp.leq 3 (Operand.tmp 8) (Operand.const (Value.int IntKind.i64 0)) 3, some 9, none, [4], fun v _ => v = .bool ob⟩]
noncomputable def dg2_base (b : Bool) (A : Option Addr) (n c k g1 : Nat) (p o : Int) (ob : Bool) : List (Nat × Value) := [(0, .agg #[.bool b, .slice A n c]), (1, .pointer (some ⟨g1, 0, none⟩)), (2, .int .i64 0), (3, .int .i64 (k : Nat)), (12, undef)]
set_option maxRecDepth 100000 in
set_option maxHeartbeats 4000000 in
theorem dg2_steps (V : World) (b : Bool) (A : Option Addr) (n c k g1 : Nat) (p o : Int) (ob : Bool) (hob : decide (o ≤ 0) = ob) (R1 : ∀ w', Lat V w' → w'.rangeAt g1 0 [.bool b, .slice A n c]) (J85 : (Tryz.prog.info? 85).map (·.size) = some 2) (HL2 : ∀ w, Calls Tryz.prog 38 #[.int .i64 2] w (RefN w 2 2))
    (HR : ∀ A1 n1 c1 w, Rg w false A1 n1 c1 2 → n1 ≤ 2 → Calls Tryz.prog 37 #[.agg #[.bool false, .slice A1 n1 c1], .int .i64 (k : Nat)] w (RefN w p 1100))
    (HO : ∀ A1 n1 c1 w, Lat V w → Rg w false A1 n1 c1 p → n1 ≤ 1100 → Calls Tryz.prog 41 #[.agg #[.bool false, .slice A1 n1 c1], .agg #[.bool b, .slice A n c]] w (fun e w' => e = .returned (.int .i64 o) ∧ Lat w w')) :
    AllSteps Tryz.prog (dg2_rows b A n c k g1 p o ob) (dg2_base b A n c k g1 p o ob) V (dg2_rows b A n c k g1 p o ob) := by
  refine AllSteps.next (fun _ _ _ h hl => h.mono hl) (fun j b h => by cases h) (fun a w hl hb hd o ho => by exact Runs.call (yv_call (f := 38) (fun _ => by go_simp) o ho (by simp only [List.map_toArray, List.map_cons, List.map_nil, eval_const])) ((HL2 w).mono fun e w' h => h.run)) ?_
  refine AllSteps.next (fun _ _ _ h _ => h) (fun j b h => by cases h) (fun a w hl hb hd o ho => by have e1 := hb 3 _ rfl; exact Runs.val (yv_move (S := fun _ => True) e1 o w ho trivial) ⟨Lat.refl _, fun _ => rfl⟩) ?_
  refine AllSteps.next (fun _ _ _ h hl => h.mono hl) (fun j b h => by cases h) (fun a w hl hb hd o ho => by obtain ⟨v1, e1, q1⟩ := hd 0 _ _ (by simp) rfl rfl; obtain ⟨A1, n1, c1, rfl, r1, m1⟩ := (show LN 2 2 v1 w from q1); obtain ⟨v2, e2, q2⟩ := hd 1 _ _ (by simp) rfl rfl; subst q2; exact Runs.call (yv_call (f := 37) (fun _ => by go_simp) o ho (by simp only [List.map_toArray, List.map_cons, List.map_nil, eval_const, e1, e2])) ((HR A1 n1 c1 w r1 m1).mono fun e w' h => h.run)) ?_
  refine AllSteps.next (fun _ _ _ h _ => h) (fun j b h => by cases h) (fun a w hl hb hd o ho => by have e1 := hb 1 _ rfl; exact Runs.val (yv_load (S := Lat V) e1 R1 Tryz.underlying85 rfl J85 o w ho hl) ⟨Lat.refl _, fun _ => rfl⟩) ?_
  refine AllSteps.next (fun _ _ _ h _ => h) (fun j b h => by cases h) (fun a w hl hb hd o ho => by obtain ⟨v1, e1, q1⟩ := hd 2 _ _ (by simp) rfl rfl; obtain ⟨A1, n1, c1, rfl, r1, m1⟩ := (show LN p 1100 v1 w from q1); obtain ⟨v2, e2, q2⟩ := hd 3 _ _ (by simp) rfl rfl; subst q2; exact Runs.call (yv_call (f := 41) (fun _ => by go_simp) o ho (by simp only [List.map_toArray, List.map_cons, List.map_nil, eval_const, e1, e2])) ((HO A1 n1 c1 w hl r1 m1).mono fun e w' h => ⟨_, h.1, h.2, fun _ => rfl⟩)) ?_
  refine AllSteps.next (fun _ _ _ h _ => h) (fun j b h => by cases h) (fun a w hl hb hd o ho => by obtain ⟨v1, e1, q1⟩ := hd 4 _ _ (by simp) rfl rfl; subst q1; obtain ⟨d, op, ty, p, af, g⟩ := o; simp only at ho; subst ho; have ec : ∀ v, a.eval (.const v) = v := fun _ => rfl; exact Runs.val (by unfold execOp; generalize a.eval = ev at e1 ec ⊢; simp only [e1, ec]; rw [← hob]; go_simp) ⟨Lat.refl _, fun _ => rfl⟩) ?_
  exact AllSteps.none
set_option maxRecDepth 100000 in
set_option maxHeartbeats 4000000 in
theorem rDigits_any (b : Bool) (A : Option Addr) (n c : Nat) (z : Int) (w : World) (h : Rg w b A n c z) (hz : 0 ≤ z) (hz2 : z < P511) (hn : n ≤ 1000) :
    Calls Tryz.prog 50 #[.agg #[.bool b, .slice A n c]] w (fun e w' => e = .returned (.int .i64 (blen z : Nat)) ∧ Lat w w') := by
  have hb511 := blen_lt hz hz2
  have HT := Lib.hid (fun (k : Nat) (p o : Int) => @dg_test z p o k hz)
  have HL2 := Lib.hid (fun w => (rLong1_any 2 w (by decide) (by decide)).mono fun e w' h => h.nonneg (by decide))
  obtain ⟨B, hB⟩ : ∃ B, blen z = B := ⟨_, rfl⟩
  rw [hB] at hb511 HT ⊢
  clear hB hz hz2
  go_enter Tryz.func50, Tryz.ntmps50
  go_upto_region 1 with (fail)
  refine name1 (Q := fun W => Code.wp _ _ _ _ W) ?_
  intro W hl hs k1
  obtain ⟨g1, hg1⟩ : ∃ z, w.heap.size = z := ⟨_, rfl⟩
  rw [hg1] at k1 ⊢
  replace h := h.later hl
  clear hs hg1
  go_upto_region 2 with (fail)
  go_loopw [3] (fun i wr => ∃ k : Nat, i = .int .i64 k ∧ k ≤ B ∧ Rg wr b A n c z ∧ Blk wr g1 85 #[.bool b, .slice A n c] ∧ Lat w wr) (fun i _ => B - (intOf i).toNat)
  case atStart => exact ⟨0, rfl, by omega, h, k1, hl⟩
  case round =>
    clear h k1 hl
    obtain ⟨k, rfl, hk, hr, k1, L⟩ := hrel
    have hk511 : k ≤ 511 := by omega
    obtain ⟨p, hp⟩ : ∃ p, (2 : Int) ^ k = p := ⟨_, rfl⟩
    obtain ⟨o, ho⟩ : ∃ o, ordR (p - z) = o := ⟨_, rfl⟩
    by_cases hkB : k < B
    · have hob := (HT.out k p o hp ho).1 hkB
      have R1 : ∀ w', Lat wr w' → w'.rangeAt g1 0 [.bool b, .slice A n c] := fun w' hl => (k1.later hl).rangeAll
      have J85 : (Tryz.prog.info? 85).map (·.size) = some 2 := by kernel_rfl
      have HR := dg_raise hk511 hp
      have HOr := dg_order (c := c) (p := p) hr hn ho
      go_upto_region 2 with (fail)
      rename_i KN hKN
      refine wp_region_slots (dg2_rows b A n c k g1 p o true) (dg2_base b A n c k g1 p o true) 13 6 [[], [], [0, 1, 0], [], [2, 3, 2], [4]] (by kernel_rfl) (by kernel_rfl) (by kernel_rfl) (by kernel_rfl) (by kernel_rfl) (by kernel_rfl) (by rfl) rfl ?_ (dg2_steps wr b A n c k g1 p o true hob R1 J85 HL2.out HR HOr) ?_
      ·
        exact base_of (base_cons (by rfl) (base_cons (by rfl) (base_cons (by rfl) (base_cons (by rfl) (base_cons (by rfl) (base_nil _))))))
      · intro a9 W9 hsz9 hdf9 hL9 hbs hsl
        obtain ⟨v9, h9, q9⟩ := hsl 5 _ _ rfl rfl
        obtain rfl : v9 = .bool true := q9
        have w9 := slot_getD h9
        clear h9
        refine hKN _ _ ?_
        obtain ⟨T9, df9⟩ := a9
        obtain rfl : df9 = [] := hdf9
        obtain ⟨f, hf, rfl⟩ := spell13 T9 hsz9
        have x0 : f 0 = .agg #[.bool b, .slice A n c] := (hf 0).trans (slot_getD (hbs 0 _ rfl))
        have x1 : f 1 = .pointer (some ⟨g1, 0, none⟩) := (hf 1).trans (slot_getD (hbs 1 _ rfl))
        have x2 : f 2 = .int .i64 0 := (hf 2).trans (slot_getD (hbs 2 _ rfl))
        have x3 : f 3 = .int .i64 (k : Nat) := (hf 3).trans (slot_getD (hbs 3 _ rfl))
        have x12 : f 12 = undef := (hf 12).trans (slot_getD (hbs 12 _ rfl))
        have x9 := (hf 9).trans w9
        clear hbs hsl hf hsz9 hKN w9
        simp only [x0, x1, x2, x3, x12, x9]
        clear x0 x1 x2 x3 x12 x9
        have hr9 := hr.later hL9
        have k9 := k1.later hL9
        have L9 := L.trans hL9
        clear hr k1 L R1 J85 HR HOr hp ho
        go_wp2
        go_roundw
        case rel => exact ⟨k + 1, by go_num, hkB, hr9, k9, L9⟩
        case measure => simp [intOf]; omega
    · obtain rfl : k = B := by omega
      have hob := (HT.out k p o hp ho).2 rfl
      have R1 : ∀ w', Lat wr w' → w'.rangeAt g1 0 [.bool b, .slice A n c] := fun w' hl => (k1.later hl).rangeAll
      have J85 : (Tryz.prog.info? 85).map (·.size) = some 2 := by kernel_rfl
      have HR := dg_raise hk511 hp
      have HOr := dg_order (c := c) (p := p) hr hn ho
      go_upto_region 2 with (fail)
      rename_i KN hKN
      refine wp_region_slots (dg2_rows b A n c k g1 p o false) (dg2_base b A n c k g1 p o false) 13 6 [[], [], [0, 1, 0], [], [2, 3, 2], [4]] (by kernel_rfl) (by kernel_rfl) (by kernel_rfl) (by kernel_rfl) (by kernel_rfl) (by kernel_rfl) (by rfl) rfl ?_ (dg2_steps wr b A n c k g1 p o false hob R1 J85 HL2.out HR HOr) ?_
      ·
        exact base_of (base_cons (by rfl) (base_cons (by rfl) (base_cons (by rfl) (base_cons (by rfl) (base_cons (by rfl) (base_nil _))))))
      · intro a9 W9 hsz9 hdf9 hL9 hbs hsl
        obtain ⟨v9, h9, q9⟩ := hsl 5 _ _ rfl rfl
        obtain rfl : v9 = .bool false := q9
        have w9 := slot_getD h9
        clear h9
        refine hKN _ _ ?_
        obtain ⟨T9, df9⟩ := a9
        obtain rfl : df9 = [] := hdf9
        obtain ⟨f, hf, rfl⟩ := spell13 T9 hsz9
        have x0 : f 0 = .agg #[.bool b, .slice A n c] := (hf 0).trans (slot_getD (hbs 0 _ rfl))
        have x1 : f 1 = .pointer (some ⟨g1, 0, none⟩) := (hf 1).trans (slot_getD (hbs 1 _ rfl))
        have x2 : f 2 = .int .i64 0 := (hf 2).trans (slot_getD (hbs 2 _ rfl))
        have x3 : f 3 = .int .i64 (k : Nat) := (hf 3).trans (slot_getD (hbs 3 _ rfl))
        have x12 : f 12 = undef := (hf 12).trans (slot_getD (hbs 12 _ rfl))
        have x9 := (hf 9).trans w9
        clear hbs hsl hf hsz9 hKN w9
        simp only [x0, x1, x2, x3, x12, x9]
        clear x0 x1 x2 x3 x12 x9
        have L9 := L.trans hL9
        clear hr k1 L R1 J85 HR HOr hp ho
        go_wp2
        go_ret
        exact ⟨rfl, L9⟩
end Go.Proofs.YtogkkhaepfablaaGreat

/- The reference's drafts of wide numbers: Within. -/
namespace Go.Proofs.YtogkkhaepfablaaGreat
open Go.RowKit
set_option linter.unusedSimpArgs false
set_option linter.unusedVariables false

theorem wi_rem {x lim q : Int} (h : 0 ≤ x) (e : x % lim = q) : x.tmod lim = q := by rw [Int.tmod_eq_emod_of_nonneg h]; exact e
theorem rg_nil (V : World) : Rg V false none 0 0 0 := ⟨Nat.le_refl _, [], Sl.nil _ _ _, (fun y h => absurd h (by simp)), (by first | exact trivial | simp [Nz]), (fun h => by cases h), by simp [sgn, val]⟩
theorem RefPost.leF {w w' : World} {z : Int} {N M : Nat} {e : Ending} (h : RefPost w z N e w') (hN : N ≤ M) : RefPost w z M e w' := by
  obtain ⟨b, A, n, c, e, hr, hn, hl⟩ := h
  exact ⟨b, A, n, c, e, hr, by omega, hl⟩
theorem RefF.le {w w' : World} {z : Int} {N M : Nat} {e : Ending} (h : RefF w z N e w') (hN : N ≤ M) : RefF w z M e w' := by
  obtain ⟨b, A, n, c, e, hr, hn, hl⟩ := h
  exact ⟨b, A, n, c, e, hr, by omega, hl⟩
theorem wi_raise (q : Nat) (hq : q < 511) : ∃ p : Int, 0 ≤ p ∧ ∀ A1 n1 c1 w, Rg w false A1 n1 c1 2 → n1 ≤ 2 → Calls Tryz.prog 37 #[.agg #[.bool false, .slice A1 n1 c1], .int .i64 q] w (RefN w p 1024) := by
  have hp0 : (0 : Int) ≤ 2 ^ q := Int.le_of_lt (Int.pow_pos (by decide))
  exact ⟨2 ^ q, hp0, fun A1 n1 c1 w h h' => (rRaised_any false A1 n1 c1 2 q w h h' (by omega)).mono fun e w' h => (h.leF (by omega)).nonneg hp0⟩
theorem wi_plus {wr : World} {A' : Option Addr} {n' c' k : Nat} {z p : Int} (hr : Rg wr false A' n' c' z) (hz : 0 ≤ z) (hn : n' ≤ 1100 + k) (hp : 0 ≤ p) : ∀ A1 n1 c1 w, Lat wr w → Rg w false A1 n1 c1 p → n1 ≤ 1024 → k ≤ 6 → Calls Tryz.prog 43 #[.agg #[.bool false, .slice A' n' c'], .agg #[.bool false, .slice A1 n1 c1]] w (RefFN w (z + p) (1100 + (k + 1))) := fun A1 n1 c1 w hl h h' hk =>
  (rPlus_fresh false A' n' c' z A1 n1 c1 p w (hr.later hl) h (by omega) (by omega)).mono fun e w' h => (h.le (by omega)).nonneg (by omega)
theorem wi_minus {wr : World} {A' : Option Addr} {n' c' k : Nat} {z r4 less : Int} {HM : Hid (less.tmod 4 = r4 ∧ IntKind.i64.wrap r4 = r4 ∧ IntKind.u32.wrap r4 = r4)} (hr : Rg wr false A' n' c' z) (hn : n' ≤ 1100 + k) (hk : k ≤ 6) : ∀ b2 A2 n2 c2 w, Lat wr w → Rg w b2 A2 n2 c2 r4 → n2 ≤ 2 → Calls Tryz.prog 44 #[.agg #[.bool false, .slice A' n' c'], .agg #[.bool b2, .slice A2 n2 c2]] w (RefPost w (z - r4) 1108) := fun b2 A2 n2 c2 w hl h h' =>
  (rMinus_any false A' n' c' z b2 A2 n2 c2 r4 w (hr.later hl) h (by omega) (by omega)).mono fun e w' h => h.leF (by omega)
structure WiQ (x lim : Int) (q : Nat) : Prop where
  e : x.tmod lim = (q : Int)
  w : wrap64 (q : Int) = (q : Int)
  h : q < 511
theorem wiQ {x lim : Int} (h : 0 ≤ x) (h1 : 1 ≤ lim) (h2 : lim ≤ 511) : ∃ q, WiQ x lim q := by
  have a1 := Int.emod_nonneg x (show lim ≠ 0 by omega)
  have a2 := Int.emod_lt_of_pos x (show (0 : Int) < lim by omega)
  obtain ⟨q, hq⟩ := Int.eq_ofNat_of_zero_le a1
  exact ⟨q, wi_rem h hq, IntWalk.wrap64_in _ (by omega), by omega⟩
noncomputable def wi13_rows (A' : Option Addr) (n' c' B0 q k : Nat) (z p : Int) : List SRow := [
  ⟨Op.load 85 (Operand.tmp 5), some 50, none, [], fun v _ => v = .agg #[.bool false, .slice A' n' c']⟩,
  ⟨Op.call { callee := Callee.value (Operand.func 38), args := #[Operand.const (Value.int IntKind.i64 2)], argTypes := #[3] }, some 51, none, [], LN 2 2⟩,
  ⟨Op.move (Operand.tmp 8), some 52, none, [], fun v _ => v = .int .i64 (q : Nat)⟩,
  ⟨Op.call { callee := Callee.value (Operand.func 37), args := #[Operand.tmp 51, Operand.tmp 52], argTypes := #[85, 3] }, some 53, none, [1, 2, 1], LN p 1024⟩,
  ⟨Op.call { callee := Callee.value (Operand.func 43), args := #[Operand.tmp 50, Operand.tmp 53], argTypes := #[85, 85] }, some 54, none, [0, 3, 3], LNF (z + p) (1100 + (k + 1)) B0⟩]
noncomputable def wi13_base (b : Bool) (a : Addr) (n c : Nat) (less lim : Int) (g2 g4 g5 : Nat) (A3 : Option Addr) (yl c3 k q : Nat) : List (Nat × Value) := [(0, .agg #[.bool b, .slice (some a) n c, .int .u32 less]), (1, .int .i64 lim), (2, .pointer (some ⟨g2, 0, none⟩)), (3, undef), (4, .pointer (some ⟨g4, 0, none⟩)), (5, .pointer (some ⟨g5, 0, none⟩)), (6, .slice A3 yl c3), (7, .int .i64 (k : Nat)), (8, .int .i64 (q : Nat)), (11, undef), (12, undef), (13, .agg #[.bool false, .slice none 0 0]), (59, undef), (60, undef), (61, undef), (62, undef), (63, undef), (64, undef), (65, undef), (66, undef), (67, undef), (68, undef), (69, undef), (70, undef), (71, undef), (72, undef), (73, undef), (74, undef), (75, undef)]
set_option maxRecDepth 100000 in
set_option maxHeartbeats 4000000 in
theorem wi13_steps (V : World) (A' : Option Addr) (n' c' B0 : Nat) (z p : Int) (b : Bool) (a : Addr) (n c : Nat) (less lim : Int) (g2 g4 g5 : Nat) (A3 : Option Addr) (yl c3 k q : Nat) (hB0 : B0 ≤ V.heap.size) (R5 : ∀ w', Lat V w' → w'.rangeAt g5 0 [.bool false, .slice A' n' c']) (J85 : (Tryz.prog.info? 85).map (·.size) = some 2)
    (HL2 : ∀ w, Calls Tryz.prog 38 #[.int .i64 2] w (RefN w 2 2))
    (HR : ∀ A1 n1 c1 w, Rg w false A1 n1 c1 2 → n1 ≤ 2 → Calls Tryz.prog 37 #[.agg #[.bool false, .slice A1 n1 c1], .int .i64 (q : Nat)] w (RefN w p 1024))
    (HP : ∀ A1 n1 c1 w, Lat V w → Rg w false A1 n1 c1 p → n1 ≤ 1024 → Calls Tryz.prog 43 #[.agg #[.bool false, .slice A' n' c'], .agg #[.bool false, .slice A1 n1 c1]] w (RefFN w (z + p) (1100 + (k + 1)))) :
    AllSteps Tryz.prog (wi13_rows A' n' c' B0 q k z p) (wi13_base b a n c less lim g2 g4 g5 A3 yl c3 k q) V (wi13_rows A' n' c' B0 q k z p) := by
  refine AllSteps.next (fun _ _ _ h _ => h) (fun j b h => by cases h) (fun a w hl hb hd o ho => by have e1 := hb 5 _ rfl; exact Runs.val (yv_load (S := Lat V) e1 R5 Tryz.underlying85 rfl J85 o w ho hl) ⟨Lat.refl _, fun _ => rfl⟩) ?_
  refine AllSteps.next (fun _ _ _ h hl => h.mono hl) (fun j b h => by cases h) (fun a w hl hb hd o ho => by exact Runs.call (yv_call (f := 38) (fun _ => by go_simp) o ho (by simp only [List.map_toArray, List.map_cons, List.map_nil, eval_const])) ((HL2 w).mono fun e w' h => h.run)) ?_
  refine AllSteps.next (fun _ _ _ h _ => h) (fun j b h => by cases h) (fun a w hl hb hd o ho => by have e1 := hb 8 _ rfl; exact Runs.val (yv_move (S := fun _ => True) e1 o w ho trivial) ⟨Lat.refl _, fun _ => rfl⟩) ?_
  refine AllSteps.next (fun _ _ _ h hl => h.mono hl) (fun j b h => by cases h) (fun a w hl hb hd o ho => by obtain ⟨v1, e1, q1⟩ := hd 1 _ _ (by simp) rfl rfl; obtain ⟨A1, n1, c1, rfl, r1, m1⟩ := (show LN 2 2 v1 w from q1); obtain ⟨v2, e2, q2⟩ := hd 2 _ _ (by simp) rfl rfl; subst q2; exact Runs.call (yv_call (f := 37) (fun _ => by go_simp) o ho (by simp only [List.map_toArray, List.map_cons, List.map_nil, eval_const, e1, e2])) ((HR A1 n1 c1 w r1 m1).mono fun e w' h => h.run)) ?_
  refine AllSteps.next (fun _ _ _ h hl => h.mono hl) (fun j b h => by cases h) (fun a w hl hb hd o ho => by obtain ⟨v1, e1, q1⟩ := hd 0 _ _ (by simp) rfl rfl; subst q1; obtain ⟨v2, e2, q2⟩ := hd 3 _ _ (by simp) rfl rfl; obtain ⟨A2, n2, c2, rfl, r2, m2⟩ := (show LN p 1024 v2 w from q2); exact Runs.call (yv_call (f := 43) (fun _ => by go_simp) o ho (by simp only [List.map_toArray, List.map_cons, List.map_nil, eval_const, e1, e2])) ((HP A2 n2 c2 w hl r2 m2).mono fun e w' h => h.run (Nat.le_trans hB0 hl.size))) ?_
  exact AllSteps.none
noncomputable def wi15_rows (A' : Option Addr) (n' c' k : Nat) (z r4 less : Int) (g2 : Nat) : List SRow := [
  ⟨Op.load 85 (Operand.tmp 5), some 59, none, [], fun v _ => v = .agg #[.bool false, .slice A' n' c']⟩,
  ⟨Op.fieldAddr 30 (Operand.tmp 2) 2, some 60, none, [], fun v _ => v = .pointer (some ⟨g2, 2, none⟩)⟩,
  ⟨Op.load 28 (Operand.tmp 60), some 61, none, [1], fun v _ => v = .int .u32 less⟩,
  ⟨Op.binOp BinOp.rem 28 (Operand.tmp 61) (Operand.const (Value.int IntKind.u32 4)) 28, some 62, none, [2], fun v _ => v = .int .u32 r4⟩,
  ⟨Op.convert 28 3 (Operand.tmp 62), some 63, none, [3], fun v _ => v = .int .i64 r4⟩,
  ⟨Op.call { callee := Callee.value (Operand.func 38), args := #[Operand.tmp 63], argTypes := #[3] }, some 64, none, [4], LV r4 2⟩,
  ⟨Op.call { callee := Callee.value (Operand.func 44), args := #[Operand.tmp 59, Operand.tmp 64], argTypes := #[85, 85] }, some 65, none, [0, 5, 5], LV (z - r4) 1108⟩]
noncomputable def wi15_base (g2 g4 g5 : Nat) : List (Nat × Value) := [(2, .pointer (some ⟨g2, 0, none⟩)), (4, .pointer (some ⟨g4, 0, none⟩)), (5, .pointer (some ⟨g5, 0, none⟩))]
set_option maxRecDepth 100000 in
set_option maxHeartbeats 4000000 in
theorem wi15_steps (V : World) (A' : Option Addr) (n' c' k : Nat) (z r4 less : Int) (g2 g4 g5 : Nat) (R5 : ∀ w', Lat V w' → w'.rangeAt g5 0 [.bool false, .slice A' n' c']) (J85 : (Tryz.prog.info? 85).map (·.size) = some 2) (R2 : ∀ w', Lat V w' → w'.cell? ⟨g2, 2, none⟩ = some (.int .u32 less))
    (hm : less.tmod 4 = r4) (hw4 : IntKind.i64.wrap r4 = r4) (hw32 : IntKind.u32.wrap r4 = r4)
    (HL4 : ∀ w, Calls Tryz.prog 38 #[.int .i64 r4] w (RefPost w r4 2))
    (HMN : ∀ b2 A2 n2 c2 w, Lat V w → Rg w b2 A2 n2 c2 r4 → n2 ≤ 2 → Calls Tryz.prog 44 #[.agg #[.bool false, .slice A' n' c'], .agg #[.bool b2, .slice A2 n2 c2]] w (RefPost w (z - r4) 1108)) :
    AllSteps Tryz.prog (wi15_rows A' n' c' k z r4 less g2) (wi15_base g2 g4 g5) V (wi15_rows A' n' c' k z r4 less g2) := by
  refine AllSteps.next (fun _ _ _ h _ => h) (fun j b h => by cases h) (fun a w hl hb hd o ho => by have e1 := hb 5 _ rfl; exact Runs.val (yv_load (S := Lat V) e1 R5 Tryz.underlying85 rfl J85 o w ho hl) ⟨Lat.refl _, fun _ => rfl⟩) ?_
  refine AllSteps.next (fun _ _ _ h _ => h) (fun j b h => by cases h) (fun a w hl hb hd o ho => by have e1 := hb 2 _ rfl; obtain ⟨d, op, ty, p, af, g⟩ := o; simp only at ho; subst ho; have ec : ∀ v, a.eval (.const v) = v := fun _ => rfl; exact Runs.val (by unfold execOp; generalize a.eval = ev at e1 ec ⊢; simp only [e1, ec]; go_simp) ⟨Lat.refl _, fun _ => rfl⟩) ?_
  refine AllSteps.next (fun _ _ _ h _ => h) (fun j b h => by cases h) (fun a w hl hb hd o ho => by obtain ⟨v1, e1, q1⟩ := hd 1 _ _ (by simp) rfl rfl; subst q1; obtain ⟨d, op, ty, p, af, g⟩ := o; simp only at ho; subst ho; have ec : ∀ v, a.eval (.const v) = v := fun _ => rfl; exact Runs.val (by unfold execOp; generalize a.eval = ev at e1 ec ⊢; simp only [e1, ec]; have hc := R2 w hl; go_simp) ⟨Lat.refl _, fun _ => rfl⟩) ?_
  refine AllSteps.next (fun _ _ _ h _ => h) (fun j b h => by cases h) (fun a w hl hb hd o ho => by obtain ⟨v1, e1, q1⟩ := hd 2 _ _ (by simp) rfl rfl; subst q1; obtain ⟨d, op, ty, p, af, g⟩ := o; simp only at ho; subst ho; have ec : ∀ v, a.eval (.const v) = v := fun _ => rfl; exact Runs.val (by unfold execOp; generalize a.eval = ev at e1 ec ⊢; simp only [e1, ec]; go_simp) ⟨Lat.refl _, fun _ => rfl⟩) ?_
  refine AllSteps.next (fun _ _ _ h _ => h) (fun j b h => by cases h) (fun a w hl hb hd o ho => by obtain ⟨v1, e1, q1⟩ := hd 3 _ _ (by simp) rfl rfl; subst q1; obtain ⟨d, op, ty, p, af, g⟩ := o; simp only at ho; subst ho; have ec : ∀ v, a.eval (.const v) = v := fun _ => rfl; exact Runs.val (by unfold execOp; generalize a.eval = ev at e1 ec ⊢; simp only [e1, ec]; go_simp) ⟨Lat.refl _, fun _ => rfl⟩) ?_
  refine AllSteps.next (fun _ _ _ h hl => h.mono hl) (fun j b h => by cases h) (fun a w hl hb hd o ho => by obtain ⟨v1, e1, q1⟩ := hd 4 _ _ (by simp) rfl rfl; subst q1; exact Runs.call (yv_call (f := 38) (fun _ => by go_simp) o ho (by simp only [List.map_toArray, List.map_cons, List.map_nil, eval_const, e1])) ((HL4 w).mono fun e w' h => h.run)) ?_
  refine AllSteps.next (fun _ _ _ h hl => h.mono hl) (fun j b h => by cases h) (fun a w hl hb hd o ho => by obtain ⟨v1, e1, q1⟩ := hd 0 _ _ (by simp) rfl rfl; subst q1; obtain ⟨v2, e2, q2⟩ := hd 5 _ _ (by simp) rfl rfl; obtain ⟨b2, A2, n2, c2, rfl, r2, m2⟩ := (show LV r4 2 v2 w from q2); exact Runs.call (yv_call (f := 44) (fun _ => by go_simp) o ho (by simp only [List.map_toArray, List.map_cons, List.map_nil, eval_const, e1, e2])) ((HMN b2 A2 n2 c2 w hl r2 m2).mono fun e w' h => h.run)) ?_
  exact AllSteps.none
theorem spell76 (T : Array Value) (h : T.size = 76) : ∃ f : Nat → Value, (∀ k, f k = T.getD k undef) ∧ T = #[f 0, f 1, f 2, f 3, f 4, f 5, f 6, f 7, f 8, f 9, f 10, f 11, f 12, f 13, f 14, f 15, f 16, f 17, f 18, f 19, f 20, f 21, f 22, f 23, f 24, f 25, f 26, f 27, f 28, f 29, f 30, f 31, f 32, f 33, f 34, f 35, f 36, f 37, f 38, f 39, f 40, f 41, f 42, f 43, f 44, f 45, f 46, f 47, f 48, f 49, f 50, f 51, f 52, f 53, f 54, f 55, f 56, f 57, f 58, f 59, f 60, f 61, f 62, f 63, f 64, f 65, f 66, f 67, f 68, f 69, f 70, f 71, f 72, f 73, f 74, f 75] := ⟨fun k => T.getD k undef, fun _ => rfl, (spell 76 T h).trans (by kernel_rfl)⟩
set_option maxRecDepth 100000 in
set_option maxHeartbeats 4000000 in
theorem rWithin_any (b : Bool) (A : Option Addr) (n c : Nat) (xs : List Int) (less lim : Int) (w : World) (hs : Sl w .u16 A n xs) (hx : ∀ x ∈ xs, 0 ≤ x ∧ x ≤ 65535) (hl : 0 ≤ less ∧ less < 4294967296) (h1 : 1 ≤ lim) (h2 : lim ≤ 511) :
    Calls Tryz.prog 11 #[.agg #[.bool b, .slice A n c, .int .u32 less], .int .i64 lim] w (fun e w' => ∃ u : W8, e = .returned (.agg #[.int .u64 u.a0, .int .u64 u.a1, .int .u64 u.a2, .int .u64 u.a3, .int .u64 u.a4, .int .u64 u.a5, .int .u64 u.a6, .int .u64 u.a7]) ∧ u.ok ∧ Lat w w') := by
  have HX := Lib.hid hx
  have HQ : Hid (∀ x, 0 ≤ x → ∃ q, WiQ x lim q) := fun x h => wiQ h h1 h2
  have hlim0 : (lim == 0) = false := by rw [beq_eq_false_iff_ne]; omega
  have hlimN : ¬ lim = 0 := by omega
  have hm : less.tmod 4 = less % 4 := Int.tmod_eq_emod_of_nonneg hl.1
  obtain ⟨r4, hr4⟩ : ∃ q, less % 4 = q := ⟨_, rfl⟩
  have hq2 : 0 ≤ r4 ∧ r4 < 4 := by omega
  have hw4 : IntKind.i64.wrap r4 = r4 := by rw [IntWalk.i64_left]; exact IntWalk.wrap64_in _ (by omega)
  have hw32 : IntKind.u32.wrap r4 = r4 := by have : IntKind.u32.wrap r4 = r4 % 4294967296 := rfl; rw [this]; omega
  rw [hr4] at hm
  have HL4 := Lib.hid (fun w => rLong1_any r4 w (by omega) (by omega))
  have HL2 := Lib.hid (fun w => (rLong1_any 2 w (by decide) (by decide)).mono fun e w' h => h.nonneg (by decide))
  have HM := Lib.hid (And.intro hm (And.intro hw4 hw32))
  clear hx hl h1 h2 hq2 hr4 hm hw4 hw32
  go_enter Tryz.func11, Tryz.ntmps11
  go_upto_region 1 with (fail)
  refine name2 (Q := fun W => Code.wp _ _ _ _ W) ?_
  intro W lw hsz k2 k4
  obtain ⟨g4, hg4⟩ : ∃ z, w.heap.size + 1 = z := ⟨_, rfl⟩
  obtain ⟨g2, hg2⟩ : ∃ z, w.heap.size = z := ⟨_, rfl⟩
  have hb : w.heap.size ≤ g2 ∧ g2 < g4 := by omega
  rw [hg4] at k4
  rw [hg2] at k2
  rw [hg4, hg2]
  clear hg4 hg2 hsz
  have h4l := k4.lt
  go_upto_region 2 with (fail)
  refine name1 (Q := fun W => Code.wp _ _ _ _ W) ?_
  intro V lv hsz k5
  obtain ⟨g5, hg5⟩ : ∃ z, W.heap.size = z := ⟨_, rfl⟩
  have h45 : g4 < g5 := by omega
  rw [hg5] at k5 ⊢
  replace k2 := k2.later lv
  replace k4 := k4.later lv
  have LV0 := lw.trans lv
  clear lv lw hsz hg5 h4l
  obtain ⟨B, hB⟩ : ∃ B, V.heap.size = B := ⟨_, rfl⟩
  have h5B : g5 < B := by have := k5.lt; omega
  have hw2 : w.heap.size ≤ g2 := hb.1
  have hw5 : w.heap.size ≤ g5 := by omega
  have ho0 : Own V B 3 .i64 (.slice none 0 0) [] := Own.nil _ _ _ _
  have hr0 : Rg V false none 0 0 0 := rg_nil V
  go_upto_region 4 with (fail)
  go_loopw [6, 7] (fun v i wr => ∃ (k : Nat) (ys : List Int) (A' : Option Addr) (n' c' : Nat) (z : Int), i = .int .i64 k ∧ k ≤ 6 ∧ ys.length ≤ k ∧ Own wr B 3 .i64 v ys ∧ 0 ≤ z ∧ Rg wr false A' n' c' z ∧ n' ≤ 1100 + k ∧ Blk wr g2 30 #[.bool b, .slice A n c, .int .u32 less] ∧ Blk wr g4 26 #[.int .u64 W8.zero.a0, .int .u64 W8.zero.a1, .int .u64 W8.zero.a2, .int .u64 W8.zero.a3, .int .u64 W8.zero.a4, .int .u64 W8.zero.a5, .int .u64 W8.zero.a6, .int .u64 W8.zero.a7] ∧ Blk wr g5 85 #[.bool false, .slice A' n' c'] ∧ Lat w wr ∧ B ≤ wr.heap.size) (fun _ i _ => 6 - (intOf i).toNat)
  case atStart => exact ⟨0, [], none, 0, 0, 0, rfl, by omega, by simp, ho0, by omega, hr0, by omega, k2, k4, k5, LV0, by omega⟩
  case round =>
    clear ho0 hr0 k2 k4 k5 LV0 hB
    obtain ⟨k, ys, A', n', c', z, rfl, hk6, hyk, hown, hz, hr, hn', k2, k4, k5, L, hBw⟩ := hrel
    have e0 := k2.cell 0
    have e1 := k2.cell 1
    have e2 := k2.cell 2
    by_cases hlt : k < n ∧ k < 6
    · obtain ⟨hkn, hk⟩ := hlt
      obtain ⟨a, x, rfl, ha, hxk, hcell⟩ := (hs.later L).at hkn
      have hx := HX.out x (List.mem_of_getElem? hxk)
      have hx0 := hx.1
      have hx1 := hx.2
      obtain ⟨q, hq⟩ := HQ.out x hx0
      obtain ⟨hqe, hqw, hq5⟩ := hq
      have hkI : (k : Int) < 6 := by omega
      have hknI : (k : Int) < (n : Int) := by omega
      clear hxk hx
      obtain ⟨A3, c3, rfl, hsl, hcc, hfr⟩ := hown.form
      go_wp2_with fail
      go_loopw [9, 10] (fun is j W => ∃ (jj : Nat) (bb : Bool), is = .bool bb ∧ j = .int .i64 jj ∧ jj ≤ ys.length ∧ W = wr) (fun _ j _ => ys.length - (intOf j).toNat)
      case atStart => exact ⟨0, false, rfl, rfl, by omega, rfl⟩
      case round =>
        obtain ⟨jj, bb, rfl, rfl, hjl, rfl⟩ := hrel
        by_cases hjy : jj < ys.length
        · obtain ⟨a3, y, rfl, ha3, hyj, hcy⟩ := hsl.at hjy
          have hjI : (jj : Int) < (ys.length : Int) := by omega
          cases bb with
          | true =>
            go_wp2
            go_roundw
            case rel => exact ⟨jj + 1, _, rfl, by go_num, by omega, trivial⟩
            case measure => simp [intOf]; omega
          | false =>
            go_wp2
            go_roundw
            case rel => exact ⟨jj + 1, _, rfl, by go_num, by omega, trivial⟩
            case measure => simp [intOf]; omega
        · obtain rfl : jj = ys.length := by omega
          cases bb with
          | true =>
            go_wp2
            go_roundw
            case rel => exact ⟨k + 1, ys, A', n', c', z, by go_num, by omega, by omega, hown, hz, hr, by omega, k2, k4, k5, L, hBw⟩
            case measure => simp [intOf]; omega
          | false =>
            obtain ⟨p, hp0, HR⟩ := wi_raise q hq5
            have HP := wi_plus (c' := c') (p := p) hr hz hn' hp0
            have hzp : 0 ≤ z + p := Int.add_nonneg hz hp0
            have HRH := Lib.hid HR
            have HPH := Lib.hid HP
            clear HR HP hp0 e0 e1 e2 hcell hqe hsl
            go_upto_region 13 with (fail)
            have HPk := fun A1 n1 c1 w h1 h2 h3 => HPH.out A1 n1 c1 w h1 h2 h3 hk6
            have R5 : ∀ w', Lat wr w' → w'.rangeAt g5 0 [.bool false, .slice A' n' c'] := fun w' hl => (k5.later hl).rangeAll
            have J85 : (Tryz.prog.info? 85).map (·.size) = some 2 := by kernel_rfl
            rename_i KN hKN
            refine wp_region_slotsL (wi13_rows A' n' c' wr.heap.size q k z p) (wi13_base b a n c less lim g2 g4 g5 A3 ys.length c3 k q) 76 5 [[], [], [], [1, 2, 1], [0, 3, 3], [4, 4, 0, 1, 2, 3, 4]] (by kernel_rfl) _ rfl rfl (by kernel_rfl) (by kernel_rfl) (by kernel_rfl) (by kernel_rfl) (by kernel_rfl) (by kernel_rfl) (by rfl) rfl ?_ ?_ ?_
            ·
              exact base_of (base_cons (by rfl) (base_cons (by rfl) (base_cons (by rfl) (base_cons (by rfl) (base_cons (by rfl) (base_cons (by rfl) (base_cons (by rfl) (base_cons (by rfl) (base_cons (by rfl) (base_cons (by rfl) (base_cons (by rfl) (base_cons (by rfl) (base_cons (by rfl) (base_cons (by rfl) (base_cons (by rfl) (base_cons (by rfl) (base_cons (by rfl) (base_cons (by rfl) (base_cons (by rfl) (base_cons (by rfl) (base_cons (by rfl) (base_cons (by rfl) (base_cons (by rfl) (base_cons (by rfl) (base_cons (by rfl) (base_cons (by rfl) (base_cons (by rfl) (base_cons (by rfl) (base_cons (by rfl) (base_nil _))))))))))))))))))))))))))))))
            · exact wi13_steps wr A' n' c' wr.heap.size z p b a n c less lim g2 g4 g5 A3 ys.length c3 k q (Nat.le_refl _) R5 J85 HL2.out HRH.out HPk
            · intro a9 W9 hsz9 hdf9 hL9 hbs hsl
              obtain ⟨v9, h09, qv9⟩ := hsl 4 _ _ rfl rfl
              obtain ⟨A6, n6, c6, rfl, s1, s2, s4⟩ := (show LNF (z + p) (1100 + (k + 1)) wr.heap.size v9 W9 from qv9)
              have K9 := k5.later hL9
              refine wp_store_mid 85 (.tmp 5) (.tmp 54) rfl g5 0 #[.bool false, .slice A6 n6 c6] (hbs 5 _ rfl).ev h09.ev (K9.thereAll _ rfl) (by kernel_rfl) (by simp [Value.oneCell']) ?_
              refine hKN _ _ ?_
              obtain ⟨T9, df9⟩ := a9
              obtain rfl : df9 = [] := hdf9
              obtain ⟨f, hf, rfl⟩ := spell76 T9 hsz9
              have x0 : f 0 = .agg #[.bool b, .slice (some a) n c, .int .u32 less] := (hf 0).trans (slot_getD (hbs 0 _ rfl))
              have x1 : f 1 = .int .i64 lim := (hf 1).trans (slot_getD (hbs 1 _ rfl))
              have x2 : f 2 = .pointer (some ⟨g2, 0, none⟩) := (hf 2).trans (slot_getD (hbs 2 _ rfl))
              have x3 : f 3 = undef := (hf 3).trans (slot_getD (hbs 3 _ rfl))
              have x4 : f 4 = .pointer (some ⟨g4, 0, none⟩) := (hf 4).trans (slot_getD (hbs 4 _ rfl))
              have x5 : f 5 = .pointer (some ⟨g5, 0, none⟩) := (hf 5).trans (slot_getD (hbs 5 _ rfl))
              have x6 : f 6 = .slice A3 ys.length c3 := (hf 6).trans (slot_getD (hbs 6 _ rfl))
              have x7 : f 7 = .int .i64 (k : Nat) := (hf 7).trans (slot_getD (hbs 7 _ rfl))
              have x8 : f 8 = .int .i64 (q : Nat) := (hf 8).trans (slot_getD (hbs 8 _ rfl))
              have x11 : f 11 = undef := (hf 11).trans (slot_getD (hbs 11 _ rfl))
              have x12 : f 12 = undef := (hf 12).trans (slot_getD (hbs 12 _ rfl))
              have x13 : f 13 = .agg #[.bool false, .slice none 0 0] := (hf 13).trans (slot_getD (hbs 13 _ rfl))
              have x59 : f 59 = undef := (hf 59).trans (slot_getD (hbs 59 _ rfl))
              have x60 : f 60 = undef := (hf 60).trans (slot_getD (hbs 60 _ rfl))
              have x61 : f 61 = undef := (hf 61).trans (slot_getD (hbs 61 _ rfl))
              have x62 : f 62 = undef := (hf 62).trans (slot_getD (hbs 62 _ rfl))
              have x63 : f 63 = undef := (hf 63).trans (slot_getD (hbs 63 _ rfl))
              have x64 : f 64 = undef := (hf 64).trans (slot_getD (hbs 64 _ rfl))
              have x65 : f 65 = undef := (hf 65).trans (slot_getD (hbs 65 _ rfl))
              have x66 : f 66 = undef := (hf 66).trans (slot_getD (hbs 66 _ rfl))
              have x67 : f 67 = undef := (hf 67).trans (slot_getD (hbs 67 _ rfl))
              have x68 : f 68 = undef := (hf 68).trans (slot_getD (hbs 68 _ rfl))
              have x69 : f 69 = undef := (hf 69).trans (slot_getD (hbs 69 _ rfl))
              have x70 : f 70 = undef := (hf 70).trans (slot_getD (hbs 70 _ rfl))
              have x71 : f 71 = undef := (hf 71).trans (slot_getD (hbs 71 _ rfl))
              have x72 : f 72 = undef := (hf 72).trans (slot_getD (hbs 72 _ rfl))
              have x73 : f 73 = undef := (hf 73).trans (slot_getD (hbs 73 _ rfl))
              have x74 : f 74 = undef := (hf 74).trans (slot_getD (hbs 74 _ rfl))
              have x75 : f 75 = undef := (hf 75).trans (slot_getD (hbs 75 _ rfl))
              clear hbs hsl hf hsz9 h09 qv9 hKN
              simp only [Act.put, x0, x1, x2, x3, x4, x5, x6, x7, x8, x11, x12, x13, x59, x60, x61, x62, x63, x64, x65, x66, x67, x68, x69, x70, x71, x72, x73, x74, x75]
              clear x0 x1 x2 x3 x4 x5 x6 x7 x8 x11 x12 x13 x59 x60 x61 x62 x63 x64 x65 x66 x67 x68 x69 x70 x71 x72 x73 x74 x75
              refine name_long (Q := fun W => Code.wp _ _ _ _ W) K9 ?_
              intro w5 j5 lp hrg
              have hownL := hown.later hL9
              have hown5 : Own w5 B 3 .i64 (.slice A3 ys.length c3) ys := hownL.kept (fun g hg hq => lp.block g (hownL.at_ g hq).2 (by omega))
              have r5 := hrg s1
              have j2 := (k2.later hL9).keepP lp (by omega)
              have j4 := (k4.later hL9).keepP lp (by omega)
              have L5 := lp.narrow (L.trans hL9) hw5
              have hB5 : B ≤ w5.heap.size := by have := lp.size; have := hL9.size; omega
              have hfrs : ∀ a, A6 = some a → ∀ q, Value.ownBlock (.slice A3 ys.length c3) = some q → a.block ≠ q := fun a ha q hq => by
                have h1 := s4 a ha
                have h2 := (hown.at_ q hq).2
                omega
              have hOB := Lib.hid (fun q h => (hown5.at_ q h).1)
              have HF := Lib.hid hfrs
              clear K9 hownL hown s4 s1 lp hrg k2 k4 k5 L hL9 hr hfr hfrs
              go_wp2_with (at_builtin; refine wpList_pushG rfl _ _ 71 rfl B 3 3 .i64 8 Tryz.underlying71 infoI64 (by decide) _ ys [_] _ rfl w5 (by rfl) hown5 1 rfl (by decide) (by rfl) (by omega) hB5 ?_; intro v' w6 hown6 hlat6 hblk6 hsz6)
              have no : ∀ g, g < B → ¬ some g = Value.ownBlock (.slice A3 ys.length c3) := fun g hg h => by have := hOB.out g h.symm; omega
              have m2 : Blk w6 g2 30 #[.bool b, .slice (some a) n c, .int .u32 less] := (hblk6 g2 (by omega) (no g2 (by omega))).trans j2
              have m4 : Blk w6 g4 26 #[.int .u64 W8.zero.a0, .int .u64 W8.zero.a1, .int .u64 W8.zero.a2, .int .u64 W8.zero.a3, .int .u64 W8.zero.a4, .int .u64 W8.zero.a5, .int .u64 W8.zero.a6, .int .u64 W8.zero.a7] := (hblk6 g4 (by omega) (no g4 (by omega))).trans j4
              have m5 : Blk w6 g5 85 #[.bool false, .slice A6 n6 c6] := (hblk6 g5 (by omega) (no g5 (by omega))).trans j5
              have r6 := r5.kept hsz6 (fun a ha hlt => hblk6 _ hlt (fun h => HF.out a ha _ h.symm rfl))
              have L6 := hlat6 w L5 (by omega)
              go_roundw
              case rel => exact ⟨k + 1, ys ++ [(q : Int)], A6, n6, c6, z + p, by go_num, by omega, by simp; omega, hown6, by omega, r6, by omega, m2, m4, m5, L6, by omega⟩
              case measure => simp [intOf]; omega
    · have hend : ¬ ((k : Int) < (n : Int)) ∨ ((k : Int) < (n : Int) ∧ ¬ ((k : Int) < 6)) := by omega
      have hw4 : w.heap.size ≤ g4 := by omega
      have HMN := wi_minus (c' := c') (k := k) (HM := HM) hr hn' hk6
      rcases hend with hend | ⟨hend, hend6⟩
      all_goals
        go_upto_region 15 with (fail)
        have R5 : ∀ w', Lat wr w' → w'.rangeAt g5 0 [.bool false, .slice A' n' c'] := fun w' hl => (k5.later hl).rangeAll
        have J85 : (Tryz.prog.info? 85).map (·.size) = some 2 := by kernel_rfl
        have R2 : ∀ w', Lat wr w' → w'.cell? ⟨g2, 2, none⟩ = some (.int .u32 less) := fun w' hl => (k2.later hl).cell 2
        rename_i KN hKN
        refine wp_region_slotsL (wi15_rows A' n' c' k z r4 less g2) (wi15_base g2 g4 g5) 76 7 [[], [], [1], [2], [3], [4], [0, 5, 5], [6, 6, 0, 1, 2, 3, 4, 5, 6]] (by kernel_rfl) _ rfl rfl (by kernel_rfl) (by kernel_rfl) (by kernel_rfl) (by kernel_rfl) (by kernel_rfl) (by kernel_rfl) (by rfl) rfl ?_ ?_ ?_
        ·
          exact base_of (base_cons (by rfl) (base_cons (by rfl) (base_cons (by rfl) (base_nil _))))
        · exact wi15_steps wr A' n' c' k z r4 less g2 g4 g5 R5 J85 R2 HM.out.1 HM.out.2.1 HM.out.2.2 HL4.out HMN
        · intro a9 W9 hsz9 hdf9 hL9 hbs hsl
          obtain ⟨v9, h09, qv9⟩ := hsl 6 _ _ rfl rfl
          obtain ⟨b6, A6, n6, c6, rfl, s1, s2⟩ := (show LV (z - r4) 1108 v9 W9 from qv9)
          have K9 := k5.later hL9
          refine wp_store_mid 85 (.tmp 5) (.tmp 65) rfl g5 0 #[.bool b6, .slice A6 n6 c6] (hbs 5 _ rfl).ev h09.ev (K9.thereAll _ rfl) (by kernel_rfl) (by simp [Value.oneCell']) ?_
          refine hKN _ _ ?_
          obtain ⟨T9, df9⟩ := a9
          obtain rfl : df9 = [] := hdf9
          obtain ⟨f, hf, rfl⟩ := spell76 T9 hsz9
          have x2 : f 2 = .pointer (some ⟨g2, 0, none⟩) := (hf 2).trans (slot_getD (hbs 2 _ rfl))
          have x4 : f 4 = .pointer (some ⟨g4, 0, none⟩) := (hf 4).trans (slot_getD (hbs 4 _ rfl))
          have x5 : f 5 = .pointer (some ⟨g5, 0, none⟩) := (hf 5).trans (slot_getD (hbs 5 _ rfl))
          clear hbs hsl hf hsz9 h09 qv9 hKN
          simp only [Act.put, x2, x4, x5]
          clear x2 x4 x5
          refine name_long (Q := fun W => Code.wp _ _ _ _ W) K9 ?_
          intro w5 j5 lp hrg
          have r5 := hrg s1
          have j2 := (k2.later hL9).keepP lp (by omega)
          have j4 := (k4.later hL9).keepP lp (by omega)
          have L5 := lp.narrow (L.trans hL9) hw5
          clear K9 s1 lp hrg k2 k4 k5 L hL9 hr HMN hown
          have d0 := j2.cell 0
          have y0 := j5.cell 0
          have y1 := j5.cell 1
          cases b with
          | false =>
            go_wp2_with fail
            refine (rOut_any _ _ _ _ _ w5 r5 (by omega)).mono ?_
            rintro e w6 ⟨u, r, rfl, hu, lu⟩
            have LU := L5
            clear d0 y0 y1 j2 j5 r5 L5
            have huo : u.ok := by
              rcases hu with ⟨_, _, rfl, _⟩ | ⟨_, rfl, _⟩
              · exact W8.of_ok _
              · exact W8.zero_ok
            replace j4 := j4.later lu
            have L6 := LU.trans lu
            clear hu lu LU
            go_upto_region 19 with (fail)
            refine name1 (Q := fun W => Code.wp _ _ _ _ W) ?_
            intro w8 l8 hs8 k11
            replace j4 := j4.later l8
            have d0 := k11.cell 0
            have d1 := k11.cell 1
            have d2 := k11.cell 2
            have d3 := k11.cell 3
            have d4 := k11.cell 4
            have d5 := k11.cell 5
            have d6 := k11.cell 6
            have d7 := k11.cell 7
            have p0 := j4.cell 0
            have p1 := j4.cell 1
            have p2 := j4.cell 2
            have p3 := j4.cell 3
            have p4 := j4.cell 4
            have p5 := j4.cell 5
            have p6 := j4.cell 6
            have p7 := j4.cell 7
            have f0 := j4.frozen 0
            have f1 := j4.frozen 1
            have f2 := j4.frozen 2
            have f3 := j4.frozen 3
            have f4 := j4.frozen 4
            have f5 := j4.frozen 5
            have f6 := j4.frozen 6
            have f7 := j4.frozen 7
            have hlt4 := j4.lt
            go_wp2
            refine name_put8 (Q := fun W => bodyPost _ _ _ _ _ W) j4 ?_
            intro w9 k9 l9
            have e0 := k9.cell 0
            have e1 := k9.cell 1
            have e2 := k9.cell 2
            have e3 := k9.cell 3
            have e4 := k9.cell 4
            have e5 := k9.cell 5
            have e6 := k9.cell 6
            have e7 := k9.cell 7
            refine bodyPost_ret (v := .agg #[.int .u64 u.a0, .int .u64 u.a1, .int .u64 u.a2, .int .u64 u.a3, .int .u64 u.a4, .int .u64 u.a5, .int .u64 u.a6, .int .u64 u.a7]) (by simp [results, Tryz.results11, go_sem, e0, e1, e2, e3, e4, e5, e6, e7]) rfl ?_
            exact ⟨u, rfl, huo, l9.narrow (L6.trans l8) hw4⟩
          | true =>
            go_wp2_with fail
            refine (rTurn_any _ _ _ _ _ w5 r5 (by omega)).mono ?_
            rintro e w6 ⟨b7, A7, n7, c7, rfl, r7, m7, l6⟩
            replace j4 := j4.later l6
            replace j5 := j5.later l6
            have LT := L5.trans l6
            clear d0 y0 y1 j2 r5 L5 l6
            have y0 := j5.cell 0
            have y1 := j5.cell 1
            have f0 := j5.frozen 0
            have f1 := j5.frozen 1
            have hlt5 := j5.lt
            go_upto_region 18 with (fail)
            refine name_long (Q := fun W => Code.wp _ _ _ _ W) j5 ?_
            intro w7 j7 lp7 hrg7
            have r8 := hrg7 r7
            replace j4 := j4.keepP lp7 (by omega)
            have LU := lp7.narrow LT hw5
            clear y0 y1 f0 f1 hlt5 j5 lp7 hrg7 r7 LT
            have y0 := j7.cell 0
            have y1 := j7.cell 1
            go_wp2_with fail
            refine (rOut_any _ _ _ _ _ w7 r8 (by omega)).mono ?_
            rintro e w9 ⟨u, r, rfl, hu, lu⟩
            clear y0 y1 j7 r8
            have huo : u.ok := by
              rcases hu with ⟨_, _, rfl, _⟩ | ⟨_, rfl, _⟩
              · exact W8.of_ok _
              · exact W8.zero_ok
            replace j4 := j4.later lu
            have L6 := LU.trans lu
            clear hu lu LU
            go_upto_region 19 with (fail)
            refine name1 (Q := fun W => Code.wp _ _ _ _ W) ?_
            intro w8 l8 hs8 k11
            replace j4 := j4.later l8
            have d0 := k11.cell 0
            have d1 := k11.cell 1
            have d2 := k11.cell 2
            have d3 := k11.cell 3
            have d4 := k11.cell 4
            have d5 := k11.cell 5
            have d6 := k11.cell 6
            have d7 := k11.cell 7
            have p0 := j4.cell 0
            have p1 := j4.cell 1
            have p2 := j4.cell 2
            have p3 := j4.cell 3
            have p4 := j4.cell 4
            have p5 := j4.cell 5
            have p6 := j4.cell 6
            have p7 := j4.cell 7
            have f0 := j4.frozen 0
            have f1 := j4.frozen 1
            have f2 := j4.frozen 2
            have f3 := j4.frozen 3
            have f4 := j4.frozen 4
            have f5 := j4.frozen 5
            have f6 := j4.frozen 6
            have f7 := j4.frozen 7
            have hlt4 := j4.lt
            go_wp2
            refine name_put8 (Q := fun W => bodyPost _ _ _ _ _ W) j4 ?_
            intro w9 k9 l9
            have e0 := k9.cell 0
            have e1 := k9.cell 1
            have e2 := k9.cell 2
            have e3 := k9.cell 3
            have e4 := k9.cell 4
            have e5 := k9.cell 5
            have e6 := k9.cell 6
            have e7 := k9.cell 7
            refine bodyPost_ret (v := .agg #[.int .u64 u.a0, .int .u64 u.a1, .int .u64 u.a2, .int .u64 u.a3, .int .u64 u.a4, .int .u64 u.a5, .int .u64 u.a6, .int .u64 u.a7]) (by simp [results, Tryz.results11, go_sem, e0, e1, e2, e3, e4, e5, e6, e7]) rfl ?_
            exact ⟨u, rfl, huo, l9.narrow (L6.trans l8) hw4⟩
end Go.Proofs.YtogkkhaepfablaaGreat

/- A draft of a number that came in. -/
namespace Go.Proofs.YtogkkhaepfablaaGreat
open Go.RowKit

/-- A draft of a number that came in. -/
structure DrIn (w : World) (A : Option Addr) (n : Nat) (less : Int) : Prop where
  l0 : 0 ≤ less ∧ less < 4294967296
  s : ∃ xs, Sl w .u16 A n xs ∧ ∀ x ∈ xs, 0 ≤ x ∧ x ≤ 65535
theorem DrIn.later {W w : World} {A : Option Addr} {n : Nat} {less : Int} (h : DrIn W A n less) (hl : Lat W w) : DrIn w A n less := by
  obtain ⟨h1, xs, h2, h3⟩ := h
  exact ⟨h1, xs, h2.later hl, h3⟩
theorem DrIn.within {w : World} {A : Option Addr} {n : Nat} {less : Int} (h : DrIn w A n less) (b : Bool) (c : Nat) (lim : Int) (h1 : 1 ≤ lim) (h2 : lim ≤ 511) :
    Calls Tryz.prog 11 #[.agg #[.bool b, .slice A n c, .int .u32 less], .int .i64 lim] w (fun e w' => ∃ u : W8, e = .returned (.agg #[.int .u64 u.a0, .int .u64 u.a1, .int .u64 u.a2, .int .u64 u.a3, .int .u64 u.a4, .int .u64 u.a5, .int .u64 u.a6, .int .u64 u.a7]) ∧ u.ok ∧ Lat w w') := by
  obtain ⟨hl, xs, hs, hx⟩ := h
  exact rWithin_any b A n c xs less lim w hs hx hl h1 h2
end Go.Proofs.YtogkkhaepfablaaGreat

/- Equality of wide numbers, as the walk meets it. -/
namespace Go.Proofs.YtogkkhaepfablaaGreat
open Go.RowKit

theorem wide_in {u v : W8} (hu : u.ok) (hv : v.ok) (w : World) : (Op.equalIn 10000 26 (.agg #[.int .u64 u.a0, .int .u64 u.a1, .int .u64 u.a2, .int .u64 u.a3, .int .u64 u.a4, .int .u64 u.a5, .int .u64 u.a6, .int .u64 u.a7]) (.agg #[.int .u64 v.a0, .int .u64 v.a1, .int .u64 v.a2, .int .u64 v.a3, .int .u64 v.a4, .int .u64 v.a5, .int .u64 v.a6, .int .u64 v.a7])).run Tryz.prog w = .ok (decide (u.mag = v.mag)) w := by
  obtain ⟨r, hr, hi⟩ := run_equalIn_deep (P := Tryz.prog) 9990 10 26 (by kernel_rfl) w 10 10 (.agg #[.int .u64 u.a0, .int .u64 u.a1, .int .u64 u.a2, .int .u64 u.a3, .int .u64 u.a4, .int .u64 u.a5, .int .u64 u.a6, .int .u64 u.a7]) (.agg #[.int .u64 v.a0, .int .u64 v.a1, .int .u64 v.a2, .int .u64 v.a3, .int .u64 v.a4, .int .u64 v.a5, .int .u64 v.a6, .int .u64 v.a7]) _ _ (by kernel_rfl) (by kernel_rfl) (key30 hu 8) (key30 hv 8)
  have e : r = decide (u.mag = v.mag) := by
    rw [litsW_inj] at hi
    rw [Bool.eq_iff_iff, decide_eq_true_eq, hi]
    exact ⟨fun h => by rw [h], fun h => W8.mag_inj hu hv h⟩
  rw [hr, e]
end Go.Proofs.YtogkkhaepfablaaGreat

/- Chance: the reference's Wide: what it needs. -/
namespace Go.Proofs.YtogkkhaepfablaaGreat
open Go.RowKit
set_option linter.unusedSimpArgs false
set_option linter.unusedVariables false
/-- The reference's Sign. -/
theorem rSign_any (x : W8) (hx : x.ok) (w : World) : Calls Tryz.prog 48 #[.agg #[.int .u64 x.a0, .int .u64 x.a1, .int .u64 x.a2, .int .u64 x.a3, .int .u64 x.a4, .int .u64 x.a5, .int .u64 x.a6, .int .u64 x.a7]] w (fun e w' => e = .returned (.int .i64 (ordR x.toInt)) ∧ Lat w w') := by
  have HI := fun w => rIn_any x hx w
  obtain ⟨z, hz⟩ : ∃ z, x.toInt = z := ⟨_, rfl⟩
  rw [hz] at HI ⊢
  clear hz hx
  go_enter Tryz.func48, Tryz.ntmps48
  go_upto_region 1 with (fail)
  refine name1 (Q := fun W => Code.wp _ _ _ _ W) ?_
  intro W hl hs k1
  have d0 := k1.cell 0
  have d1 := k1.cell 1
  have d2 := k1.cell 2
  have d3 := k1.cell 3
  have d4 := k1.cell 4
  have d5 := k1.cell 5
  have d6 := k1.cell 6
  have d7 := k1.cell 7
  go_wp2_with fail
  refine (HI W).mono ?_
  rintro e w1 ⟨b, A, n, c, rfl, r1, r2, l1⟩
  clear d0 d1 d2 d3 d4 d5 d6 d7
  have HO := rOrder_any b A n c z false none 0 0 0 w1 r1 (rg_nil w1) (by omega) (by omega)
  rw [Int.sub_zero] at HO
  go_wp2_with fail
  refine HO.mono ?_
  rintro e w2 ⟨rfl, l2⟩
  go_wp2
  go_ret
  exact ⟨rfl, (hl.trans l1).trans l2⟩
theorem rSub_num {w1 : World} {b : Bool} {A : Option Addr} {n c : Nat} {N : Int} (r1 : Rg w1 b A n c N) (hn : n ≤ 17) : ∀ b2 A2 n2 c2 w, Lat w1 w → Rg w b2 A2 n2 c2 1 → n2 ≤ 2 → Calls Tryz.prog 44 #[.agg #[.bool b, .slice A n c], .agg #[.bool b2, .slice A2 n2 c2]] w (RefPost w (N - 1) 18) := fun b2 A2 n2 c2 w hl h h' =>
  (rMinus_any b A n c N b2 A2 n2 c2 1 w (r1.later hl) h (by omega) (by omega)).mono fun e w' h => h.leD (by omega)
/-- What is known of the words of a candidate: so far q of them. -/
structure RwN (s q : Nat) (v p : Int) : Prop where
  v : val W64 (chWords q s) = v
  p : W64 ^ q = p
theorem RwN.zero (s : Nat) : RwN s 0 0 1 := ⟨rfl, rfl⟩
theorem RwN.succ {s q : Nat} {v p : Int} (h : RwN s q v p) : RwN s (q + 1) (v + (chMix (chStep (chSt q s)) : Int) * p) (p * 18446744073709551616) := by
  obtain ⟨h1, h2⟩ := h
  refine ⟨?_, ?_⟩
  · rw [chWords_succ, val_append, chWords_length, h1, h2]
    have : val W64 [(chMix (chStep (chSt q s)) : Int)] = (chMix (chStep (chSt q s)) : Int) := by simp [val]
    rw [this, Int.mul_comm]
  · rw [Int.pow_succ, h2]; rfl
end Go.Proofs.YtogkkhaepfablaaGreat

/- Chance: the reference's Wide, walked. -/
namespace Go.Proofs.YtogkkhaepfablaaGreat
open Go.RowKit
set_option linter.unusedSimpArgs false
set_option linter.unusedVariables false

theorem spell86 (T : Array Value) (h : T.size = 86) : ∃ f : Nat → Value, (∀ k, f k = T.getD k undef) ∧ T = #[f 0, f 1, f 2, f 3, f 4, f 5, f 6, f 7, f 8, f 9, f 10, f 11, f 12, f 13, f 14, f 15, f 16, f 17, f 18, f 19, f 20, f 21, f 22, f 23, f 24, f 25, f 26, f 27, f 28, f 29, f 30, f 31, f 32, f 33, f 34, f 35, f 36, f 37, f 38, f 39, f 40, f 41, f 42, f 43, f 44, f 45, f 46, f 47, f 48, f 49, f 50, f 51, f 52, f 53, f 54, f 55, f 56, f 57, f 58, f 59, f 60, f 61, f 62, f 63, f 64, f 65, f 66, f 67, f 68, f 69, f 70, f 71, f 72, f 73, f 74, f 75, f 76, f 77, f 78, f 79, f 80, f 81, f 82, f 83, f 84, f 85] := ⟨fun k => T.getD k undef, fun _ => rfl, (spell 86 T h).trans (by kernel_rfl)⟩
noncomputable def rw4_rows (b7 : Bool) (A7 : Option Addr) (n7 c7 k g2 g3 g4 g5 g7 : Nat) (N : Int) : List SRow := [
  ⟨Op.load 85 (Operand.tmp 7), some 28, none, [], fun v _ => v = .agg #[.bool b7, .slice A7 n7 c7]⟩,
  ⟨Op.call { callee := Callee.value (Operand.func 38), args := #[Operand.const (Value.int IntKind.i64 1)], argTypes := #[3] }, some 29, none, [], LV 1 2⟩,
  ⟨Op.call { callee := Callee.value (Operand.func 44), args := #[Operand.tmp 28, Operand.tmp 29], argTypes := #[85, 85] }, some 30, none, [0, 1, 1], LV (N - 1) 18⟩,
  ⟨Op.call { callee := Callee.value (Operand.func 50), args := #[Operand.tmp 30], argTypes := #[85] }, some 31, none, [2, 2], fun v _ => v = .int .i64 (k : Nat)⟩,
  ⟨Op.assign (Operand.tmp 31), some 8, none, [3, 3, 0, 1, 2, 3], fun v _ => v = .int .i64 (k : Nat)⟩]
noncomputable def rw4_base (b7 : Bool) (A7 : Option Addr) (n7 c7 k g2 g3 g4 g5 g7 : Nat) (N : Int) : List (Nat × Value) := [(2, .pointer (some ⟨g2, 0, none⟩)), (4, .pointer (some ⟨g4, 0, none⟩)), (5, .pointer (some ⟨g5, 0, none⟩)), (7, .pointer (some ⟨g7, 0, none⟩))]
set_option maxRecDepth 100000 in
set_option maxHeartbeats 4000000 in
theorem rw4_steps (V : World) (b7 : Bool) (A7 : Option Addr) (n7 c7 k g2 g3 g4 g5 g7 : Nat) (N : Int) (R7 : ∀ w', Lat V w' → w'.rangeAt g7 0 [.bool b7, .slice A7 n7 c7]) (J85 : (Tryz.prog.info? 85).map (·.size) = some 2) (HL1 : ∀ w, Calls Tryz.prog 38 #[.int .i64 1] w (RefPost w 1 2))
    (HSB : ∀ b2 A2 n2 c2 w, Lat V w → Rg w b2 A2 n2 c2 1 → n2 ≤ 2 → Calls Tryz.prog 44 #[.agg #[.bool b7, .slice A7 n7 c7], .agg #[.bool b2, .slice A2 n2 c2]] w (RefPost w (N - 1) 18))
    (HD : ∀ b A n c w, Rg w b A n c (N - 1) → n ≤ 18 → Calls Tryz.prog 50 #[.agg #[.bool b, .slice A n c]] w (fun e w' => e = .returned (.int .i64 (k : Nat)) ∧ Lat w w')) :
    AllSteps Tryz.prog (rw4_rows b7 A7 n7 c7 k g2 g3 g4 g5 g7 N) (rw4_base b7 A7 n7 c7 k g2 g3 g4 g5 g7 N) V (rw4_rows b7 A7 n7 c7 k g2 g3 g4 g5 g7 N) := by
  refine AllSteps.next (fun _ _ _ h _ => h) (fun j b h => by cases h) (fun a w hl hb hd o ho => by have e1 := hb 7 _ rfl; exact Runs.val (yv_load (S := Lat V) e1 R7 Tryz.underlying85 rfl J85 o w ho hl) ⟨Lat.refl _, fun _ => rfl⟩) ?_
  refine AllSteps.next (fun _ _ _ h hl => h.mono hl) (fun j b h => by cases h) (fun a w hl hb hd o ho => by exact Runs.call (yv_call (f := 38) (fun _ => by go_simp) o ho (by simp only [List.map_toArray, List.map_cons, List.map_nil, eval_const])) ((HL1 w).mono fun e w' h => h.run)) ?_
  refine AllSteps.next (fun _ _ _ h hl => h.mono hl) (fun j b h => by cases h) (fun a w hl hb hd o ho => by obtain ⟨v1, e1, q1⟩ := hd 0 _ _ (by simp) rfl rfl; subst q1; obtain ⟨v2, e2, q2⟩ := hd 1 _ _ (by simp) rfl rfl; obtain ⟨b2, A2, n2, c2, rfl, r2, m2⟩ := (show LV 1 2 v2 w from q2); exact Runs.call (yv_call (f := 44) (fun _ => by go_simp) o ho (by simp only [List.map_toArray, List.map_cons, List.map_nil, eval_const, e1, e2])) ((HSB b2 A2 n2 c2 w hl r2 m2).mono fun e w' h => h.run)) ?_
  refine AllSteps.next (fun _ _ _ h _ => h) (fun j b h => by cases h) (fun a w hl hb hd o ho => by obtain ⟨v1, e1, q1⟩ := hd 2 _ _ (by simp) rfl rfl; obtain ⟨b1, A1, n1, c1, rfl, r1, m1⟩ := (show LV (N - 1) 18 v1 w from q1); exact Runs.call (yv_call (f := 50) (fun _ => by go_simp) o ho (by simp only [List.map_toArray, List.map_cons, List.map_nil, eval_const, e1])) ((HD b1 A1 n1 c1 w r1 m1).mono fun e w' h => ⟨_, h.1, h.2, fun _ => rfl⟩)) ?_
  refine AllSteps.next (fun _ _ _ h _ => h) (fun j b h => by cases h) (fun a w hl hb hd o ho => by obtain ⟨v1, e1, q1⟩ := hd 3 _ _ (by simp) rfl rfl; subst q1; exact Runs.val (yv_assignS (S := fun _ => True) e1 o w ho trivial) ⟨Lat.refl _, fun _ => rfl⟩) ?_
  exact AllSteps.none
noncomputable def rw18_rows (A12 A13 : Option Addr) (n12 c12 n13 c13 q x : Nat) (v p : Int) : List SRow := [
  ⟨Op.load 85 (Operand.tmp 12), some 58, none, [], fun v _ => v = .agg #[.bool false, .slice A12 n12 c12]⟩,
  ⟨Op.move (Operand.tmp 15), some 59, none, [], fun v _ => v = .int .u64 (x : Nat)⟩,
  ⟨Op.call { callee := Callee.value (Operand.func 42), args := #[Operand.tmp 59], argTypes := #[22] }, some 60, none, [1], LN (x : Int) 17⟩,
  ⟨Op.load 85 (Operand.tmp 13), some 61, none, [], fun v _ => v = .agg #[.bool false, .slice A13 n13 c13]⟩,
  ⟨Op.call { callee := Callee.value (Operand.func 39), args := #[Operand.tmp 60, Operand.tmp 61], argTypes := #[85, 85] }, some 62, none, [2, 3, 2], LN ((x : Int) * p) (19 + 130 * q)⟩,
  ⟨Op.call { callee := Callee.value (Operand.func 43), args := #[Operand.tmp 58, Operand.tmp 62], argTypes := #[85, 85] }, some 63, none, [0, 4, 4], LN (v + (x : Int) * p) (22 + 131 * q)⟩]
noncomputable def rw18_base (g12 g13 x : Nat) (v0 v1 v2 v3 v4 v5 v6 v7 v8 v9 v10 v11 v14 v16 v17 v18 v19 v20 v21 v22 v23 v24 v25 v26 v27 v28 v29 v30 v31 v32 v33 v34 v35 v36 v37 v38 v39 v40 v41 v42 v43 v44 v45 v46 v47 v48 v49 v50 v51 v52 v53 v54 v55 v56 v57 v64 v65 v66 v67 v68 v69 v70 v71 v72 v73 v74 v75 v76 v77 v78 v79 v80 v81 v82 v83 v84 v85 : Value) : List (Nat × Value) := [(12, .pointer (some ⟨g12, 0, none⟩)), (13, .pointer (some ⟨g13, 0, none⟩)), (15, .int .u64 (x : Nat)), (0, v0), (1, v1), (2, v2), (3, v3), (4, v4), (5, v5), (6, v6), (7, v7), (8, v8), (9, v9), (10, v10), (11, v11), (14, v14), (16, v16), (17, v17), (18, v18), (19, v19), (20, v20), (21, v21), (22, v22), (23, v23), (24, v24), (25, v25), (26, v26), (27, v27), (28, v28), (29, v29), (30, v30), (31, v31), (32, v32), (33, v33), (34, v34), (35, v35), (36, v36), (37, v37), (38, v38), (39, v39), (40, v40), (41, v41), (42, v42), (43, v43), (44, v44), (45, v45), (46, v46), (47, v47), (48, v48), (49, v49), (50, v50), (51, v51), (52, v52), (53, v53), (54, v54), (55, v55), (56, v56), (57, v57), (64, v64), (65, v65), (66, v66), (67, v67), (68, v68), (69, v69), (70, v70), (71, v71), (72, v72), (73, v73), (74, v74), (75, v75), (76, v76), (77, v77), (78, v78), (79, v79), (80, v80), (81, v81), (82, v82), (83, v83), (84, v84), (85, v85)]
set_option maxRecDepth 100000 in
set_option maxHeartbeats 4000000 in
theorem rw18_steps (V : World) (A12 A13 : Option Addr) (n12 c12 n13 c13 q : Nat) (v p : Int) (g12 g13 x : Nat) (v0 v1 v2 v3 v4 v5 v6 v7 v8 v9 v10 v11 v14 v16 v17 v18 v19 v20 v21 v22 v23 v24 v25 v26 v27 v28 v29 v30 v31 v32 v33 v34 v35 v36 v37 v38 v39 v40 v41 v42 v43 v44 v45 v46 v47 v48 v49 v50 v51 v52 v53 v54 v55 v56 v57 v64 v65 v66 v67 v68 v69 v70 v71 v72 v73 v74 v75 v76 v77 v78 v79 v80 v81 v82 v83 v84 v85 : Value) (R12 : ∀ w', Lat V w' → w'.rangeAt g12 0 [.bool false, .slice A12 n12 c12]) (R13 : ∀ w', Lat V w' → w'.rangeAt g13 0 [.bool false, .slice A13 n13 c13]) (J85 : (Tryz.prog.info? 85).map (·.size) = some 2)
    (HW : ∀ w, Calls Tryz.prog 42 #[.int .u64 (x : Nat)] w (RefN w x 17))
    (HTM : ∀ A1 n1 c1 w, Lat V w → Rg w false A1 n1 c1 (x : Int) → n1 ≤ 17 → Calls Tryz.prog 39 #[.agg #[.bool false, .slice A1 n1 c1], .agg #[.bool false, .slice A13 n13 c13]] w (RefN w ((x : Int) * p) (19 + 130 * q)))
    (HPL : ∀ A1 n1 c1 w, Lat V w → Rg w false A1 n1 c1 ((x : Int) * p) → n1 ≤ 19 + 130 * q → Calls Tryz.prog 43 #[.agg #[.bool false, .slice A12 n12 c12], .agg #[.bool false, .slice A1 n1 c1]] w (RefN w (v + (x : Int) * p) (22 + 131 * q))) :
    AllSteps Tryz.prog (rw18_rows A12 A13 n12 c12 n13 c13 q x v p) (rw18_base g12 g13 x v0 v1 v2 v3 v4 v5 v6 v7 v8 v9 v10 v11 v14 v16 v17 v18 v19 v20 v21 v22 v23 v24 v25 v26 v27 v28 v29 v30 v31 v32 v33 v34 v35 v36 v37 v38 v39 v40 v41 v42 v43 v44 v45 v46 v47 v48 v49 v50 v51 v52 v53 v54 v55 v56 v57 v64 v65 v66 v67 v68 v69 v70 v71 v72 v73 v74 v75 v76 v77 v78 v79 v80 v81 v82 v83 v84 v85) V (rw18_rows A12 A13 n12 c12 n13 c13 q x v p) := by
  refine AllSteps.next (fun _ _ _ h _ => h) (fun j b h => by cases h) (fun a w hl hb hd o ho => by have e1 := hb 12 _ rfl; exact Runs.val (yv_load (S := Lat V) e1 R12 Tryz.underlying85 rfl J85 o w ho hl) ⟨Lat.refl _, fun _ => rfl⟩) ?_
  refine AllSteps.next (fun _ _ _ h _ => h) (fun j b h => by cases h) (fun a w hl hb hd o ho => by have e1 := hb 15 _ rfl; exact Runs.val (yv_move (S := fun _ => True) e1 o w ho trivial) ⟨Lat.refl _, fun _ => rfl⟩) ?_
  refine AllSteps.next (fun _ _ _ h hl => h.mono hl) (fun j b h => by cases h) (fun a w hl hb hd o ho => by obtain ⟨v1, e1, q1⟩ := hd 1 _ _ (by simp) rfl rfl; subst q1; exact Runs.call (yv_call (f := 42) (fun _ => by go_simp) o ho (by simp only [List.map_toArray, List.map_cons, List.map_nil, eval_const, e1])) ((HW w).mono fun e w' h => h.run)) ?_
  refine AllSteps.next (fun _ _ _ h _ => h) (fun j b h => by cases h) (fun a w hl hb hd o ho => by have e1 := hb 13 _ rfl; exact Runs.val (yv_load (S := Lat V) e1 R13 Tryz.underlying85 rfl J85 o w ho hl) ⟨Lat.refl _, fun _ => rfl⟩) ?_
  refine AllSteps.next (fun _ _ _ h hl => h.mono hl) (fun j b h => by cases h) (fun a w hl hb hd o ho => by obtain ⟨v1, e1, q1⟩ := hd 2 _ _ (by simp) rfl rfl; obtain ⟨A1, n1, c1, rfl, r1, m1⟩ := (show LN (x : Int) 17 v1 w from q1); obtain ⟨v2, e2, q2⟩ := hd 3 _ _ (by simp) rfl rfl; subst q2; exact Runs.call (yv_call (f := 39) (fun _ => by go_simp) o ho (by simp only [List.map_toArray, List.map_cons, List.map_nil, eval_const, e1, e2])) ((HTM A1 n1 c1 w hl r1 m1).mono fun e w' h => h.run)) ?_
  refine AllSteps.next (fun _ _ _ h hl => h.mono hl) (fun j b h => by cases h) (fun a w hl hb hd o ho => by obtain ⟨v1, e1, q1⟩ := hd 0 _ _ (by simp) rfl rfl; subst q1; obtain ⟨v2, e2, q2⟩ := hd 4 _ _ (by simp) rfl rfl; obtain ⟨A2, n2, c2, rfl, r2, m2⟩ := (show LN ((x : Int) * p) (19 + 130 * q) v2 w from q2); exact Runs.call (yv_call (f := 43) (fun _ => by go_simp) o ho (by simp only [List.map_toArray, List.map_cons, List.map_nil, eval_const, e1, e2])) ((HPL A2 n2 c2 w hl r2 m2).mono fun e w' h => h.run)) ?_
  exact AllSteps.none
structure RwG (w : World) (g2 g3 g4 g5 g7 g9 g10 : Nat) : Prop where
  a : w.heap.size ≤ g2
  b : g2 < g3
  c : g3 < g4
  d : g4 < g5
  e : g5 < g7
  f : g7 < g9
  g : g9 < g10
/-- What lies in memory from one candidate to the next. -/
structure RwB (w0 : World) (g2 g4 g5 g7 g9 g10 : Nat) (b7 : Bool) (A7 A9 A10 : Option Addr) (n7 c7 n9 c9 n10 c10 : Nat) (N pk : Int) (t : Nat) (W : World) : Prop where
  k2 : Blk W g2 24 #[.int .u64 (t : Nat)]
  k4 : Blk W g4 26 #[.int .u64 W8.zero.a0, .int .u64 W8.zero.a1, .int .u64 W8.zero.a2, .int .u64 W8.zero.a3, .int .u64 W8.zero.a4, .int .u64 W8.zero.a5, .int .u64 W8.zero.a6, .int .u64 W8.zero.a7]
  k5 : Blk W g5 24 #[.int .u64 0]
  k7 : Blk W g7 85 #[.bool b7, .slice A7 n7 c7]
  k9 : Blk W g9 85 #[.bool false, .slice A9 n9 c9]
  k10 : Blk W g10 85 #[.bool false, .slice A10 n10 c10]
  r7 : Rg W b7 A7 n7 c7 N
  r9 : Rg W false A9 n9 c9 18446744073709551616
  r10 : Rg W false A10 n10 c10 pk
  l : Lat w0 W
section
variable {w0 W W' : World} {g2 g3 g4 g5 g7 g9 g10 : Nat} {b7 : Bool} {A7 A9 A10 : Option Addr} {n7 c7 n9 c9 n10 c10 : Nat} {N pk : Int} {t t' : Nat}
theorem RwB.later (h : RwB w0 g2 g4 g5 g7 g9 g10 b7 A7 A9 A10 n7 c7 n9 c9 n10 c10 N pk t W) (hl : Lat W W') : RwB w0 g2 g4 g5 g7 g9 g10 b7 A7 A9 A10 n7 c7 n9 c9 n10 c10 N pk t W' :=
  ⟨h.k2.later hl, h.k4.later hl, h.k5.later hl, h.k7.later hl, h.k9.later hl, h.k10.later hl, h.r7.later hl, h.r9.later hl, h.r10.later hl, h.l.trans hl⟩
/-- A store into another number. -/
theorem RwB.keepL (h : RwB w0 g2 g4 g5 g7 g9 g10 b7 A7 A9 A10 n7 c7 n9 c9 n10 c10 N pk t W) (hg : RwG w0 g2 g3 g4 g5 g7 g9 g10) {g : Nat} (hgg : g10 < g) (lp : LatP (· = g) W W') (hr : ∀ {b A n c z}, Rg W b A n c z → Rg W' b A n c z) :
    RwB w0 g2 g4 g5 g7 g9 g10 b7 A7 A9 A10 n7 c7 n9 c9 n10 c10 N pk t W' := by
  obtain ⟨h1, h2, h3, h4, h5, h6, h7⟩ := hg
  exact ⟨h.k2.keepP lp (by omega), h.k4.keepP lp (by omega), h.k5.keepP lp (by omega), h.k7.keepP lp (by omega), h.k9.keepP lp (by omega), h.k10.keepP lp (by omega), hr h.r7, hr h.r9, hr h.r10, lp.narrow h.l (by omega)⟩
theorem Rg.keepC {b : Bool} {A : Option Addr} {n c g : Nat} {z : Int} (h : Rg W b A n c z) (hb : Blk W g 24 #[.int .u64 (t : Nat)]) (lp : LatP (· = g) W W') : Rg W' b A n c z := by
  have ha := h.apart hb (no_i64u _)
  obtain ⟨hn, xs, hs, r⟩ := h
  refine ⟨hn, xs, ⟨hs.1, fun hp => ?_⟩, r⟩
  obtain ⟨a, e, hlt, hc⟩ := hs.2 hp
  refine ⟨a, e, Nat.lt_of_lt_of_le hlt lp.size, fun j x hx => ?_⟩
  rw [← hc j x hx]
  exact World.cell?_of_block (by rw [block_add]; exact lp.block _ hlt (ha hp a e))
/-- The state goes on. -/
theorem RwB.setC (h : RwB w0 g2 g4 g5 g7 g9 g10 b7 A7 A9 A10 n7 c7 n9 c9 n10 c10 N pk t W) (hg : RwG w0 g2 g3 g4 g5 g7 g9 g10) (hk : Blk W' g2 24 #[.int .u64 (t' : Nat)]) (lp : LatP (· = g2) W W') :
    RwB w0 g2 g4 g5 g7 g9 g10 b7 A7 A9 A10 n7 c7 n9 c9 n10 c10 N pk t' W' := by
  obtain ⟨h1, h2, h3, h4, h5, h6, h7⟩ := hg
  exact ⟨hk, h.k4.keepP lp (by omega), h.k5.keepP lp (by omega), h.k7.keepP lp (by omega), h.k9.keepP lp (by omega), h.k10.keepP lp (by omega), h.r7.keepC h.k2 lp, h.r9.keepC h.k2 lp, h.r10.keepC h.k2 lp, lp.narrow h.l h1⟩
end
theorem chDraw_lt (k s : Nat) (h : s < 18446744073709551616) : (chDraw k s).2 < 18446744073709551616 := chSt_lt _ s h
theorem chAfter_lt (k : Nat) {s : Nat} (hs : s < 18446744073709551616) : ∀ j, chAfter (chDraw k) j s < 18446744073709551616
  | 0 => hs
  | j + 1 => chDraw_lt k _ (chAfter_lt k hs j)
theorem RwG.two {w : World} {g2 g3 g4 g5 g7 g9 g10 : Nat} (h : RwG w g2 g3 g4 g5 g7 g9 g10) : g2 < g10 := by obtain ⟨h1, h2, h3, h4, h5, h6, h7⟩ := h; omega
theorem RwN.nonneg {s q : Nat} {v p : Int} (h : RwN s q v p) : 0 ≤ v ∧ 0 ≤ p := by
  refine ⟨?_, ?_⟩
  · rw [← h.v]; exact val_nonneg W64_pos (chWords_in q s)
  · rw [← h.p]; exact Int.le_of_lt (Int.pow_pos W64_pos)
theorem rw_next {si q : Nat} {v p : Int} (hv : RwN si q v p) (hs : si < 18446744073709551616) : ∃ x t0 t1 : Nat, RwN si (q + 1) (v + (x : Int) * p) (p * 18446744073709551616) ∧ x < 18446744073709551616 ∧ (0 : Int) ≤ (x : Int) ∧ RxC t0 x t1 ∧ chSt q si = t0 ∧ chSt (q + 1) si = t1 :=
  ⟨_, _, _, hv.succ, chMix_lt _, Int.natCast_nonneg _, rxC _ (chSt_lt q si hs), rfl, rfl⟩
theorem rw_words {x : Nat} (hx : x < 18446744073709551616) : ∀ w, Calls Tryz.prog 42 #[.int .u64 (x : Nat)] w (RefN w x 17) := fun w => (words64_any x hx w).mono fun e w' h => h.nonneg (Int.natCast_nonneg _)
theorem rw_times {V : World} {A13 : Option Addr} {n13 c13 q x : Nat} {p : Int} (r13 : Rg V false A13 n13 c13 p) (m13 : n13 ≤ 2 + 130 * q) (hp : 0 ≤ p) (hq : q < 8) : ∀ A1 n1 c1 w, Lat V w → Rg w false A1 n1 c1 (x : Int) → n1 ≤ 17 → Calls Tryz.prog 39 #[.agg #[.bool false, .slice A1 n1 c1], .agg #[.bool false, .slice A13 n13 c13]] w (RefN w ((x : Int) * p) (19 + 130 * q)) := fun A1 n1 c1 w hl h h' =>
  (rTimes_any false A1 n1 c1 x false A13 n13 c13 p w h (r13.later hl) (by omega) (by omega)).mono fun e w' h => (h.leD (by omega)).nonneg (Int.mul_nonneg (Int.natCast_nonneg _) hp)
theorem rw_plus {V : World} {A12 : Option Addr} {n12 c12 q x : Nat} {v p : Int} (r12 : Rg V false A12 n12 c12 v) (m12 : n12 ≤ 21 + 131 * q) (hv : 0 ≤ v) (hp : 0 ≤ p) (hq : q < 8) : ∀ A1 n1 c1 w, Lat V w → Rg w false A1 n1 c1 ((x : Int) * p) → n1 ≤ 19 + 130 * q → Calls Tryz.prog 43 #[.agg #[.bool false, .slice A12 n12 c12], .agg #[.bool false, .slice A1 n1 c1]] w (RefN w (v + (x : Int) * p) (22 + 131 * q)) := fun A1 n1 c1 w hl h h' =>
  (rPlus_any false A12 n12 c12 v false A1 n1 c1 _ w (r12.later hl) h (by omega) (by omega)).mono fun e w' h => (h.leD (by omega)).nonneg (Int.add_nonneg hv (Int.mul_nonneg (Int.natCast_nonneg _) hp))
theorem rw_unit {V : World} {A A9 : Option Addr} {n c n9 c9 q : Nat} {p : Int} (r : Rg V false A n c p) (m : n ≤ 2 + 130 * q) (r9 : Rg V false A9 n9 c9 18446744073709551616) (m9 : n9 ≤ 130) (hp : 0 ≤ p) (hq : q < 8) : Calls Tryz.prog 39 #[.agg #[.bool false, .slice A n c], .agg #[.bool false, .slice A9 n9 c9]] V (RefN V (p * 18446744073709551616) (2 + 130 * (q + 1))) :=
  (rTimes_any false A n c p false A9 n9 c9 18446744073709551616 V r r9 (by omega) (by omega)).mono fun e w' h => (h.leD (by omega)).nonneg (Int.mul_nonneg hp (by decide))
theorem rw_raise64 : ∀ A1 n1 c1 w, Rg w false A1 n1 c1 2 → n1 ≤ 2 → Calls Tryz.prog 37 #[.agg #[.bool false, .slice A1 n1 c1], .int .i64 64] w (RefN w 18446744073709551616 130) := fun A1 n1 c1 w h h' => by
  have := rRaised_any false A1 n1 c1 2 64 w h h' (by decide)
  have hp : (2 : Int) ^ 64 = 18446744073709551616 := by decide
  rw [hp] at this
  exact this.mono fun e w' h => (h.leD (by omega)).nonneg (by decide)
theorem rw_bnd1 {n q : Nat} (h : n ≤ 22 + 131 * q) : n ≤ 21 + 131 * (q + 1) := by omega
theorem rw_int {Q0 : Nat} (h : wrap64 ((Q0 : Int) + 64) = (Q0 : Int) + 64) : Value.int .i64 (wrap64 ((Q0 : Int) + 64)) = .int .i64 ((Q0 + 64 : Nat) : Int) := by rw [h]; rfl
theorem rw_meas {Q0 k : Nat} (h : wrap64 ((Q0 : Int) + 64) = (Q0 : Int) + 64) (hk : (Q0 : Int) < (k : Int)) : k + 64 - (intOf (.int .i64 (wrap64 ((Q0 : Int) + 64)))).toNat < k + 64 - (intOf (.int .i64 (Q0 : Nat))).toNat := by
  rw [h]
  simp only [intOf]
  omega
theorem rw_quot {k : Nat} (hk : k ≤ 511) : ∃ M, (k + 63) / 64 = M ∧ (∀ q Q0 : Nat, Q0 = 64 * q → q < M → ((Q0 : Nat) : Int) < (k : Int) ∧ q < 8 ∧ wrap64 ((Q0 : Int) + 64) = (Q0 : Int) + 64) ∧ (∀ q Q0 : Nat, Q0 = 64 * q → ¬ q < M → ¬ ((Q0 : Nat) : Int) < (k : Int)) ∧ M ≤ 8 :=
  ⟨_, rfl, fun q Q0 h1 h2 => ⟨by omega, by omega, IntWalk.wrap64_in _ (by omega)⟩, fun q Q0 h1 h2 => by omega, by omega⟩
theorem RwG.five {w : World} {g2 g3 g4 g5 g7 g9 g10 : Nat} (h : RwG w g2 g3 g4 g5 g7 g9 g10) : g2 < g4 ∧ g4 < g5 ∧ g5 < g10 ∧ w.heap.size ≤ g4 := by obtain ⟨h1, h2, h3, h4, h5, h6, h7⟩ := h; omega
theorem rw_done {si q k M : Nat} {v p pk : Int} (hv : RwN si q v p) (hM : (k + 63) / 64 = M) (hpk : (2 : Int) ^ k = pk) (h8 : M ≤ 8) (hq : q ≤ M) (hqM : ¬ q < M) : pk ≠ 0 ∧ v % pk = chNum k si ∧ chSt q si = (chDraw k si).2 := by
  have e : q = M := by omega
  subst e
  refine ⟨?_, ?_, ?_⟩
  · have := pow_pos2 k; rw [hpk] at this; omega
  · unfold chNum; rw [hM, hv.v, hpk]
  · unfold chDraw; rw [hM]
theorem rw_parts {V : World} {A12 A10 : Option Addr} {n12 c12 n10 c10 q M : Nat} {v pk : Int} (r12 : Rg V false A12 n12 c12 v) (m12 : n12 ≤ 21 + 131 * q) (hv : 0 ≤ v) (r10 : Rg V false A10 n10 c10 pk) (m10 : n10 ≤ 1100) (hpk : pk ≠ 0) (hq : q ≤ M) (h8 : M ≤ 8) :
    Calls Tryz.prog 36 #[.agg #[.bool false, .slice A12 n12 c12], .agg #[.bool false, .slice A10 n10 c10]] V (RPartsPost V (v / pk) (v % pk) (n12 + 1) n10) := rParts_any false A12 n12 c12 v false A10 n10 c10 pk V r12 r10 hpk (.inl hv) (by omega) (by omega)
theorem rw_order {V : World} {br b7 : Bool} {Ar A7 : Option Addr} {nr cr n7 c7 n10 : Nat} {z N : Int} (h : Rg V br Ar nr cr z) (hn : nr ≤ n10) (h7 : Rg V b7 A7 n7 c7 N) (m7 : n7 ≤ 17) (m10 : n10 ≤ 1100) :
    Calls Tryz.prog 41 #[.agg #[.bool br, .slice Ar nr cr], .agg #[.bool b7, .slice A7 n7 c7]] V (fun e w' => e = .returned (.int .i64 (ordR (z - N))) ∧ Lat V w') := rOrder_any br Ar nr cr z b7 A7 n7 c7 N V h h7 (by omega) (by omega)
theorem rw_fits {z N : Int} {k si : Nat} (h : z = chNum k si) (hlt : z < N) (hN : N < P511) : 0 ≤ z ∧ z < P511 := by
  have := Int.emod_nonneg (val W64 (chWords ((k + 63) / 64) si)) (Int.ne_of_gt (pow_pos2 k))
  have h0 : 0 ≤ chNum k si := this
  omega
theorem rw_out {V : World} {br : Bool} {Ar : Option Addr} {nr cr n10 : Nat} {z : Int} (h : Rg V br Ar nr cr z) (hn : nr ≤ n10) (m10 : n10 ≤ 1100) (h0 : 0 ≤ z) (h1 : z < P511) :
    Calls Tryz.prog 46 #[.agg #[.bool br, .slice Ar nr cr]] V (fun e w' => e = .returned (.tuple #[.agg #[.int .u64 (W8.of z).a0, .int .u64 (W8.of z).a1, .int .u64 (W8.of z).a2, .int .u64 (W8.of z).a3, .int .u64 (W8.of z).a4, .int .u64 (W8.of z).a5, .int .u64 (W8.of z).a6, .int .u64 (W8.of z).a7], .int .i64 0]) ∧ Lat V w') := by
  refine (rOut_any br Ar nr cr z V h (by omega)).mono ?_
  rintro e w' ⟨u, r, rfl, hu, hl⟩
  rcases hu with ⟨_, _, rfl, rfl⟩ | ⟨hu, _⟩
  · exact ⟨rfl, hl⟩
  · have := P511_pos; omega
theorem rw_take {s si k j : Nat} {z N : Int} (hsi : chAfter (chDraw k) j s = si) (hj : j < 200) (hno : chNone (chDraw k) (fun x => decide (x < N)) j s) (hz : z = chNum k si) (hlt : z < N) : chTry (chDraw k) (fun x => decide (x < N)) 200 s = some (z, (chDraw k si).2) := by
  have h := chTry_take (draw := chDraw k) (ok := fun x => decide (x < N)) hj hno (by rw [hsi]; exact decide_eq_true (by show chNum k si < N; omega))
  rw [hsi] at h
  rw [h, hz]; rfl
theorem rw_none {s si k j : Nat} {z N : Int} (hsi : chAfter (chDraw k) j s = si) (hno : chNone (chDraw k) (fun x => decide (x < N)) j s) (hz : z = chNum k si) (hlt : ¬ z < N) : chNone (chDraw k) (fun x => decide (x < N)) (j + 1) s ∧ chAfter (chDraw k) (j + 1) s = (chDraw k si).2 := by
  refine ⟨fun i hi => ?_, by rw [chAfter, hsi]⟩
  by_cases h : i < j
  · exact hno i h
  · obtain rfl : i = j := by omega
    rw [hsi]
    exact decide_eq_false (by show ¬ chNum k si < N; omega)
set_option maxRecDepth 100000 in
set_option maxHeartbeats 4000000 in
theorem rWide_in (s : Nat) (n : W8) (N : Int) (hN : n.toInt = N) (hn : n.ok) (h1 : 1 ≤ N) (h2 : N < P511) (k m : Nat) (hk : blen (N - 1) = k) (hk0 : k ≠ 0) (hs : s < 18446744073709551616) (w : World) :
    Calls Tryz.prog 14 #[.agg #[.int .u64 (s : Nat)], .agg #[.int .u64 n.a0, .int .u64 n.a1, .int .u64 n.a2, .int .u64 n.a3, .int .u64 n.a4, .int .u64 n.a5, .int .u64 n.a6, .int .u64 n.a7]] w (WidEnd w (W8.of (optI (chTry (chDraw k) (fun x => decide (x < N)) 200 s))) (optT 0 (chTry (chDraw k) (fun x => decide (x < N)) 200 s)) (optE (chTry (chDraw k) (fun x => decide (x < N)) 200 s))) := by
  have HSG := Lib.hid (fun w => rSign_any n hn w)
  have HI := Lib.hid (fun w => rIn_any n hn w)
  rw [hN] at HSG HI
  have hsg : ¬ ordR N < 1 := by unfold ordR; rw [if_neg (by omega), if_neg (by omega)]; decide
  have HD := Lib.hid (fun b A n c w (h : Rg w b A n c (N - 1)) (hn : n ≤ 18) => rDigits_any b A n c (N - 1) w h (by omega) (by omega) (by omega))
  have hk511 : k ≤ 511 := by rw [← hk]; exact blen_lt (by omega) (by omega)
  rw [hk] at HD
  obtain ⟨M, hM, hMQ⟩ := rw_quot hk511
  have HMQ := Lib.hid hMQ
  have HME := Lib.hid hM
  clear hM hMQ
  have HSN := Lib.hid (show s < 18446744073709551616 ∧ k ≤ 511 ∧ 1 ≤ N ∧ N < P511 from ⟨hs, hk511, h1, h2⟩)
  have HK := Lib.hid hk0
  have hkz : ((k : Int) == 0) = false := by rw [beq_eq_false_iff_ne]; omega
  have HL1 := Lib.hid (fun w => rLong1_any 1 w (by decide) (by decide))
  have HL1N := Lib.hid (fun w => (rLong1_any 1 w (by decide) (by decide)).mono fun e w' h => h.nonneg (by decide))
  have HL2 := Lib.hid (fun w => (rLong1_any 2 w (by decide) (by decide)).mono fun e w' h => h.nonneg (by decide))
  have HR64 := Lib.hid rw_raise64
  obtain ⟨pk, hpk⟩ : ∃ p, (2 : Int) ^ k = p := ⟨_, rfl⟩
  have HRk := Lib.hid (dg_raise (k := k) (p := pk) hk511 hpk)
  have HPK := Lib.hid hpk
  obtain ⟨sg, hsgv⟩ : ∃ z, ordR N = z := ⟨_, rfl⟩
  rw [hsgv] at hsg HSG
  clear hN hn h1 h2 hk hk0 hs hk511 hpk hsgv
  go_enter Tryz.func14, Tryz.ntmps14
  go_upto_region 1 with (fail)
  refine name4 (Q := fun W => Code.wp _ _ _ _ W) ?_
  intro W l0 hsz k2 k3 k4 k5
  obtain ⟨g5, hg5⟩ : ∃ z, w.heap.size + 1 + 1 + 1 = z := ⟨_, rfl⟩
  obtain ⟨g4, hg4⟩ : ∃ z, w.heap.size + 1 + 1 = z := ⟨_, rfl⟩
  obtain ⟨g3, hg3⟩ : ∃ z, w.heap.size + 1 = z := ⟨_, rfl⟩
  obtain ⟨g2, hg2⟩ : ∃ z, w.heap.size = z := ⟨_, rfl⟩
  have hb : w.heap.size ≤ g2 ∧ g2 < g3 ∧ g3 < g4 ∧ g4 < g5 := by omega
  rw [hg5] at k5
  rw [hg4] at k4
  rw [hg3] at k3
  rw [hg2] at k2
  rw [hg5, hg4, hg3, hg2]
  clear hg5 hg4 hg3 hg2 hsz
  have d0 := k3.cell 0
  have d1 := k3.cell 1
  have d2 := k3.cell 2
  have d3 := k3.cell 3
  have d4 := k3.cell 4
  have d5 := k3.cell 5
  have d6 := k3.cell 6
  have d7 := k3.cell 7
  go_wp2_with fail
  refine (HSG.out W).mono ?_
  rintro e W1 ⟨rfl, la⟩
  clear d0 d1 d2 d3 d4 d5 d6 d7
  replace k2 := k2.later la
  replace k3 := k3.later la
  replace k4 := k4.later la
  replace k5 := k5.later la
  replace l0 := l0.trans la
  clear la HSG
  have d0 := k3.cell 0
  have d1 := k3.cell 1
  have d2 := k3.cell 2
  have d3 := k3.cell 3
  have d4 := k3.cell 4
  have d5 := k3.cell 5
  have d6 := k3.cell 6
  have d7 := k3.cell 7
  go_wp2_with fail
  refine (HI.out W1).mono ?_
  rintro e W2 ⟨b7, A7, n7, c7, rfl, r7, m7, la⟩
  clear d0 d1 d2 d3 d4 d5 d6 d7
  replace k2 := k2.later la
  replace k4 := k4.later la
  replace k5 := k5.later la
  replace l0 := l0.trans la
  clear la HI k3 hsg
  go_upto_region 4 with (fail)
  refine name1 (Q := fun W => Code.wp _ _ _ _ W) ?_
  intro W3 la hs3 k7
  obtain ⟨g7, hg7⟩ : ∃ z, W2.heap.size = z := ⟨_, rfl⟩
  have h57 : g5 < g7 := by rw [← hg7]; exact k5.lt
  rw [hg7] at k7 ⊢
  replace k2 := k2.later la
  replace k4 := k4.later la
  replace k5 := k5.later la
  replace r7 := r7.later la
  replace l0 := l0.trans la
  clear la hs3 hg7
  have R7 : ∀ w', Lat W3 w' → w'.rangeAt g7 0 [.bool b7, .slice A7 n7 c7] := fun w' hl => (k7.later hl).rangeAll
  have J85 : (Tryz.prog.info? 85).map (·.size) = some 2 := by kernel_rfl
  have HSB := rSub_num (c := c7) r7 m7
  rename_i KN hKN
  refine wp_region_slots (rw4_rows b7 A7 n7 c7 k g2 g3 g4 g5 g7 N) (rw4_base b7 A7 n7 c7 k g2 g3 g4 g5 g7 N) 86 5 [[], [], [0, 1, 1], [2, 2], [3, 3, 0, 1, 2, 3]] (by kernel_rfl) (by kernel_rfl) (by kernel_rfl) (by kernel_rfl) (by kernel_rfl) (by kernel_rfl) (by rfl) rfl (base_of (base_cons rfl (base_cons rfl (base_cons rfl (base_cons rfl (base_nil _)))))) (rw4_steps W3 b7 A7 n7 c7 k g2 g3 g4 g5 g7 N R7 J85 HL1.out HSB HD.out) ?_
  · intro a9 W9 hsz9 hdf9 hL9 hbs hsl
    obtain ⟨v9, h9, q9⟩ := hsl 4 _ _ rfl rfl
    obtain rfl : v9 = .int .i64 (k : Nat) := q9
    have w8 := slot_getD h9
    clear h9
    refine hKN _ _ ?_
    obtain ⟨T9, df9⟩ := a9
    obtain rfl : df9 = [] := hdf9
    obtain ⟨f, hf, rfl⟩ := spell86 T9 hsz9
    have x2 : f 2 = .pointer (some ⟨g2, 0, none⟩) := (hf 2).trans (slot_getD (hbs 2 _ rfl))
    have x4 : f 4 = .pointer (some ⟨g4, 0, none⟩) := (hf 4).trans (slot_getD (hbs 4 _ rfl))
    have x5 : f 5 = .pointer (some ⟨g5, 0, none⟩) := (hf 5).trans (slot_getD (hbs 5 _ rfl))
    have x7 : f 7 = .pointer (some ⟨g7, 0, none⟩) := (hf 7).trans (slot_getD (hbs 7 _ rfl))
    have x8 := (hf 8).trans w8
    clear hbs hsl hf hsz9 hKN w8
    simp only [x2, x4, x5, x7, x8]
    clear x2 x4 x5 x7 x8
    replace k2 := k2.later hL9
    replace k4 := k4.later hL9
    replace k5 := k5.later hL9
    replace k7 := k7.later hL9
    replace r7 := r7.later hL9
    replace l0 := l0.trans hL9
    obtain ⟨Y1, rfl⟩ : ∃ z, z = W9 := ⟨_, rfl⟩
    clear hL9 R7 J85 HSB HD HL1
    go_wp2_with fail
    refine (HL2.out Y1).mono ?_
    rintro e Y2 ⟨Aa, na, ca, rfl, ra, ma, la⟩
    replace k2 := k2.later la
    replace k4 := k4.later la
    replace k5 := k5.later la
    replace k7 := k7.later la
    replace r7 := r7.later la
    replace l0 := l0.trans la
    clear la
    go_wp2_with fail
    refine (HR64.out Aa na ca Y2 ra ma).mono ?_
    rintro e Y3 ⟨A9, n9, c9, rfl, r9, m9, la⟩
    replace k2 := k2.later la
    replace k4 := k4.later la
    replace k5 := k5.later la
    replace k7 := k7.later la
    replace r7 := r7.later la
    replace l0 := l0.trans la
    clear la ra ma
    go_upto_region 8 with (fail)
    refine name1 (Q := fun W => Code.wp _ _ _ _ W) ?_
    intro Y4 la hs4 k9
    obtain ⟨g9, hg9⟩ : ∃ z, Y3.heap.size = z := ⟨_, rfl⟩
    have h79 : g7 < g9 := by rw [← hg9]; exact k7.lt
    rw [hg9] at k9 ⊢
    replace k2 := k2.later la
    replace k4 := k4.later la
    replace k5 := k5.later la
    replace k7 := k7.later la
    replace r7 := r7.later la
    replace r9 := r9.later la
    replace l0 := l0.trans la
    clear la hs4 hg9
    go_wp2_with fail
    refine (HL2.out Y4).mono ?_
    rintro e Y5 ⟨Ab, nb, cb, rfl, rb, mb, la⟩
    replace k2 := k2.later la
    replace k4 := k4.later la
    replace k5 := k5.later la
    replace k7 := k7.later la
    replace k9 := k9.later la
    replace r7 := r7.later la
    replace r9 := r9.later la
    replace l0 := l0.trans la
    clear la
    go_wp2_with fail
    refine (HRk.out Ab nb cb Y5 rb mb).mono ?_
    rintro e Y6 ⟨A10, n10, c10, rfl, r10, m10, la⟩
    replace k2 := k2.later la
    replace k4 := k4.later la
    replace k5 := k5.later la
    replace k7 := k7.later la
    replace k9 := k9.later la
    replace r7 := r7.later la
    replace r9 := r9.later la
    replace l0 := l0.trans la
    clear la rb mb
    go_upto_region 9 with (fail)
    refine name1 (Q := fun W => Code.wp _ _ _ _ W) ?_
    intro Y7 la hs5 k10
    obtain ⟨g10, hg10⟩ : ∃ z, Y6.heap.size = z := ⟨_, rfl⟩
    have h910 : g9 < g10 := by rw [← hg10]; exact k9.lt
    rw [hg10] at k10 ⊢
    replace k2 := k2.later la
    replace k4 := k4.later la
    replace k5 := k5.later la
    replace k7 := k7.later la
    replace k9 := k9.later la
    replace r7 := r7.later la
    replace r9 := r9.later la
    replace r10 := r10.later la
    replace l0 := l0.trans la
    clear la hs5 hg10
    have hg := Lib.hid (RwG.mk (w := w) hb.1 hb.2.1 hb.2.2.1 hb.2.2.2 h57 h79 h910)
    have RB : RwB w g2 g4 g5 g7 g9 g10 b7 A7 A9 A10 n7 c7 n9 c9 n10 c10 N pk s Y7 := ⟨k2, k4, k5, k7, k9, k10, r7, r9, r10, l0⟩
    have HM := Lib.hid (And.intro m7 (And.intro m9 m10))
    clear k2 k4 k5 k7 k9 k10 r7 r9 r10 l0 m7 m9 m10 hb h57 h79 h910 HR64 HRk HL2
    go_upto_region 10 with (fail)
    go_loopw [11] (fun i wr => ∃ j : Nat, i = .int .i64 j ∧ j ≤ 200 ∧ chNone (chDraw k) (fun x => decide (x < N)) j s ∧ RwB w g2 g4 g5 g7 g9 g10 b7 A7 A9 A10 n7 c7 n9 c9 n10 c10 N pk (chAfter (chDraw k) j s) wr) (fun i _ => 200 - (intOf i).toNat)
    case atStart => exact ⟨0, rfl, by omega, fun i hi => absurd hi (by omega), RB⟩
    case round =>
      clear RB
      obtain ⟨j, rfl, hj, hno, RB⟩ := hrel
      have HNO := Lib.hid hno
      clear hno
      by_cases hj2 : j < 200
      · have hjI : (j : Int) < 200 := by omega
        have hsi : chAfter (chDraw k) j s < 18446744073709551616 := chAfter_lt k HSN.out.1 j
        obtain ⟨si, hsi2⟩ : ∃ si, chAfter (chDraw k) j s = si := ⟨_, rfl⟩
        rw [hsi2] at hsi RB
        have HSI := Lib.hid (And.intro hsi hsi2)
        clear hsi hsi2
        go_wp2_with fail
        refine (HL1N.out wr).mono ?_
        rintro e Z1 ⟨A13, n13, c13, rfl, r13, m13, la⟩
        replace RB := RB.later la
        clear la
        go_upto_region 13 with (fail)
        refine name2 (Q := fun W => Code.wp _ _ _ _ W) ?_
        intro Z2 la hs6 k12 k13
        obtain ⟨g13, hg13⟩ : ∃ z, Z1.heap.size + 1 = z := ⟨_, rfl⟩
        obtain ⟨g12, hg12⟩ : ∃ z, Z1.heap.size = z := ⟨_, rfl⟩
        have h1012 : g10 < g12 := by rw [← hg12]; exact RB.k10.lt
        have h1213 : g12 < g13 := by omega
        rw [hg13] at k13
        rw [hg12] at k12
        rw [hg13, hg12]
        replace RB := RB.later la
        replace r13 := r13.later la
        clear la hs6 hg13 hg12
        go_upto_region 14 with (fail)
        go_loopw [14] (fun i wr => ∃ (q Q0 : Nat) (v p : Int) (A12 : Option Addr) (n12 c12 : Nat) (A13 : Option Addr) (n13 c13 : Nat), i = .int .i64 (Q0 : Nat) ∧ Q0 = 64 * q ∧ q ≤ M ∧ RwN si q v p ∧ RwB w g2 g4 g5 g7 g9 g10 b7 A7 A9 A10 n7 c7 n9 c9 n10 c10 N pk (chSt q si) wr ∧ Blk wr g12 85 #[.bool false, .slice A12 n12 c12] ∧ Blk wr g13 85 #[.bool false, .slice A13 n13 c13] ∧ Rg wr false A12 n12 c12 v ∧ n12 ≤ 21 + 131 * q ∧ Rg wr false A13 n13 c13 p ∧ n13 ≤ 2 + 130 * q) (fun i _ => k + 64 - (intOf i).toNat)
        case atStart => exact ⟨0, 0, 0, 1, none, 0, 0, A13, n13, c13, rfl, rfl, Nat.zero_le _, RwN.zero si, RB, k12, k13, rg_nil _, by omega, r13, by omega⟩
        case round =>
          clear RB k12 k13 r13 m13
          obtain ⟨q, Q0, v, p, A12, n12, c12, A13, n13, c13, rfl, hQ0, hq, hv, RB, k12, k13, r12, m12, r13, m13⟩ := hrel
          by_cases hqM : q < M
          · obtain ⟨hqk, hqM8, hwr⟩ := HMQ.out.1 q Q0 hQ0 hqM
            have HWR := Lib.hid hwr
            clear hwr
            obtain ⟨hv0, hp0⟩ := hv.nonneg
            obtain ⟨x, t0, t1, hv', hx, hx0, HN, ht0, ht1⟩ := rw_next hv HSI.out.1
            rw [ht0] at RB
            have HV := Lib.hid (And.intro hv' (And.intro ht1 (And.intro hQ0 hqM)))
            clear hv hv' ht0 ht1 hQ0 hq
            have c2 : wr.cell? ⟨g2, 0, none⟩ = some (.int .u64 (t0 : Int)) := RB.k2.cell 0
            go_wp2_with fail
            refine (HN wr).mono ?_
            rintro e V1 ⟨rfl, la⟩
            replace RB := RB.later la
            replace k12 := k12.later la
            replace k13 := k13.later la
            replace r12 := r12.later la
            replace r13 := r13.later la
            clear la c2 HN
            go_upto_region 17 with (fail)
            refine name1 (Q := fun W => Code.wp _ _ _ _ W) ?_
            intro V2 la hs7 k16
            obtain ⟨g16, hg16⟩ : ∃ z, V1.heap.size = z := ⟨_, rfl⟩
            rw [hg16] at k16 ⊢
            replace RB := RB.later la
            replace k12 := k12.later la
            replace k13 := k13.later la
            replace r12 := r12.later la
            replace r13 := r13.later la
            clear la hs7 hg16
            have c16 : V2.cell? ⟨g16, 0, none⟩ = some (.int .u64 (t1 : Int)) := k16.cell 0
            have c2 : V2.cell? ⟨g2, 0, none⟩ = some (.int .u64 (t0 : Int)) := RB.k2.cell 0
            have f2 := RB.k2.frozen 0
            have lt2 := RB.k2.lt
            go_upto_region 18 with (fail)
            refine name_set (Q := fun W => Code.wp _ _ _ _ W) RB.k2 ?_
            intro V3 k2' hz1 hz2 lp2
            have h2g := RwG.two hg.out
            replace r12 := r12.keepC RB.k2 lp2
            replace r13 := r13.keepC RB.k2 lp2
            replace RB := RB.setC (t' := t1) hg.out k2' lp2
            replace k12 := k12.keepP lp2 (by omega)
            replace k13 := k13.keepP lp2 (by omega)
            clear k2' hz1 hz2 lp2 c16 c2 f2 lt2 k16
            have R12 : ∀ w', Lat V3 w' → w'.rangeAt g12 0 [.bool false, .slice A12 n12 c12] := fun w' hl => (k12.later hl).rangeAll
            have R13 : ∀ w', Lat V3 w' → w'.rangeAt g13 0 [.bool false, .slice A13 n13 c13] := fun w' hl => (k13.later hl).rangeAll
            have J85 : (Tryz.prog.info? 85).map (·.size) = some 2 := by kernel_rfl
            have HW := rw_words hx
            have HTM := rw_times (c13 := c13) (x := x) r13 m13 hp0 hqM8
            have HPL := rw_plus (c12 := c12) (x := x) (p := p) r12 m12 hv0 hp0 hqM8
            have HB := Lib.hid (And.intro m12 (And.intro m13 (And.intro hv0 (And.intro hp0 hqM8))))
            clear m12 m13 hqM8
            rename_i KN hKN
            refine wp_region_slotsL (rw18_rows A12 A13 n12 c12 n13 c13 q x v p) (rw18_base g12 g13 x _ _ _ _ _ _ _ _ _ _ _ _ _ _ _ _ _ _ _ _ _ _ _ _ _ _ _ _ _ _ _ _ _ _ _ _ _ _ _ _ _ _ _ _ _ _ _ _ _ _ _ _ _ _ _ _ _ _ _ _ _ _ _ _ _ _ _ _ _ _ _ _ _ _ _ _ _) 86 6 [[], [], [1], [], [2, 3, 2], [0, 4, 4], [5, 5, 0, 1, 2, 3, 4, 5]] (by kernel_rfl) _ rfl rfl (by kernel_rfl) (by kernel_rfl) (by kernel_rfl) (by kernel_rfl) (by kernel_rfl) (by kernel_rfl) (by rfl) rfl (base_of (base_cons rfl (base_cons rfl (base_cons rfl (base_cons rfl (base_cons rfl (base_cons rfl (base_cons rfl (base_cons rfl (base_cons rfl (base_cons rfl (base_cons rfl (base_cons rfl (base_cons rfl (base_cons rfl (base_cons rfl (base_cons rfl (base_cons rfl (base_cons rfl (base_cons rfl (base_cons rfl (base_cons rfl (base_cons rfl (base_cons rfl (base_cons rfl (base_cons rfl (base_cons rfl (base_cons rfl (base_cons rfl (base_cons rfl (base_cons rfl (base_cons rfl (base_cons rfl (base_cons rfl (base_cons rfl (base_cons rfl (base_cons rfl (base_cons rfl (base_cons rfl (base_cons rfl (base_cons rfl (base_cons rfl (base_cons rfl (base_cons rfl (base_cons rfl (base_cons rfl (base_cons rfl (base_cons rfl (base_cons rfl (base_cons rfl (base_cons rfl (base_cons rfl (base_cons rfl (base_cons rfl (base_cons rfl (base_cons rfl (base_cons rfl (base_cons rfl (base_cons rfl (base_cons rfl (base_cons rfl (base_cons rfl (base_cons rfl (base_cons rfl (base_cons rfl (base_cons rfl (base_cons rfl (base_cons rfl (base_cons rfl (base_cons rfl (base_cons rfl (base_cons rfl (base_cons rfl (base_cons rfl (base_cons rfl (base_cons rfl (base_cons rfl (base_cons rfl (base_cons rfl (base_cons rfl (base_cons rfl (base_nil _)))))))))))))))))))))))))))))))))))))))))))))))))))))))))))))))))))))))))))))))))) (rw18_steps V3 A12 A13 n12 c12 n13 c13 q v p g12 g13 x _ _ _ _ _ _ _ _ _ _ _ _ _ _ _ _ _ _ _ _ _ _ _ _ _ _ _ _ _ _ _ _ _ _ _ _ _ _ _ _ _ _ _ _ _ _ _ _ _ _ _ _ _ _ _ _ _ _ _ _ _ _ _ _ _ _ _ _ _ _ _ _ _ _ _ _ _ R12 R13 J85 HW HTM HPL) ?_
            · intro a9 W9 hsz9 hdf9 hL9 hbs hsl
              obtain ⟨v9, h09, qv9⟩ := hsl 5 _ _ rfl rfl
              obtain ⟨A6, n6, c6, rfl, s1, s2⟩ := (show LN (v + (x : Int) * p) (22 + 131 * q) v9 W9 from qv9)
              have K9 := k12.later hL9
              refine wp_store_mid 85 (.tmp 12) (.tmp 63) rfl g12 0 #[.bool false, .slice A6 n6 c6] (hbs 12 _ rfl).ev h09.ev (K9.thereAll _ rfl) (by kernel_rfl) (by simp [Value.oneCell']) ?_
              refine hKN _ _ ?_
              obtain ⟨T9, df9⟩ := a9
              obtain rfl : df9 = [] := hdf9
              obtain ⟨f, hf, rfl⟩ := spell86 T9 hsz9
              have x12 : f 12 = .pointer (some ⟨g12, 0, none⟩) := (hf 12).trans (slot_getD (hbs 12 _ rfl))
              have x13 : f 13 = .pointer (some ⟨g13, 0, none⟩) := (hf 13).trans (slot_getD (hbs 13 _ rfl))
              have x15 : f 15 = .int .u64 (x : Nat) := (hf 15).trans (slot_getD (hbs 15 _ rfl))
              have x0 := (hf 0).trans (slot_getD (hbs 0 _ rfl))
              have x1 := (hf 1).trans (slot_getD (hbs 1 _ rfl))
              have x2 := (hf 2).trans (slot_getD (hbs 2 _ rfl))
              have x3 := (hf 3).trans (slot_getD (hbs 3 _ rfl))
              have x4 := (hf 4).trans (slot_getD (hbs 4 _ rfl))
              have x5 := (hf 5).trans (slot_getD (hbs 5 _ rfl))
              have x6 := (hf 6).trans (slot_getD (hbs 6 _ rfl))
              have x7 := (hf 7).trans (slot_getD (hbs 7 _ rfl))
              have x8 := (hf 8).trans (slot_getD (hbs 8 _ rfl))
              have x9 := (hf 9).trans (slot_getD (hbs 9 _ rfl))
              have x10 := (hf 10).trans (slot_getD (hbs 10 _ rfl))
              have x11 := (hf 11).trans (slot_getD (hbs 11 _ rfl))
              have x14 := (hf 14).trans (slot_getD (hbs 14 _ rfl))
              have x16 := (hf 16).trans (slot_getD (hbs 16 _ rfl))
              have x17 := (hf 17).trans (slot_getD (hbs 17 _ rfl))
              have x18 := (hf 18).trans (slot_getD (hbs 18 _ rfl))
              have x19 := (hf 19).trans (slot_getD (hbs 19 _ rfl))
              have x20 := (hf 20).trans (slot_getD (hbs 20 _ rfl))
              have x21 := (hf 21).trans (slot_getD (hbs 21 _ rfl))
              have x22 := (hf 22).trans (slot_getD (hbs 22 _ rfl))
              have x23 := (hf 23).trans (slot_getD (hbs 23 _ rfl))
              have x24 := (hf 24).trans (slot_getD (hbs 24 _ rfl))
              have x25 := (hf 25).trans (slot_getD (hbs 25 _ rfl))
              have x26 := (hf 26).trans (slot_getD (hbs 26 _ rfl))
              have x27 := (hf 27).trans (slot_getD (hbs 27 _ rfl))
              have x28 := (hf 28).trans (slot_getD (hbs 28 _ rfl))
              have x29 := (hf 29).trans (slot_getD (hbs 29 _ rfl))
              have x30 := (hf 30).trans (slot_getD (hbs 30 _ rfl))
              have x31 := (hf 31).trans (slot_getD (hbs 31 _ rfl))
              have x32 := (hf 32).trans (slot_getD (hbs 32 _ rfl))
              have x33 := (hf 33).trans (slot_getD (hbs 33 _ rfl))
              have x34 := (hf 34).trans (slot_getD (hbs 34 _ rfl))
              have x35 := (hf 35).trans (slot_getD (hbs 35 _ rfl))
              have x36 := (hf 36).trans (slot_getD (hbs 36 _ rfl))
              have x37 := (hf 37).trans (slot_getD (hbs 37 _ rfl))
              have x38 := (hf 38).trans (slot_getD (hbs 38 _ rfl))
              have x39 := (hf 39).trans (slot_getD (hbs 39 _ rfl))
              have x40 := (hf 40).trans (slot_getD (hbs 40 _ rfl))
              have x41 := (hf 41).trans (slot_getD (hbs 41 _ rfl))
              have x42 := (hf 42).trans (slot_getD (hbs 42 _ rfl))
              have x43 := (hf 43).trans (slot_getD (hbs 43 _ rfl))
              have x44 := (hf 44).trans (slot_getD (hbs 44 _ rfl))
              have x45 := (hf 45).trans (slot_getD (hbs 45 _ rfl))
              have x46 := (hf 46).trans (slot_getD (hbs 46 _ rfl))
              have x47 := (hf 47).trans (slot_getD (hbs 47 _ rfl))
              have x48 := (hf 48).trans (slot_getD (hbs 48 _ rfl))
              have x49 := (hf 49).trans (slot_getD (hbs 49 _ rfl))
              have x50 := (hf 50).trans (slot_getD (hbs 50 _ rfl))
              have x51 := (hf 51).trans (slot_getD (hbs 51 _ rfl))
              have x52 := (hf 52).trans (slot_getD (hbs 52 _ rfl))
              have x53 := (hf 53).trans (slot_getD (hbs 53 _ rfl))
              have x54 := (hf 54).trans (slot_getD (hbs 54 _ rfl))
              have x55 := (hf 55).trans (slot_getD (hbs 55 _ rfl))
              have x56 := (hf 56).trans (slot_getD (hbs 56 _ rfl))
              have x57 := (hf 57).trans (slot_getD (hbs 57 _ rfl))
              have x64 := (hf 64).trans (slot_getD (hbs 64 _ rfl))
              have x65 := (hf 65).trans (slot_getD (hbs 65 _ rfl))
              have x66 := (hf 66).trans (slot_getD (hbs 66 _ rfl))
              have x67 := (hf 67).trans (slot_getD (hbs 67 _ rfl))
              have x68 := (hf 68).trans (slot_getD (hbs 68 _ rfl))
              have x69 := (hf 69).trans (slot_getD (hbs 69 _ rfl))
              have x70 := (hf 70).trans (slot_getD (hbs 70 _ rfl))
              have x71 := (hf 71).trans (slot_getD (hbs 71 _ rfl))
              have x72 := (hf 72).trans (slot_getD (hbs 72 _ rfl))
              have x73 := (hf 73).trans (slot_getD (hbs 73 _ rfl))
              have x74 := (hf 74).trans (slot_getD (hbs 74 _ rfl))
              have x75 := (hf 75).trans (slot_getD (hbs 75 _ rfl))
              have x76 := (hf 76).trans (slot_getD (hbs 76 _ rfl))
              have x77 := (hf 77).trans (slot_getD (hbs 77 _ rfl))
              have x78 := (hf 78).trans (slot_getD (hbs 78 _ rfl))
              have x79 := (hf 79).trans (slot_getD (hbs 79 _ rfl))
              have x80 := (hf 80).trans (slot_getD (hbs 80 _ rfl))
              have x81 := (hf 81).trans (slot_getD (hbs 81 _ rfl))
              have x82 := (hf 82).trans (slot_getD (hbs 82 _ rfl))
              have x83 := (hf 83).trans (slot_getD (hbs 83 _ rfl))
              have x84 := (hf 84).trans (slot_getD (hbs 84 _ rfl))
              have x85 := (hf 85).trans (slot_getD (hbs 85 _ rfl))
              clear hbs hsl hf hsz9 h09 qv9 hKN
              simp only [Act.put, x12, x13, x15, x0, x1, x2, x3, x4, x5, x6, x7, x8, x9, x10, x11, x14, x16, x17, x18, x19, x20, x21, x22, x23, x24, x25, x26, x27, x28, x29, x30, x31, x32, x33, x34, x35, x36, x37, x38, x39, x40, x41, x42, x43, x44, x45, x46, x47, x48, x49, x50, x51, x52, x53, x54, x55, x56, x57, x64, x65, x66, x67, x68, x69, x70, x71, x72, x73, x74, x75, x76, x77, x78, x79, x80, x81, x82, x83, x84, x85]
              clear x12 x13 x15 x0 x1 x2 x3 x4 x5 x6 x7 x8 x9 x10 x11 x14 x16 x17 x18 x19 x20 x21 x22 x23 x24 x25 x26 x27 x28 x29 x30 x31 x32 x33 x34 x35 x36 x37 x38 x39 x40 x41 x42 x43 x44 x45 x46 x47 x48 x49 x50 x51 x52 x53 x54 x55 x56 x57 x64 x65 x66 x67 x68 x69 x70 x71 x72 x73 x74 x75 x76 x77 x78 x79 x80 x81 x82 x83 x84 x85
              refine name_long (Q := fun W => Code.wp _ _ _ _ W) K9 ?_
              intro V4 j12 lp hrg
              replace RB := (RB.later hL9).keepL hg.out h1012 lp hrg
              replace k13 := (k13.later hL9).keepP lp (by omega)
              replace r13 := hrg (r13.later hL9)
              have q12 := hrg s1
              clear K9 s1 lp hrg k12 r12 hL9 R12 R13 J85 HW HTM HPL
              have HT2 := rw_unit (c := c13) (c9 := c9) r13 HB.out.2.1 RB.r9 HM.out.2.1 HB.out.2.2.2.1 HB.out.2.2.2.2
              have y0 := k13.cell 0
              have y1 := k13.cell 1
              have z0 := RB.k9.cell 0
              have z1 := RB.k9.cell 1
              go_wp2_with fail
              refine HT2.mono ?_
              rintro e V5 ⟨A8, n8, c8, rfl, r8, m8, la⟩
              clear y0 y1 z0 z1 HT2 r13
              replace RB := RB.later la
              replace j12 := j12.later la
              replace k13 := k13.later la
              replace q12 := q12.later la
              clear la
              have y0 := k13.cell 0
              have y1 := k13.cell 1
              have f0 := k13.frozen 0
              have f1 := k13.frozen 1
              have lt13 := k13.lt
              go_upto_region 15 with (fail)
              refine name_long (Q := fun W => Code.wp _ _ _ _ W) k13 ?_
              intro V6 j13 lp hrg
              have h1013 : g10 < g13 := by omega
              replace RB := RB.keepL hg.out h1013 lp hrg
              replace j12 := j12.keepP lp (by omega)
              replace q12 := hrg q12
              replace r8 := hrg r8
              clear lp hrg y0 y1 f0 f1 lt13 k13
              obtain ⟨hv', ht1, hQ0, hqM'⟩ := HV.out
              rw [← ht1] at RB
              have hb12 := rw_bnd1 s2
              have hQ1 : Q0 + 64 = 64 * (q + 1) := by omega
              clear HV ht1 s2 hQ0
              go_wp2
              go_roundw
              case rel => exact ⟨q + 1, Q0 + 64, _, _, A6, n6, c6, A8, n8, c8, rw_int HWR.out, hQ1, hqM', hv', RB, j12, j13, q12, hb12, r8, m8⟩
              case measure => exact rw_meas HWR.out hqk
          · have hqk := HMQ.out.2.1 q Q0 hQ0 hqM
            obtain ⟨hv0, hp0⟩ := hv.nonneg
            obtain ⟨hpk0, hcn, hcs⟩ := rw_done hv HME.out HPK.out HMQ.out.2.2 hq hqM
            have HPT := rw_parts (c12 := c12) (c10 := c10) r12 m12 hv0 RB.r10 HM.out.2.2 hpk0 hq HMQ.out.2.2
            obtain ⟨z, hz⟩ : ∃ z, v % pk = z := ⟨_, rfl⟩
            rw [hz] at hcn HPT
            rw [hcs] at RB
            have HCN := Lib.hid (And.intro hcn hqM)
            clear hv hv0 hp0 hpk0 hcn hcs hz hQ0 hq r13 m13 k13 m12 r12 hqM
            have y0 := k12.cell 0
            have y1 := k12.cell 1
            have z0 := RB.k10.cell 0
            have z1 := RB.k10.cell 1
            go_wp2_with fail
            refine HPT.mono ?_
            rintro e V1 ⟨bq, Aq, nq, cq, br, Ar, nr, cr, rfl, q1, q2, q3, q4, la⟩
            clear y0 y1 z0 z1 HPT q1 q2 k12
            replace RB := RB.later la
            clear la
            go_upto_region 21 with (fail)
            refine name2 (Q := fun W => Code.wp _ _ _ _ W) ?_
            intro V2 la hs8 k17 k18
            obtain ⟨g18, hg18⟩ : ∃ z, V1.heap.size + 1 = z := ⟨_, rfl⟩
            rw [hg18] at k18 ⊢
            replace RB := RB.later la
            replace q3 := q3.later la
            clear la hs8 hg18 k17
            have y0 := k18.cell 0
            have y1 := k18.cell 1
            have z0 := RB.k7.cell 0
            have z1 := RB.k7.cell 1
            have HO := rw_order q3 q4 RB.r7 HM.out.1 HM.out.2.2
            by_cases hlt : z < N
            · have ho : ordR (z - N) = -1 := by unfold ordR; rw [if_pos (by omega)]
              rw [ho] at HO
              clear ho
              go_wp2_with fail
              refine HO.mono ?_
              rintro e V3 ⟨rfl, la⟩
              clear y0 y1 z0 z1 HO
              replace RB := RB.later la
              replace q3 := q3.later la
              replace k18 := k18.later la
              clear la
              have hz9 := rw_fits HCN.out.1 hlt HSN.out.2.2.2
              have HU := rw_out q3 q4 HM.out.2.2 hz9.1 hz9.2
              have y0 := k18.cell 0
              have y1 := k18.cell 1
              go_wp2_with fail
              refine HU.mono ?_
              rintro e V4 ⟨rfl, la⟩
              clear y0 y1 HU q3 q4 k18
              replace RB := RB.later la
              clear la
              have HR9 := Lib.hid (rw_take HSI.out.2 hj2 HNO.out HCN.out.1 hlt)
              obtain ⟨u, hu⟩ : ∃ u, W8.of z = u := ⟨_, rfl⟩
              obtain ⟨tt, htt⟩ : ∃ t, (chDraw k si).2 = t := ⟨_, rfl⟩
              rw [htt] at RB HR9
              rw [hu]
              have HUU := Lib.hid hu
              clear hu htt hz9 hlt
              go_upto_region 23 with (fail)
              refine name1 (Q := fun W => Code.wp _ _ _ _ W) ?_
              intro V5 la hs9 k19
              obtain ⟨g19, hg19⟩ : ∃ z, V4.heap.size = z := ⟨_, rfl⟩
              have h1019 : g10 < g19 := by rw [← hg19]; exact RB.k10.lt
              rw [hg19] at k19 ⊢
              replace RB := RB.later la
              clear la hs9 hg19
              have h5g := RwG.five hg.out
              have L0 := Lat.drew V5
              have R19 : ∀ w', LatS V5 [g4, g5] w' → w'.rangeAt g19 0 [.int .u64 u.a0, .int .u64 u.a1, .int .u64 u.a2, .int .u64 u.a3, .int .u64 u.a4, .int .u64 u.a5, .int .u64 u.a6, .int .u64 u.a7] := fun w' hl => Blk.rangeAll (l := [.int .u64 u.a0, .int .u64 u.a1, .int .u64 u.a2, .int .u64 u.a3, .int .u64 u.a4, .int .u64 u.a5, .int .u64 u.a6, .int .u64 u.a7]) (k19.keepS (by simp; omega) hl)
              have R2 : ∀ w', LatS V5 [g4, g5] w' → w'.cell? ⟨g2, 0, none⟩ = some (.int .u64 (tt : Int)) := fun w' hl => (RB.k2.keepS (by simp; omega) hl).cell 0
              refine wp_region_held_drew (S := fun w' => LatS V5 [g4, g5] w') (by kernel_rfl) (L0.s _) (fun hHeld => ?_)
              generalize V5.drew = V0 at L0 hHeld ⊢
              refine' wpAnyH_take (i := 0) rfl (by kernel_rfl) (by kernel_rfl) (by kernel_rfl) (fun _ _ _ h => h) (yieldsIf_load_mid (by rfl) 26 (.tmp 19) rfl g19 0 rfl _ _ R19 Tryz.underlying26 rfl wideInfo8) hHeld ?_
              simp only [Act.put, List.getElem_toArray, List.getElem_cons_succ, List.getElem_cons_zero, List.setIfInBounds_toArray, List.set_cons_zero, List.set_cons_succ]
              refine wpAnyH_take (i := 1) (v := .agg #[.int .u64 (tt : Int)]) rfl (by kernel_rfl) (by kernel_rfl) (by kernel_rfl) (fun _ _ _ h => h) (Or.inl ⟨by rfl, by intro w' hS; have hc := R2 w' hS; go_simp⟩) hHeld ?_
              simp only [Act.put, List.getElem_toArray, List.getElem_cons_succ, List.getElem_cons_zero, List.setIfInBounds_toArray, List.set_cons_zero, List.set_cons_succ]
              have K4 := RB.k4.later L0
              have K5 := RB.k5.later L0
              have hl0 := RB.l.trans L0
              refine wpAnyH_ready (rs := [2]) (by kernel_rfl) (by simp) (AllReadyH.cons rfl (fun K hK => ?_) AllReadyH.nil)
              rw [if_pos (by rfl)]
              refine wp_store_mid 26 (.tmp 4) (.tmp 82) rfl g4 0 #[.int .u64 u.a0, .int .u64 u.a1, .int .u64 u.a2, .int .u64 u.a3, .int .u64 u.a4, .int .u64 u.a5, .int .u64 u.a6, .int .u64 u.a7] rfl rfl (K4.thereAll _ rfl) (by kernel_rfl) (by simp [Value.oneCell']) ?_
              have KS2 := K4.setCells #[.int .u64 u.a0, .int .u64 u.a1, .int .u64 u.a2, .int .u64 u.a3, .int .u64 u.a4, .int .u64 u.a5, .int .u64 u.a6, .int .u64 u.a7] rfl
              have lp2 : LatP (· = g4) V0 (V0.setCells g4 0 (#[.int .u64 u.a0, .int .u64 u.a1, .int .u64 u.a2, .int .u64 u.a3, .int .u64 u.a4, .int .u64 u.a5, .int .u64 u.a6, .int .u64 u.a7] : Array Value).toList) := LatP.setCells _ _ _
              have M2 : LatS V5 [g4, g5] (V0.setCells g4 0 (#[.int .u64 u.a0, .int .u64 u.a1, .int .u64 u.a2, .int .u64 u.a3, .int .u64 u.a4, .int .u64 u.a5, .int .u64 u.a6, .int .u64 u.a7] : Array Value).toList) := LatS.setCells (by simp) _ _ _ (L0.s _)
              obtain ⟨V8, hV9⟩ : ∃ V, V0.setCells g4 0 (#[.int .u64 u.a0, .int .u64 u.a1, .int .u64 u.a2, .int .u64 u.a3, .int .u64 u.a4, .int .u64 u.a5, .int .u64 u.a6, .int .u64 u.a7] : Array Value).toList = V := ⟨_, rfl⟩
              rw [hV9] at KS2 M2 lp2 ⊢
              clear hV9
              have K5b := K5.keepP lp2 (by omega)
              have hl1 := lp2.narrow hl0 (by omega)
              refine hK.out _ _ M2 (fun hHeld1 => ?_)
              clear hK K
              try simp only [Act.put, List.getElem_toArray, List.getElem_cons_succ, List.getElem_cons_zero, List.setIfInBounds_toArray, List.set_cons_zero, List.set_cons_succ]
              refine wpAnyH_ready (rs := [3]) (by kernel_rfl) (by simp) (AllReadyH.cons rfl (fun K hK => ?_) AllReadyH.nil)
              rw [if_pos (by rfl)]
              refine wp_store_mid 24 (.tmp 5) (.tmp 83) rfl g5 0 #[.int .u64 (tt : Int)] rfl rfl (K5b.thereAll _ rfl) (by kernel_rfl) (by simp [Value.oneCell']) ?_
              have KS3 := K5b.setCells #[.int .u64 (tt : Int)] rfl
              have lp3 : LatP (· = g5) V8 (V8.setCells g5 0 (#[.int .u64 (tt : Int)] : Array Value).toList) := LatP.setCells _ _ _
              have M3 : LatS V5 [g4, g5] (V8.setCells g5 0 (#[.int .u64 (tt : Int)] : Array Value).toList) := LatS.setCells (by simp) _ _ _ M2
              obtain ⟨V9, hV9⟩ : ∃ V, V8.setCells g5 0 (#[.int .u64 (tt : Int)] : Array Value).toList = V := ⟨_, rfl⟩
              rw [hV9] at KS3 M3 lp3 ⊢
              clear hV9
              have K4b := KS2.keepP lp3 (by omega)
              have hl2 := lp3.narrow hl1 (by omega)
              refine hK.out _ _ M3 (fun hHeld2 => ?_)
              clear hK K
              try simp only [Act.put, List.getElem_toArray, List.getElem_cons_succ, List.getElem_cons_zero, List.setIfInBounds_toArray, List.set_cons_zero, List.set_cons_succ]
              refine wpAnyH_take (i := 4) (v := .int .i64 0) rfl (by kernel_rfl) (by kernel_rfl) (by kernel_rfl) (fun _ _ _ h => h) (Or.inl ⟨by rfl, by intro w' hS; go_simp⟩) hHeld2 ?_
              simp only [Act.put, List.getElem_toArray, List.getElem_cons_succ, List.getElem_cons_zero, List.setIfInBounds_toArray, List.set_cons_zero, List.set_cons_succ]
              refine wpAnyH_done (by kernel_rfl) ?_ _
              have c0 := K4b.cell 0
              have c1 := K4b.cell 1
              have c2 := K4b.cell 2
              have c3 := K4b.cell 3
              have c4 := K4b.cell 4
              have c5 := K4b.cell 5
              have c6 := K4b.cell 6
              have c7 := K4b.cell 7
              have c9 := KS3.cell 0
              have hMM := HM
              go_wp2
              refine bodyPost_ret (v := .tuple #[.agg #[.int .u64 u.a0, .int .u64 u.a1, .int .u64 u.a2, .int .u64 u.a3, .int .u64 u.a4, .int .u64 u.a5, .int .u64 u.a6, .int .u64 u.a7], .agg #[.int .u64 (tt : Int)], .int .i64 0]) (by simp [results, Tryz.results14, go_sem, c0, c1, c2, c3, c4, c5, c6, c7, c9]) rfl ?_
              rw [HR9.out, optI, optT, optE, HUU.out]
              exact ⟨rfl, hl2⟩
            · have ho : ¬ ordR (z - N) < 0 := by unfold ordR; rw [if_neg (by omega)]; split <;> decide
              obtain ⟨o, hoo⟩ : ∃ o, ordR (z - N) = o := ⟨_, rfl⟩
              rw [hoo] at HO ho
              clear hoo
              go_wp2_with fail
              refine HO.mono ?_
              rintro e V3 ⟨rfl, la⟩
              clear y0 y1 z0 z1 HO
              replace RB := RB.later la
              clear la k18 q3 q4
              have HN9 := Lib.hid (rw_none (N := N) HSI.out.2 HNO.out HCN.out.1 (Int.not_lt.2 hlt))
              rw [← HN9.out.2] at RB
              clear hlt hqk
              go_wp2
              go_roundw
              case rel => exact ⟨j + 1, by go_num, by omega, HN9.out.1, RB⟩
              case measure => simp [intOf]; omega
      · obtain rfl : j = 200 := by omega
        have HR9 := Lib.hid (chTry_none HNO.out)
        have K4 := RB.k4
        have K5 := RB.k5
        have hl := RB.l
        have h5g := RwG.five hg.out
        clear RB HNO hj hj2
        have p0 := K4.cell 0
        have p1 := K4.cell 1
        have p2 := K4.cell 2
        have p3 := K4.cell 3
        have p4 := K4.cell 4
        have p5 := K4.cell 5
        have p6 := K4.cell 6
        have p7 := K4.cell 7
        have f0 := K4.frozen 0
        have f1 := K4.frozen 1
        have f2 := K4.frozen 2
        have f3 := K4.frozen 3
        have f4 := K4.frozen 4
        have f5 := K4.frozen 5
        have f6 := K4.frozen 6
        have f7 := K4.frozen 7
        have p9 := K5.cell 0
        have f9 := K5.frozen 0
        have l4 := K4.lt
        have l5 := K5.lt
        go_wp2
        refine name_put8e (Q := fun W => bodyPost _ _ _ _ _ W) K4 K5 (by omega) ?_
        intro X1 j4 j5 lp
        have LF := lp.lat hl (fun q h => by omega)
        have c0 := j4.cell 0
        have c1 := j4.cell 1
        have c2 := j4.cell 2
        have c3 := j4.cell 3
        have c4 := j4.cell 4
        have c5 := j4.cell 5
        have c6 := j4.cell 6
        have c7 := j4.cell 7
        have c9 := j5.cell 0
        refine bodyPost_ret (v := .tuple #[.agg #[.int .u64 W8.zero.a0, .int .u64 W8.zero.a1, .int .u64 W8.zero.a2, .int .u64 W8.zero.a3, .int .u64 W8.zero.a4, .int .u64 W8.zero.a5, .int .u64 W8.zero.a6, .int .u64 W8.zero.a7], .agg #[.int .u64 0], .int .i64 9]) (by simp [results, Tryz.results14, go_sem, c0, c1, c2, c3, c4, c5, c6, c7, c9, W8.zero]) rfl ?_
        rw [HR9.out, optI, optT, optE, ← W8.zero_eq]
        exact ⟨rfl, LF⟩
end Go.Proofs.YtogkkhaepfablaaGreat

/- Chance: the reference's Wide, whatever the number. -/
namespace Go.Proofs.YtogkkhaepfablaaGreat
open Go.RowKit
set_option linter.unusedSimpArgs false
set_option linter.unusedVariables false

set_option maxRecDepth 100000 in
set_option maxHeartbeats 4000000 in
theorem rWide_one (s : Nat) (n : W8) (N : Int) (hN : n.toInt = N) (hn : n.ok) (h1 : 1 ≤ N) (h2 : N < P511) (hk : blen (N - 1) = 0) (w : World) :
    Calls Tryz.prog 14 #[.agg #[.int .u64 (s : Nat)], .agg #[.int .u64 n.a0, .int .u64 n.a1, .int .u64 n.a2, .int .u64 n.a3, .int .u64 n.a4, .int .u64 n.a5, .int .u64 n.a6, .int .u64 n.a7]] w (WidEnd w W8.zero s 0) := by
  have HSG := Lib.hid (fun w => rSign_any n hn w)
  have HI := Lib.hid (fun w => rIn_any n hn w)
  rw [hN] at HSG HI
  have hsg : ¬ ordR N < 1 := by unfold ordR; rw [if_neg (by omega), if_neg (by omega)]; decide
  have HD := Lib.hid (fun b A n c w (h : Rg w b A n c (N - 1)) (hn : n ≤ 18) => rDigits_any b A n c (N - 1) w h (by omega) (by omega) (by omega))
  rw [hk] at HD
  have HL1 := Lib.hid (fun w => rLong1_any 1 w (by decide) (by decide))
  obtain ⟨sg, hsgv⟩ : ∃ z, ordR N = z := ⟨_, rfl⟩
  rw [hsgv] at hsg HSG
  clear hN hn h1 h2 hk hsgv
  go_enter Tryz.func14, Tryz.ntmps14
  go_upto_region 1 with (fail)
  refine name4 (Q := fun W => Code.wp _ _ _ _ W) ?_
  intro W l0 hsz k2 k3 k4 k5
  obtain ⟨g5, hg5⟩ : ∃ z, w.heap.size + 1 + 1 + 1 = z := ⟨_, rfl⟩
  obtain ⟨g4, hg4⟩ : ∃ z, w.heap.size + 1 + 1 = z := ⟨_, rfl⟩
  obtain ⟨g3, hg3⟩ : ∃ z, w.heap.size + 1 = z := ⟨_, rfl⟩
  obtain ⟨g2, hg2⟩ : ∃ z, w.heap.size = z := ⟨_, rfl⟩
  have hb : w.heap.size ≤ g2 ∧ g2 < g3 ∧ g3 < g4 ∧ g4 < g5 := by omega
  rw [hg5] at k5
  rw [hg4] at k4
  rw [hg3] at k3
  rw [hg2] at k2
  rw [hg5, hg4, hg3, hg2]
  clear hg5 hg4 hg3 hg2 hsz
  have d0 := k3.cell 0
  have d1 := k3.cell 1
  have d2 := k3.cell 2
  have d3 := k3.cell 3
  have d4 := k3.cell 4
  have d5 := k3.cell 5
  have d6 := k3.cell 6
  have d7 := k3.cell 7
  go_wp2_with fail
  refine (HSG.out W).mono ?_
  rintro e W1 ⟨rfl, la⟩
  clear d0 d1 d2 d3 d4 d5 d6 d7
  replace k2 := k2.later la
  replace k3 := k3.later la
  replace k4 := k4.later la
  replace k5 := k5.later la
  replace l0 := l0.trans la
  clear la HSG
  have d0 := k3.cell 0
  have d1 := k3.cell 1
  have d2 := k3.cell 2
  have d3 := k3.cell 3
  have d4 := k3.cell 4
  have d5 := k3.cell 5
  have d6 := k3.cell 6
  have d7 := k3.cell 7
  go_wp2_with fail
  refine (HI.out W1).mono ?_
  rintro e W2 ⟨b7, A7, n7, c7, rfl, r7, m7, la⟩
  clear d0 d1 d2 d3 d4 d5 d6 d7
  replace k2 := k2.later la
  replace k4 := k4.later la
  replace k5 := k5.later la
  replace l0 := l0.trans la
  clear la HI k3 hsg
  go_upto_region 4 with (fail)
  refine name1 (Q := fun W => Code.wp _ _ _ _ W) ?_
  intro W3 la hs3 k7
  obtain ⟨g7, hg7⟩ : ∃ z, W2.heap.size = z := ⟨_, rfl⟩
  have h57 : g5 < g7 := by rw [← hg7]; exact k5.lt
  rw [hg7] at k7 ⊢
  replace k2 := k2.later la
  replace k4 := k4.later la
  replace k5 := k5.later la
  replace r7 := r7.later la
  replace l0 := l0.trans la
  clear la hs3 hg7
  have R7 : ∀ w', Lat W3 w' → w'.rangeAt g7 0 [.bool b7, .slice A7 n7 c7] := fun w' hl => (k7.later hl).rangeAll
  have J85 : (Tryz.prog.info? 85).map (·.size) = some 2 := by kernel_rfl
  have HSB := rSub_num (c := c7) r7 m7
  rename_i KN hKN
  refine wp_region_slots (rw4_rows b7 A7 n7 c7 0 g2 g3 g4 g5 g7 N) (rw4_base b7 A7 n7 c7 0 g2 g3 g4 g5 g7 N) 86 5 [[], [], [0, 1, 1], [2, 2], [3, 3, 0, 1, 2, 3]] (by kernel_rfl) (by kernel_rfl) (by kernel_rfl) (by kernel_rfl) (by kernel_rfl) (by kernel_rfl) (by rfl) rfl (base_of (base_cons rfl (base_cons rfl (base_cons rfl (base_cons rfl (base_nil _)))))) (rw4_steps W3 b7 A7 n7 c7 0 g2 g3 g4 g5 g7 N R7 J85 HL1.out HSB HD.out) ?_
  · intro a9 W9 hsz9 hdf9 hL9 hbs hsl
    obtain ⟨v9, h9, q9⟩ := hsl 4 _ _ rfl rfl
    obtain rfl : v9 = .int .i64 ((0 : Nat) : Int) := q9
    have w8 := slot_getD h9
    clear h9
    refine hKN _ _ ?_
    obtain ⟨T9, df9⟩ := a9
    obtain rfl : df9 = [] := hdf9
    obtain ⟨f, hf, rfl⟩ := spell86 T9 hsz9
    have x2 : f 2 = .pointer (some ⟨g2, 0, none⟩) := (hf 2).trans (slot_getD (hbs 2 _ rfl))
    have x4 : f 4 = .pointer (some ⟨g4, 0, none⟩) := (hf 4).trans (slot_getD (hbs 4 _ rfl))
    have x5 : f 5 = .pointer (some ⟨g5, 0, none⟩) := (hf 5).trans (slot_getD (hbs 5 _ rfl))
    have x7 : f 7 = .pointer (some ⟨g7, 0, none⟩) := (hf 7).trans (slot_getD (hbs 7 _ rfl))
    have x8 := (hf 8).trans w8
    clear hbs hsl hf hsz9 hKN w8
    simp only [x2, x4, x5, x7, x8]
    clear x2 x4 x5 x7 x8
    replace k2 := k2.later hL9
    replace k4 := k4.later hL9
    replace k5 := k5.later hL9
    replace l0 := l0.trans hL9
    obtain ⟨Y1, rfl⟩ : ∃ z, z = W9 := ⟨_, rfl⟩
    clear hL9 R7 J85 HSB HD HL1 k7 r7
    have hk00 : (((0 : Nat) : Int) == 0) = true := rfl
    go_upto_region 6 with (fail)
    have L0 := Lat.drew Y1
    have R2 : ∀ w', LatS Y1 [g4, g5] w' → w'.cell? ⟨g2, 0, none⟩ = some (.int .u64 (s : Int)) := fun w' hl => (k2.keepS (by simp; omega) hl).cell 0
    refine wp_region_held_drew (S := fun w' => LatS Y1 [g4, g5] w') (by kernel_rfl) (L0.s _) (fun hHeld => ?_)
    generalize Y1.drew = V0 at L0 hHeld ⊢
    refine wpAnyH_take (i := 0) (v := .agg #[.int .u64 0, .int .u64 0, .int .u64 0, .int .u64 0, .int .u64 0, .int .u64 0, .int .u64 0, .int .u64 0]) rfl (by kernel_rfl) (by kernel_rfl) (by kernel_rfl) (fun _ _ _ h => h) (Or.inl ⟨by rfl, by intro w' hS; go_simp⟩) hHeld ?_
    simp only [Act.put, List.getElem_toArray, List.getElem_cons_succ, List.getElem_cons_zero, List.setIfInBounds_toArray, List.set_cons_zero, List.set_cons_succ]
    refine wpAnyH_take (i := 1) (v := .agg #[.int .u64 (s : Int)]) rfl (by kernel_rfl) (by kernel_rfl) (by kernel_rfl) (fun _ _ _ h => h) (Or.inl ⟨by rfl, by intro w' hS; have hc := R2 w' hS; go_simp⟩) hHeld ?_
    simp only [Act.put, List.getElem_toArray, List.getElem_cons_succ, List.getElem_cons_zero, List.setIfInBounds_toArray, List.set_cons_zero, List.set_cons_succ]
    have K4 := k4.later L0
    have K5 := k5.later L0
    have hl0 := l0.trans L0
    refine wpAnyH_ready (rs := [2]) (by kernel_rfl) (by simp) (AllReadyH.cons rfl (fun K hK => ?_) AllReadyH.nil)
    rw [if_pos (by rfl)]
    refine wp_store_mid 26 (.tmp 4) (.tmp 34) rfl g4 0 #[.int .u64 0, .int .u64 0, .int .u64 0, .int .u64 0, .int .u64 0, .int .u64 0, .int .u64 0, .int .u64 0] rfl rfl (K4.thereAll _ rfl) (by kernel_rfl) (by simp [Value.oneCell']) ?_
    have KS2 := K4.setCells #[.int .u64 0, .int .u64 0, .int .u64 0, .int .u64 0, .int .u64 0, .int .u64 0, .int .u64 0, .int .u64 0] rfl
    have lp2 : LatP (· = g4) V0 (V0.setCells g4 0 (#[.int .u64 0, .int .u64 0, .int .u64 0, .int .u64 0, .int .u64 0, .int .u64 0, .int .u64 0, .int .u64 0] : Array Value).toList) := LatP.setCells _ _ _
    have M2 : LatS Y1 [g4, g5] (V0.setCells g4 0 (#[.int .u64 0, .int .u64 0, .int .u64 0, .int .u64 0, .int .u64 0, .int .u64 0, .int .u64 0, .int .u64 0] : Array Value).toList) := LatS.setCells (by simp) _ _ _ (L0.s _)
    obtain ⟨V8, hV9⟩ : ∃ V, V0.setCells g4 0 (#[.int .u64 0, .int .u64 0, .int .u64 0, .int .u64 0, .int .u64 0, .int .u64 0, .int .u64 0, .int .u64 0] : Array Value).toList = V := ⟨_, rfl⟩
    rw [hV9] at KS2 M2 lp2 ⊢
    clear hV9
    have K5b := K5.keepP lp2 (by omega)
    have hl1 := lp2.narrow hl0 (by omega)
    refine hK.out _ _ M2 (fun hHeld1 => ?_)
    clear hK K
    try simp only [Act.put, List.getElem_toArray, List.getElem_cons_succ, List.getElem_cons_zero, List.setIfInBounds_toArray, List.set_cons_zero, List.set_cons_succ]
    refine wpAnyH_ready (rs := [3]) (by kernel_rfl) (by simp) (AllReadyH.cons rfl (fun K hK => ?_) AllReadyH.nil)
    rw [if_pos (by rfl)]
    refine wp_store_mid 24 (.tmp 5) (.tmp 35) rfl g5 0 #[.int .u64 (s : Int)] rfl rfl (K5b.thereAll _ rfl) (by kernel_rfl) (by simp [Value.oneCell']) ?_
    have KS3 := K5b.setCells #[.int .u64 (s : Int)] rfl
    have lp3 : LatP (· = g5) V8 (V8.setCells g5 0 (#[.int .u64 (s : Int)] : Array Value).toList) := LatP.setCells _ _ _
    have M3 : LatS Y1 [g4, g5] (V8.setCells g5 0 (#[.int .u64 (s : Int)] : Array Value).toList) := LatS.setCells (by simp) _ _ _ M2
    obtain ⟨V9, hV9⟩ : ∃ V, V8.setCells g5 0 (#[.int .u64 (s : Int)] : Array Value).toList = V := ⟨_, rfl⟩
    rw [hV9] at KS3 M3 lp3 ⊢
    clear hV9
    have K4b := KS2.keepP lp3 (by omega)
    have hl2 := lp3.narrow hl1 (by omega)
    refine hK.out _ _ M3 (fun hHeld2 => ?_)
    clear hK K
    try simp only [Act.put, List.getElem_toArray, List.getElem_cons_succ, List.getElem_cons_zero, List.setIfInBounds_toArray, List.set_cons_zero, List.set_cons_succ]
    refine wpAnyH_take (i := 4) (v := .int .i64 0) rfl (by kernel_rfl) (by kernel_rfl) (by kernel_rfl) (fun _ _ _ h => h) (Or.inl ⟨by rfl, by intro w' hS; go_simp⟩) hHeld2 ?_
    simp only [Act.put, List.getElem_toArray, List.getElem_cons_succ, List.getElem_cons_zero, List.setIfInBounds_toArray, List.set_cons_zero, List.set_cons_succ]
    refine wpAnyH_done (by kernel_rfl) ?_ _
    have c0 := K4b.cell 0
    have c1 := K4b.cell 1
    have c2 := K4b.cell 2
    have c3 := K4b.cell 3
    have c4 := K4b.cell 4
    have c5 := K4b.cell 5
    have c6 := K4b.cell 6
    have c7 := K4b.cell 7
    have c9 := KS3.cell 0
    go_wp2
    refine bodyPost_ret (v := .tuple #[.agg #[.int .u64 W8.zero.a0, .int .u64 W8.zero.a1, .int .u64 W8.zero.a2, .int .u64 W8.zero.a3, .int .u64 W8.zero.a4, .int .u64 W8.zero.a5, .int .u64 W8.zero.a6, .int .u64 W8.zero.a7], .agg #[.int .u64 (s : Int)], .int .i64 0]) (by simp [results, Tryz.results14, go_sem, c0, c1, c2, c3, c4, c5, c6, c7, c9, W8.zero]) rfl ?_
    exact ⟨rfl, hl2⟩
set_option maxRecDepth 100000 in
set_option maxHeartbeats 4000000 in
theorem rWide_low (s : Nat) (n : W8) (hn : n.ok) (h1 : n.toInt < 1) (w : World) :
    Calls Tryz.prog 14 #[.agg #[.int .u64 (s : Nat)], .agg #[.int .u64 n.a0, .int .u64 n.a1, .int .u64 n.a2, .int .u64 n.a3, .int .u64 n.a4, .int .u64 n.a5, .int .u64 n.a6, .int .u64 n.a7]] w (WidEnd w W8.zero 0 2) := by
  have HSG := Lib.hid (fun w => rSign_any n hn w)
  have hsg : ordR n.toInt < 1 := by unfold ordR; split; · decide
                                    · split; · decide
                                      · omega
  obtain ⟨sg, hsgv⟩ : ∃ z, ordR n.toInt = z := ⟨_, rfl⟩
  rw [hsgv] at hsg HSG
  clear hn h1 hsgv
  go_enter Tryz.func14, Tryz.ntmps14
  go_upto_region 1 with (fail)
  refine name4 (Q := fun W => Code.wp _ _ _ _ W) ?_
  intro W l0 hsz k2 k3 k4 k5
  have hw : W.heap.size > w.heap.size + 3 := hsz
  clear hsz
  have d0 := k3.cell 0
  have d1 := k3.cell 1
  have d2 := k3.cell 2
  have d3 := k3.cell 3
  have d4 := k3.cell 4
  have d5 := k3.cell 5
  have d6 := k3.cell 6
  have d7 := k3.cell 7
  go_wp2_with fail
  refine (HSG.out W).mono ?_
  rintro e W1 ⟨rfl, la⟩
  clear d0 d1 d2 d3 d4 d5 d6 d7
  replace k4 := k4.later la
  replace k5 := k5.later la
  replace l0 := l0.trans la
  clear la HSG k2 k3
  have p0 := k4.cell 0
  have p1 := k4.cell 1
  have p2 := k4.cell 2
  have p3 := k4.cell 3
  have p4 := k4.cell 4
  have p5 := k4.cell 5
  have p6 := k4.cell 6
  have p7 := k4.cell 7
  have f0 := k4.frozen 0
  have f1 := k4.frozen 1
  have f2 := k4.frozen 2
  have f3 := k4.frozen 3
  have f4 := k4.frozen 4
  have f5 := k4.frozen 5
  have f6 := k4.frozen 6
  have f7 := k4.frozen 7
  have p9 := k5.cell 0
  have f9 := k5.frozen 0
  have l4 := k4.lt
  have l5 := k5.lt
  go_wp2
  refine name_put8e (Q := fun W => bodyPost _ _ _ _ _ W) k4 k5 (by omega) ?_
  intro X1 j4 j5 lp
  have LF := lp.lat l0 (fun q h => by omega)
  have c0 := j4.cell 0
  have c1 := j4.cell 1
  have c2 := j4.cell 2
  have c3 := j4.cell 3
  have c4 := j4.cell 4
  have c5 := j4.cell 5
  have c6 := j4.cell 6
  have c7 := j4.cell 7
  have c9 := j5.cell 0
  refine bodyPost_ret (v := .tuple #[.agg #[.int .u64 W8.zero.a0, .int .u64 W8.zero.a1, .int .u64 W8.zero.a2, .int .u64 W8.zero.a3, .int .u64 W8.zero.a4, .int .u64 W8.zero.a5, .int .u64 W8.zero.a6, .int .u64 W8.zero.a7], .agg #[.int .u64 0], .int .i64 2]) (by simp [results, Tryz.results14, go_sem, c0, c1, c2, c3, c4, c5, c6, c7, c9, W8.zero]) rfl ?_
  exact ⟨rfl, LF⟩
/-- The reference's Wide answers as the program's. -/
theorem rWide_any (s : Nat) (hs : s < 18446744073709551616) (n : W8) (hn : n.ok) (w : World) :
    Calls Tryz.prog 14 #[.agg #[.int .u64 s], .agg #[.int .u64 n.a0, .int .u64 n.a1, .int .u64 n.a2, .int .u64 n.a3, .int .u64 n.a4, .int .u64 n.a5, .int .u64 n.a6, .int .u64 n.a7]] w (WidEnd w (W8.of (widV s n.toInt)) (widS s n.toInt) (widE s n.toInt)) := by
  by_cases h : n.toInt < 1
  · have e0 : W8.of (widV s n.toInt) = W8.zero := by rw [widV, if_pos h, W8.zero_eq]
    rw [e0, widS, widE, if_pos h, if_pos h]
    exact rWide_low s n hn h w
  · have h2 := (W8.toInt_bounds hn).2
    rw [widV, widS, widE, if_neg h, if_neg h, if_neg h, chWid]
    by_cases hb : blen (n.toInt - 1) = 0
    · rw [if_pos hb, optI, optT, optE, ← W8.zero_eq]
      exact rWide_one s n n.toInt rfl hn (by omega) h2 hb w
    · rw [if_neg hb]
      exact rWide_in s n n.toInt rfl hn (by omega) h2 _ 0 rfl hb hs w
end Go.Proofs.YtogkkhaepfablaaGreat

/- Chance: the law of Below and Wide: what it needs. -/
namespace Go.Proofs.YtogkkhaepfablaaGreat
open Go.RowKit
set_option linter.unusedSimpArgs false
set_option linter.unusedVariables false

set_option maxRecDepth 100000 in
set_option maxHeartbeats 4000000 in
theorem rDWide_any (b : Bool) (A : Option Addr) (n c : Nat) (l : Int) (w : World) (h : DrIn w A n l) :
    Calls Tryz.prog 10 #[.agg #[.bool b, .slice A n c, .int .u32 l]] w (fun e w' => ∃ u : W8, e = .returned (.agg #[.int .u64 u.a0, .int .u64 u.a1, .int .u64 u.a2, .int .u64 u.a3, .int .u64 u.a4, .int .u64 u.a5, .int .u64 u.a6, .int .u64 u.a7]) ∧ u.ok ∧ Lat w w') := by
  go_enter Tryz.func10, Tryz.ntmps10
  go_upto_region 1 with (fail)
  refine name2 (Q := fun W => Code.wp _ _ _ _ W) ?_
  intro W hl hs k1 k2
  have H := Lib.hid (h.later hl)
  clear h hs
  have c0 := k1.cell 0
  have c1 := k1.cell 1
  have c2 := k1.cell 2
  go_wp2_with fail
  refine (H.out.within b c 511 (by decide) (by decide)).mono ?_
  rintro e w1 ⟨u, rfl, hu, la⟩
  replace k2 := k2.later la
  have L := hl.trans la
  clear c0 c1 c2 k1 la H
  have p0 := k2.cell 0
  have p1 := k2.cell 1
  have p2 := k2.cell 2
  have p3 := k2.cell 3
  have p4 := k2.cell 4
  have p5 := k2.cell 5
  have p6 := k2.cell 6
  have p7 := k2.cell 7
  have f0 := k2.frozen 0
  have f1 := k2.frozen 1
  have f2 := k2.frozen 2
  have f3 := k2.frozen 3
  have f4 := k2.frozen 4
  have f5 := k2.frozen 5
  have f6 := k2.frozen 6
  have f7 := k2.frozen 7
  have hlt := k2.lt
  go_wp2
  refine name_put8 (Q := fun W => bodyPost _ _ _ _ _ W) k2 ?_
  intro W4 k4 l4
  have e0 := k4.cell 0
  have e1 := k4.cell 1
  have e2 := k4.cell 2
  have e3 := k4.cell 3
  have e4 := k4.cell 4
  have e5 := k4.cell 5
  have e6 := k4.cell 6
  have e7 := k4.cell 7
  refine bodyPost_ret (v := .agg #[.int .u64 u.a0, .int .u64 u.a1, .int .u64 u.a2, .int .u64 u.a3, .int .u64 u.a4, .int .u64 u.a5, .int .u64 u.a6, .int .u64 u.a7]) (by simp [results, Tryz.results10, go_sem, e0, e1, e2, e3, e4, e5, e6, e7]) rfl ?_
  exact ⟨u, rfl, hu, l4.narrow L (by omega)⟩
set_option maxRecDepth 100000 in
theorem bw_ix3 (a b c : Int) (w : World) : ∀ j : Nat, j < 3 → ∃ x, (x = a ∨ x = b ∨ x = c) ∧ (Instr.index 33 (.agg #[.int .i64 a, .int .i64 b, .int .i64 c]) (.int .i64 (j : Nat))).run Tryz.prog w = .ok (.int .i64 x) w
  | 0, _ => ⟨a, .inl rfl, by kernel_rfl⟩
  | 1, _ => ⟨b, .inr (.inl rfl), by kernel_rfl⟩
  | 2, _ => ⟨c, .inr (.inr rfl), by kernel_rfl⟩
set_option maxRecDepth 100000 in
theorem bw_ix4 (a b c d : W8) (w : World) : ∀ j : Nat, j < 4 → ∃ x, (x = a ∨ x = b ∨ x = c ∨ x = d) ∧ (Instr.index 39 (.agg #[.int .u64 a.a0, .int .u64 a.a1, .int .u64 a.a2, .int .u64 a.a3, .int .u64 a.a4, .int .u64 a.a5, .int .u64 a.a6, .int .u64 a.a7, .int .u64 b.a0, .int .u64 b.a1, .int .u64 b.a2, .int .u64 b.a3, .int .u64 b.a4, .int .u64 b.a5, .int .u64 b.a6, .int .u64 b.a7, .int .u64 c.a0, .int .u64 c.a1, .int .u64 c.a2, .int .u64 c.a3, .int .u64 c.a4, .int .u64 c.a5, .int .u64 c.a6, .int .u64 c.a7, .int .u64 d.a0, .int .u64 d.a1, .int .u64 d.a2, .int .u64 d.a3, .int .u64 d.a4, .int .u64 d.a5, .int .u64 d.a6, .int .u64 d.a7]) (.int .i64 (j : Nat))).run Tryz.prog w = .ok (.agg #[.int .u64 x.a0, .int .u64 x.a1, .int .u64 x.a2, .int .u64 x.a3, .int .u64 x.a4, .int .u64 x.a5, .int .u64 x.a6, .int .u64 x.a7]) w
  | 0, _ => ⟨a, .inl rfl, by kernel_rfl⟩
  | 1, _ => ⟨b, .inr (.inl rfl), by kernel_rfl⟩
  | 2, _ => ⟨c, .inr (.inr (.inl rfl)), by kernel_rfl⟩
  | 3, _ => ⟨d, .inr (.inr (.inr rfl)), by kernel_rfl⟩
/-- What Below and Wide come to, on both sides. -/
structure BwI (s : Nat) (x v : Int) (t : Nat) (en : Int) : Prop where
  p : ∀ w, Calls Tryz.prog 8 #[.agg #[.int .u64 (s : Nat)], .int .i64 x] w (fun e w' => e = .returned (.tuple #[.int .i64 v, .agg #[.int .u64 (t : Nat)], .int .i64 en]) ∧ Lat w w')
  r : ∀ w, Calls Tryz.prog 9 #[.agg #[.int .u64 (s : Nat)], .int .i64 x] w (fun e w' => e = .returned (.tuple #[.int .i64 v, .agg #[.int .u64 (t : Nat)], .int .i64 en]) ∧ Lat w w')
  q : ∀ w, (Op.equalIn 10000 24 (.agg #[.int .u64 (t : Nat)]) (.agg #[.int .u64 (t : Nat)])).run Tryz.prog w = .ok true w
structure BwW (s : Nat) (x u : W8) (t : Nat) (en : Int) : Prop where
  p : ∀ w, Calls Tryz.prog 13 #[.agg #[.int .u64 (s : Nat)], .agg #[.int .u64 x.a0, .int .u64 x.a1, .int .u64 x.a2, .int .u64 x.a3, .int .u64 x.a4, .int .u64 x.a5, .int .u64 x.a6, .int .u64 x.a7]] w (fun e w' => e = .returned (.tuple #[.agg #[.int .u64 u.a0, .int .u64 u.a1, .int .u64 u.a2, .int .u64 u.a3, .int .u64 u.a4, .int .u64 u.a5, .int .u64 u.a6, .int .u64 u.a7], .agg #[.int .u64 (t : Nat)], .int .i64 en]) ∧ Lat w w')
  r : ∀ w, Calls Tryz.prog 14 #[.agg #[.int .u64 (s : Nat)], .agg #[.int .u64 x.a0, .int .u64 x.a1, .int .u64 x.a2, .int .u64 x.a3, .int .u64 x.a4, .int .u64 x.a5, .int .u64 x.a6, .int .u64 x.a7]] w (fun e w' => e = .returned (.tuple #[.agg #[.int .u64 u.a0, .int .u64 u.a1, .int .u64 u.a2, .int .u64 u.a3, .int .u64 u.a4, .int .u64 u.a5, .int .u64 u.a6, .int .u64 u.a7], .agg #[.int .u64 (t : Nat)], .int .i64 en]) ∧ Lat w w')
  q : ∀ w, (Op.equalIn 10000 24 (.agg #[.int .u64 (t : Nat)]) (.agg #[.int .u64 (t : Nat)])).run Tryz.prog w = .ok true w
  q8 : ∀ w, (Op.equalIn 10000 26 (.agg #[.int .u64 u.a0, .int .u64 u.a1, .int .u64 u.a2, .int .u64 u.a3, .int .u64 u.a4, .int .u64 u.a5, .int .u64 u.a6, .int .u64 u.a7]) (.agg #[.int .u64 u.a0, .int .u64 u.a1, .int .u64 u.a2, .int .u64 u.a3, .int .u64 u.a4, .int .u64 u.a5, .int .u64 u.a6, .int .u64 u.a7])).run Tryz.prog w = .ok true w
theorem chance_sameB (t : Nat) (ht : t < 18446744073709551616) (w : World) : (Op.equalIn 10000 24 (.agg #[.int .u64 (t : Nat)]) (.agg #[.int .u64 (t : Nat)])).run Tryz.prog w = .ok true w := by
  have h := chance_in (s := (t : Int)) (t := (t : Int)) ⟨by omega, by unfold W64; omega⟩ ⟨by omega, by unfold W64; omega⟩ w
  rwa [decide_eq_true rfl] at h
theorem chTryD_lt {k : Nat} {ok : Int → Bool} : ∀ {f s : Nat} {p : Int × Nat}, s < 18446744073709551616 → chTry (chDraw k) ok f s = some p → p.2 < 18446744073709551616
  | 0, s, p, _, h => by rw [chTry] at h; exact absurd h (by simp)
  | f + 1, s, p, hs, h => by
    rw [chTry] at h
    by_cases hk : ok (chDraw k s).1 = true
    · rw [if_pos hk, Option.some.injEq] at h
      rw [← h]
      exact chDraw_lt k s hs
    · rw [if_neg hk] at h; exact chTryD_lt (chDraw_lt k s hs) h
theorem wid_lt {s : Nat} (hs : s < 18446744073709551616) (N : Int) : widS s N < 18446744073709551616 := by
  unfold widS
  split
  · decide
  · unfold chWid
    split
    · rw [optT]; exact hs
    · cases h : chTry (chDraw (blen (N - 1))) (fun x => decide (x < N)) 200 s with
      | none => rw [optT]; decide
      | some p => rw [optT]; exact chTryD_lt hs h
theorem chTry_ltB {ok : Nat → Bool} : ∀ {f s : Nat} {p : Nat × Nat}, chTry chNext ok f s = some p → p.2 < 18446744073709551616
  | 0, s, p, h => by rw [chTry] at h; exact absurd h (by simp)
  | f + 1, s, p, h => by
    rw [chTry] at h
    by_cases hk : ok (chNext s).1 = true
    · rw [if_pos hk, Option.some.injEq] at h
      rw [← h, next_snd]
      exact chStep_lt s
    · rw [if_neg hk] at h; exact chTry_ltB h
theorem chBel_ltB {s n : Nat} {p : Nat × Nat} (h : chBel s n = some p) : p.2 < 18446744073709551616 := chTry_ltB h
theorem belS_lt (s : Nat) (n : Int) : belS s n < 18446744073709551616 := by
  unfold belS
  split
  · decide
  · cases h : chBel s n.toNat with
    | none => rw [optT]; decide
    | some p => rw [optT]; exact chBel_ltB h
theorem bwI (s : Nat) (hs : s < 18446744073709551616) (x : Int) (hx : x < 9223372036854775808) : ∃ v t en, BwI s x v t en := ⟨_, _, _, cBelow_any s hs x hx, rBelow_any s hs x hx, chance_sameB _ (belS_lt s x)⟩
theorem bwW (s : Nat) (hs : s < 18446744073709551616) (x : W8) (hx : x.ok) : ∃ u t en, BwW s x u t en := ⟨_, _, _, cWide_any s hs x hx, rWide_any s hs x hx, chance_sameB _ (wid_lt hs _), fun w => by rw [wide_in (W8.of_ok _) (W8.of_ok _), decide_eq_true rfl]⟩
end Go.Proofs.YtogkkhaepfablaaGreat

/- Chance: the law of Below and Wide, walked. -/
namespace Go.Proofs.YtogkkhaepfablaaGreat
open Go.RowKit Go.Shelf
set_option linter.unusedSimpArgs false
set_option linter.unusedVariables false

def WV (v : Value) (_w : World) : Prop := ∃ u : W8, v = .agg #[.int .u64 u.a0, .int .u64 u.a1, .int .u64 u.a2, .int .u64 u.a3, .int .u64 u.a4, .int .u64 u.a5, .int .u64 u.a6, .int .u64 u.a7] ∧ u.ok
theorem WV.mono {v : Value} {w w' : World} (h : WV v w) (_hl : Lat w w') : WV v w' := h
theorem WV.run {w w' : World} {e : Ending} {d : Prop} (h : ∃ u : W8, e = .returned (.agg #[.int .u64 u.a0, .int .u64 u.a1, .int .u64 u.a2, .int .u64 u.a3, .int .u64 u.a4, .int .u64 u.a5, .int .u64 u.a6, .int .u64 u.a7]) ∧ u.ok ∧ Lat w w') : ∃ v, e = .returned v ∧ (Lat w w' ∧ (d → WV v w')) := by
  obtain ⟨u, e, ho, hl⟩ := h
  exact ⟨_, e, hl, fun _ => ⟨u, rfl, ho⟩⟩
def BV (u0 uo : W8) (v : Value) (_w : World) : Prop := ∃ u1 u2 : W8, v = .agg #[.int .u64 u0.a0, .int .u64 u0.a1, .int .u64 u0.a2, .int .u64 u0.a3, .int .u64 u0.a4, .int .u64 u0.a5, .int .u64 u0.a6, .int .u64 u0.a7, .int .u64 u1.a0, .int .u64 u1.a1, .int .u64 u1.a2, .int .u64 u1.a3, .int .u64 u1.a4, .int .u64 u1.a5, .int .u64 u1.a6, .int .u64 u1.a7, .int .u64 u2.a0, .int .u64 u2.a1, .int .u64 u2.a2, .int .u64 u2.a3, .int .u64 u2.a4, .int .u64 u2.a5, .int .u64 u2.a6, .int .u64 u2.a7, .int .u64 uo.a0, .int .u64 uo.a1, .int .u64 uo.a2, .int .u64 uo.a3, .int .u64 uo.a4, .int .u64 uo.a5, .int .u64 uo.a6, .int .u64 uo.a7] ∧ u1.ok ∧ u2.ok
theorem BV.mono {u0 uo : W8} {v : Value} {w w' : World} (h : BV u0 uo v w) (_hl : Lat w w') : BV u0 uo v w' := h
theorem wf_i64b {a : Int} (h : (Lit.int .i64 a).wf = true) : -9223372036854775808 ≤ a ∧ a < 9223372036854775808 := by
  have e1 : IntKind.i64.min = -9223372036854775808 := by decide
  have e2 : IntKind.i64.max = 9223372036854775807 := by decide
  simp [Lit.wf, e1, e2] at h
  omega
theorem bw_of {n : Int} (h : (Lit.int .i64 n).wf = true) : ∀ w, Calls Tryz.prog 12 #[.int .i64 n] w (fun e w' => e = .returned (.agg #[.int .u64 (W8.of n).a0, .int .u64 (W8.of n).a1, .int .u64 (W8.of n).a2, .int .u64 (W8.of n).a3, .int .u64 (W8.of n).a4, .int .u64 (W8.of n).a5, .int .u64 (W8.of n).a6, .int .u64 (W8.of n).a7]) ∧ Lat w w') := fun w => rWOf_any n (wf_i64b h).1 (wf_i64b h).2 w
theorem spell109 (T : Array Value) (h : T.size = 109) : ∃ f : Nat → Value, (∀ k, f k = T.getD k undef) ∧ T = #[f 0, f 1, f 2, f 3, f 4, f 5, f 6, f 7, f 8, f 9, f 10, f 11, f 12, f 13, f 14, f 15, f 16, f 17, f 18, f 19, f 20, f 21, f 22, f 23, f 24, f 25, f 26, f 27, f 28, f 29, f 30, f 31, f 32, f 33, f 34, f 35, f 36, f 37, f 38, f 39, f 40, f 41, f 42, f 43, f 44, f 45, f 46, f 47, f 48, f 49, f 50, f 51, f 52, f 53, f 54, f 55, f 56, f 57, f 58, f 59, f 60, f 61, f 62, f 63, f 64, f 65, f 66, f 67, f 68, f 69, f 70, f 71, f 72, f 73, f 74, f 75, f 76, f 77, f 78, f 79, f 80, f 81, f 82, f 83, f 84, f 85, f 86, f 87, f 88, f 89, f 90, f 91, f 92, f 93, f 94, f 95, f 96, f 97, f 98, f 99, f 100, f 101, f 102, f 103, f 104, f 105, f 106, f 107, f 108] := ⟨fun k => T.getD k undef, fun _ => rfl, (spell 109 T h).trans (by kernel_rfl)⟩
noncomputable def bw11_rows (n l : Int) (u0 uo : W8) (b : Bool) (A : Option Addr) (nn c g4 g6 g7 : Nat) : List SRow := [
  ⟨Op.load 26 (Operand.tmp 6), some 70, none, [], fun v _ => v = .agg #[.int .u64 u0.a0, .int .u64 u0.a1, .int .u64 u0.a2, .int .u64 u0.a3, .int .u64 u0.a4, .int .u64 u0.a5, .int .u64 u0.a6, .int .u64 u0.a7]⟩,
  ⟨Op.load 30 (Operand.tmp 7), some 71, none, [], fun v _ => v = .agg #[.bool b, .slice A nn c, .int .u32 l]⟩,
  ⟨Op.call { callee := Callee.value (Operand.func 10), args := #[Operand.tmp 71], argTypes := #[30] }, some 72, none, [1], WV ⟩,
  ⟨Op.load 30 (Operand.tmp 7), some 73, none, [], fun v _ => v = .agg #[.bool b, .slice A nn c, .int .u32 l]⟩,
  ⟨Op.call { callee := Callee.value (Operand.func 11), args := #[Operand.tmp 73, Operand.const (Value.int IntKind.i64 130)], argTypes := #[30, 3] }, some 74, none, [3, 2], WV ⟩,
  ⟨Op.move (Operand.tmp 1), some 75, none, [], fun v _ => v = .int .i64 n⟩,
  ⟨Op.call { callee := Callee.value (Operand.func 12), args := #[Operand.tmp 75], argTypes := #[3] }, some 76, none, [5, 4], fun v _ => v = .agg #[.int .u64 uo.a0, .int .u64 uo.a1, .int .u64 uo.a2, .int .u64 uo.a3, .int .u64 uo.a4, .int .u64 uo.a5, .int .u64 uo.a6, .int .u64 uo.a7]⟩,
  ⟨Op.build 39 #[(0, Operand.tmp 70), (1, Operand.tmp 72), (2, Operand.tmp 74), (3, Operand.tmp 76)], some 77, none, [0, 2, 4, 6], BV u0 uo⟩,
  ⟨Op.move (Operand.const (Value.int IntKind.i64 0)), some 78, none, [], fun v _ => v = .int .i64 0⟩]
noncomputable def bw11_base (n l : Int) (u0 uo : W8) (b : Bool) (A : Option Addr) (nn c g4 g6 g7 : Nat) : List (Nat × Value) := [(1, .int .i64 n), (4, .pointer (some ⟨g4, 0, none⟩)), (6, .pointer (some ⟨g6, 0, none⟩)), (7, .pointer (some ⟨g7, 0, none⟩))]
set_option maxRecDepth 100000 in
set_option maxHeartbeats 4000000 in
theorem bw11_steps (V : World) (n l : Int) (u0 uo : W8) (b : Bool) (A : Option Addr) (nn c g4 g6 g7 : Nat) (R6 : ∀ w', Lat V w' → w'.rangeAt g6 0 [.int .u64 u0.a0, .int .u64 u0.a1, .int .u64 u0.a2, .int .u64 u0.a3, .int .u64 u0.a4, .int .u64 u0.a5, .int .u64 u0.a6, .int .u64 u0.a7]) (R7 : ∀ w', Lat V w' → w'.rangeAt g7 0 [.bool b, .slice A nn c, .int .u32 l]) (J26 : (Tryz.prog.info? 26).map (·.size) = some 8) (J30 : (Tryz.prog.info? 30).map (·.size) = some 3)
    (HWD : ∀ w, Lat V w → Calls Tryz.prog 10 #[.agg #[.bool b, .slice A nn c, .int .u32 l]] w (fun e w' => ∃ u : W8, e = .returned (.agg #[.int .u64 u.a0, .int .u64 u.a1, .int .u64 u.a2, .int .u64 u.a3, .int .u64 u.a4, .int .u64 u.a5, .int .u64 u.a6, .int .u64 u.a7]) ∧ u.ok ∧ Lat w w'))
    (HWI : ∀ w, Lat V w → Calls Tryz.prog 11 #[.agg #[.bool b, .slice A nn c, .int .u32 l], .int .i64 130] w (fun e w' => ∃ u : W8, e = .returned (.agg #[.int .u64 u.a0, .int .u64 u.a1, .int .u64 u.a2, .int .u64 u.a3, .int .u64 u.a4, .int .u64 u.a5, .int .u64 u.a6, .int .u64 u.a7]) ∧ u.ok ∧ Lat w w'))
    (HOF : ∀ w, Calls Tryz.prog 12 #[.int .i64 n] w (fun e w' => e = .returned (.agg #[.int .u64 uo.a0, .int .u64 uo.a1, .int .u64 uo.a2, .int .u64 uo.a3, .int .u64 uo.a4, .int .u64 uo.a5, .int .u64 uo.a6, .int .u64 uo.a7]) ∧ Lat w w')) :
    AllSteps Tryz.prog (bw11_rows n l u0 uo b A nn c g4 g6 g7) (bw11_base n l u0 uo b A nn c g4 g6 g7) V (bw11_rows n l u0 uo b A nn c g4 g6 g7) := by
  refine AllSteps.next (fun _ _ _ h _ => h) (fun j b h => by cases h) (fun a w hl hb hd o ho => by have e1 := hb 6 _ rfl; exact Runs.val (yv_load (S := Lat V) e1 R6 Tryz.underlying26 rfl J26 o w ho hl) ⟨Lat.refl _, fun _ => rfl⟩) ?_
  refine AllSteps.next (fun _ _ _ h _ => h) (fun j b h => by cases h) (fun a w hl hb hd o ho => by have e1 := hb 7 _ rfl; exact Runs.val (yv_load (S := Lat V) e1 R7 Tryz.underlying30 rfl J30 o w ho hl) ⟨Lat.refl _, fun _ => rfl⟩) ?_
  refine AllSteps.next (fun _ _ _ h hl => h.mono hl) (fun j b h => by cases h) (fun a w hl hb hd o ho => by obtain ⟨v1, e1, q1⟩ := hd 1 _ _ (by simp) rfl rfl; subst q1; exact Runs.call (yv_call (f := 10) (fun _ => by go_simp) o ho (by simp only [List.map_toArray, List.map_cons, List.map_nil, eval_const, e1])) ((HWD w hl).mono fun e w' h => WV.run h)) ?_
  refine AllSteps.next (fun _ _ _ h _ => h) (fun j b h => by cases h) (fun a w hl hb hd o ho => by have e1 := hb 7 _ rfl; exact Runs.val (yv_load (S := Lat V) e1 R7 Tryz.underlying30 rfl J30 o w ho hl) ⟨Lat.refl _, fun _ => rfl⟩) ?_
  refine AllSteps.next (fun _ _ _ h hl => h.mono hl) (fun j b h => by cases h) (fun a w hl hb hd o ho => by obtain ⟨v1, e1, q1⟩ := hd 3 _ _ (by simp) rfl rfl; subst q1; exact Runs.call (yv_call (f := 11) (fun _ => by go_simp) o ho (by simp only [List.map_toArray, List.map_cons, List.map_nil, eval_const, e1])) ((HWI w hl).mono fun e w' h => WV.run h)) ?_
  refine AllSteps.next (fun _ _ _ h _ => h) (fun j b h => by cases h) (fun a w hl hb hd o ho => by have e1 := hb 1 _ rfl; exact Runs.val (yv_move (S := fun _ => True) e1 o w ho trivial) ⟨Lat.refl _, fun _ => rfl⟩) ?_
  refine AllSteps.next (fun _ _ _ h _ => h) (fun j b h => by cases h) (fun a w hl hb hd o ho => by obtain ⟨v1, e1, q1⟩ := hd 5 _ _ (by simp) rfl rfl; subst q1; exact Runs.call (yv_call (f := 12) (fun _ => by go_simp) o ho (by simp only [List.map_toArray, List.map_cons, List.map_nil, eval_const, e1])) ((HOF w).mono fun e w' h => ⟨_, h.1, h.2, fun _ => rfl⟩)) ?_
  refine AllSteps.next (fun _ _ _ h hl => h.mono hl) (fun j b h => by cases h) (fun a w hl hb hd o ho => by obtain ⟨v1, e1, q1⟩ := hd 0 _ _ (by simp) rfl rfl; subst q1; obtain ⟨v2, e2, q2⟩ := hd 2 _ _ (by simp) rfl rfl; obtain ⟨u2, rfl, o2⟩ := (show WV v2 w from q2); obtain ⟨v3, e3, q3⟩ := hd 4 _ _ (by simp) rfl rfl; obtain ⟨u3, rfl, o3⟩ := (show WV v3 w from q3); obtain ⟨v4, e4, q4⟩ := hd 6 _ _ (by simp) rfl rfl; subst q4; obtain ⟨d, op, ty, p, af, g⟩ := o; simp only at ho; subst ho; exact Runs.val (v := .agg #[.int .u64 u0.a0, .int .u64 u0.a1, .int .u64 u0.a2, .int .u64 u0.a3, .int .u64 u0.a4, .int .u64 u0.a5, .int .u64 u0.a6, .int .u64 u0.a7, .int .u64 u2.a0, .int .u64 u2.a1, .int .u64 u2.a2, .int .u64 u2.a3, .int .u64 u2.a4, .int .u64 u2.a5, .int .u64 u2.a6, .int .u64 u2.a7, .int .u64 u3.a0, .int .u64 u3.a1, .int .u64 u3.a2, .int .u64 u3.a3, .int .u64 u3.a4, .int .u64 u3.a5, .int .u64 u3.a6, .int .u64 u3.a7, .int .u64 uo.a0, .int .u64 uo.a1, .int .u64 uo.a2, .int .u64 uo.a3, .int .u64 uo.a4, .int .u64 uo.a5, .int .u64 uo.a6, .int .u64 uo.a7]) (by unfold execOp; generalize a.eval = ev at e1 e2 e3 e4 ⊢; simp only [e1, e2, e3, e4, List.map_toArray, List.map_cons, List.map_nil]; go_simp) ⟨Lat.refl _, fun _ => ⟨u2, u3, rfl, o2, o3⟩⟩) ?_
  refine AllSteps.next (fun _ _ _ h _ => h) (fun j b h => by cases h) (fun a w hl hb hd o ho => by obtain ⟨d, op, ty, p, af, g⟩ := o; simp only at ho; subst ho; exact Runs.val (v := .int .i64 0) (by unfold execOp; go_simp) ⟨Lat.refl _, fun _ => rfl⟩) ?_
  exact AllSteps.none
set_option maxRecDepth 100000 in
set_option maxHeartbeats 4000000 in
theorem cBelowLaw_from (HWK : ∀ w, Calls Tryz.prog 7 #[] w (fun e w' => e = .returned (.bool true) ∧ Lat w w')) (s : Nat) (n : Int) (u0 : W8) (b : Bool) (A : Option Addr) (nn c : Nat) (l : Int) (w : World) (hd : DrIn w A nn l) (hu0 : u0.ok)
    (HX : Hid (∀ x : Int, (Lit.int .i64 x).wf = true → ∃ v t en, BwI s x v t en)) (HY : Hid (∀ x : W8, x.ok → ∃ u t en, BwW s x u t en)) (hn : (Lit.int .i64 n).wf = true) :
    Calls Tryz.prog 3 #[.agg #[.int .u64 (s : Nat)], .int .i64 n, .agg #[.int .u64 u0.a0, .int .u64 u0.a1, .int .u64 u0.a2, .int .u64 u0.a3, .int .u64 u0.a4, .int .u64 u0.a5, .int .u64 u0.a6, .int .u64 u0.a7], .agg #[.bool b, .slice A nn c, .int .u32 l]] w (fun e w' => e = .returned (.bool true) ∧ Lat w w') := by
  have HN := Lib.hid hn
  have HU0 := Lib.hid hu0
  clear hn hu0
  go_enter Tryz.func3, Tryz.ntmps3
  go_upto_region 1 with (fail)
  refine name3 (Q := fun W => Code.wp _ _ _ _ W) ?_
  intro W l0 hsz k4 k6 k7
  obtain ⟨g7, hg7⟩ : ∃ z, w.heap.size + 1 + 1 = z := ⟨_, rfl⟩
  obtain ⟨g6, hg6⟩ : ∃ z, w.heap.size + 1 = z := ⟨_, rfl⟩
  obtain ⟨g4, hg4⟩ : ∃ z, w.heap.size = z := ⟨_, rfl⟩
  rw [hg7] at k7
  rw [hg6] at k6
  rw [hg4] at k4
  rw [hg7, hg6, hg4]
  have HD := hd.later l0
  clear hg7 hg6 hg4 hsz hd
  go_wp2_with fail
  refine (HWK W).mono ?_
  rintro e V0 ⟨rfl, la⟩
  replace k4 := k4.later la
  replace k6 := k6.later la
  replace k7 := k7.later la
  replace HD := HD.later la
  replace l0 := l0.trans la
  clear la HWK
  go_upto_region 4 with (fail)
  have hwf0 := HN.out
  have hwf1 := wrap64_wf (1 + wrap64 ((IntKind.u64.wrap n).tmod 1000))
  have hwf2 := wf_bits .or .i64 (wrap64 (IntKind.u64.wrap n / 2)) 4611686018427387904
  obtain ⟨k1v, hk1⟩ : ∃ z, wrap64 (1 + wrap64 ((IntKind.u64.wrap n).tmod 1000)) = z := ⟨_, rfl⟩
  obtain ⟨k2v, hk2⟩ : ∃ z, bits BinOp.or IntKind.i64 (wrap64 (IntKind.u64.wrap n / 2)) 4611686018427387904 = z := ⟨_, rfl⟩
  rw [hk1] at hwf1
  rw [hk2] at hwf2
  rw [hk1, hk2]
  have HWF := Lib.hid (And.intro hwf0 (And.intro hwf1 hwf2))
  clear hwf0 hwf1 hwf2 hk1 hk2
  go_loopw [39] (fun i wr => ∃ j : Nat, j ≤ 3 ∧ i = .int .i64 j ∧ Blk wr g4 24 #[.int .u64 (s : Nat)] ∧ Blk wr g6 26 #[.int .u64 u0.a0, .int .u64 u0.a1, .int .u64 u0.a2, .int .u64 u0.a3, .int .u64 u0.a4, .int .u64 u0.a5, .int .u64 u0.a6, .int .u64 u0.a7] ∧ Blk wr g7 30 #[.bool b, .slice A nn c, .int .u32 l] ∧ DrIn wr A nn l ∧ Lat w wr) (fun i _ => 3 - (intOf i).toNat)
  case atStart => exact ⟨0, by omega, rfl, k4, k6, k7, HD, l0⟩
  case round =>
    clear k4 k6 k7 HD l0
    obtain ⟨j, hj, rfl, k4, k6, k7, HD, l0⟩ := hrel
    by_cases hj3 : j < 3
    · have hjI : (j : Int) < 3 := by omega
      obtain ⟨x, hx, hix⟩ := bw_ix3 n k1v k2v wr j hj3
      obtain ⟨v, t, en, HB⟩ := HX.out x (by rcases hx with rfl | rfl | rfl <;> first | exact HWF.out.1 | exact HWF.out.2.1 | exact HWF.out.2.2)
      clear hx
      have c4 : wr.cell? ⟨g4, 0, none⟩ = some (.int .u64 (s : Int)) := k4.cell 0
      go_wp2_with fail
      refine (HB.p wr).mono ?_
      rintro e V1 ⟨rfl, la⟩
      clear c4 hix
      replace k4 := k4.later la
      replace k6 := k6.later la
      replace k7 := k7.later la
      replace HD := HD.later la
      replace l0 := l0.trans la
      clear la
      go_upto_region 7 with (fail)
      refine name1 (Q := fun W => Code.wp _ _ _ _ W) ?_
      intro V2 la hs k12
      replace k4 := k4.later la
      replace k6 := k6.later la
      replace k7 := k7.later la
      replace HD := HD.later la
      replace l0 := l0.trans la
      obtain ⟨g12, hg12⟩ : ∃ z, V1.heap.size = z := ⟨_, rfl⟩
      rw [hg12] at k12 ⊢
      clear la hs hg12
      have c4 : V2.cell? ⟨g4, 0, none⟩ = some (.int .u64 (s : Int)) := k4.cell 0
      go_wp2_with fail
      refine (HB.r V2).mono ?_
      rintro e V3 ⟨rfl, la⟩
      clear c4
      replace k4 := k4.later la
      replace k6 := k6.later la
      replace k7 := k7.later la
      replace HD := HD.later la
      replace k12 := k12.later la
      replace l0 := l0.trans la
      clear la
      go_upto_region 8 with (fail)
      refine name1 (Q := fun W => Code.wp _ _ _ _ W) ?_
      intro V4 la hs k15
      replace k4 := k4.later la
      replace k6 := k6.later la
      replace k7 := k7.later la
      replace HD := HD.later la
      replace k12 := k12.later la
      replace l0 := l0.trans la
      obtain ⟨g15, hg15⟩ : ∃ z, V3.heap.size = z := ⟨_, rfl⟩
      rw [hg15] at k15 ⊢
      clear la hs hg15
      have c12 := k12.cell 0
      have c15 := k15.cell 0
      have hq := HB.q
      have hnev : (v != v) = false := by simp
      have hnen : (en != en) = false := by simp
      clear HB HX HY
      go_wp2
      go_roundw
      case rel => exact ⟨j + 1, by omega, by go_num, k4, k6, k7, HD, l0⟩
      case measure => simp [intOf]; omega
    · obtain rfl : j = 3 := by omega
      obtain ⟨X0, rfl⟩ : ∃ z, z = wr := ⟨_, rfl⟩
      obtain ⟨uo, hq3⟩ : ∃ z, W8.of n = z := ⟨_, rfl⟩
      have HQ3 := Lib.hid (show uo.ok by rw [← hq3]; exact W8.of_ok n)
      have HOF : ∀ w, Calls Tryz.prog 12 #[.int .i64 n] w (fun e w' => e = .returned (.agg #[.int .u64 uo.a0, .int .u64 uo.a1, .int .u64 uo.a2, .int .u64 uo.a3, .int .u64 uo.a4, .int .u64 uo.a5, .int .u64 uo.a6, .int .u64 uo.a7]) ∧ Lat w w') := by
        rw [← hq3]
        exact bw_of HN.out
      have HWD := fun w' (hl : Lat X0 w') => rDWide_any b A nn c l w' (HD.later hl)
      have HWI := fun w' (hl : Lat X0 w') => (HD.later hl).within b c 130 (by decide) (by decide)
      have R6 : ∀ w', Lat X0 w' → w'.rangeAt g6 0 [.int .u64 u0.a0, .int .u64 u0.a1, .int .u64 u0.a2, .int .u64 u0.a3, .int .u64 u0.a4, .int .u64 u0.a5, .int .u64 u0.a6, .int .u64 u0.a7] := fun w' hl => (k6.later hl).rangeAll
      have R7 : ∀ w', Lat X0 w' → w'.rangeAt g7 0 [.bool b, .slice A nn c, .int .u32 l] := fun w' hl => (k7.later hl).rangeAll
      have J26 : (Tryz.prog.info? 26).map (·.size) = some 8 := by kernel_rfl
      have J30 : (Tryz.prog.info? 30).map (·.size) = some 3 := by kernel_rfl
      clear hq3 HWF hj hj3
      go_upto_region 11 with (fail)
      rename_i KN hKN
      refine wp_region_slots (bw11_rows n l u0 uo b A nn c g4 g6 g7) (bw11_base n l u0 uo b A nn c g4 g6 g7) 109 9 [[], [], [1], [], [3, 2], [], [5, 4], [0, 2, 4, 6], []] (by kernel_rfl) (by kernel_rfl) (by kernel_rfl) (by kernel_rfl) (by kernel_rfl) (by kernel_rfl) (by rfl) rfl (base_of (base_cons rfl (base_cons rfl (base_cons rfl (base_cons rfl (base_nil _)))))) (bw11_steps X0 n l u0 uo b A nn c g4 g6 g7 R6 R7 J26 J30 HWD HWI HOF) ?_
      · intro a9 W9 hsz9 hdf9 hL9 hbs hsl
        obtain ⟨v9, h9, q9⟩ := hsl 7 _ _ rfl rfl
        obtain ⟨u1, u2, rfl, o1, o2⟩ := (show BV u0 uo v9 W9 from q9)
        have w77 := slot_getD h9
        clear h9
        obtain ⟨v9, h9, q9⟩ := hsl 8 _ _ rfl rfl
        obtain rfl : v9 = .int .i64 0 := q9
        have w78 := slot_getD h9
        clear h9
        refine hKN _ _ ?_
        obtain ⟨T9, df9⟩ := a9
        obtain rfl : df9 = [] := hdf9
        obtain ⟨f, hf, rfl⟩ := spell109 T9 hsz9
        have x1 : f 1 = .int .i64 n := (hf 1).trans (slot_getD (hbs 1 _ rfl))
        have x4 : f 4 = .pointer (some ⟨g4, 0, none⟩) := (hf 4).trans (slot_getD (hbs 4 _ rfl))
        have x6 : f 6 = .pointer (some ⟨g6, 0, none⟩) := (hf 6).trans (slot_getD (hbs 6 _ rfl))
        have x7 : f 7 = .pointer (some ⟨g7, 0, none⟩) := (hf 7).trans (slot_getD (hbs 7 _ rfl))
        have x77 := (hf 77).trans w77
        have x78 := (hf 78).trans w78
        clear hbs hsl hf hsz9 hKN w77 w78
        simp only [x1, x4, x6, x7, x77, x78]
        clear x1 x4 x6 x7 x77 x78
        replace k4 := k4.later hL9
        replace l0 := l0.trans hL9
        obtain ⟨X1, rfl⟩ : ∃ z, z = W9 := ⟨_, rfl⟩
        clear hL9 R6 R7 J26 J30 HWD HWI HOF k6 k7 HD
        have HU := Lib.hid (And.intro o1 (And.intro o2 HU0.out))
        go_upto_region 12 with (fail)
        go_loopw [78] (fun i wr => ∃ j : Nat, j ≤ 4 ∧ i = .int .i64 j ∧ Blk wr g4 24 #[.int .u64 (s : Nat)] ∧ Lat w wr) (fun i _ => 4 - (intOf i).toNat)
        case atStart => exact ⟨0, by omega, rfl, k4, l0⟩
        case round =>
          clear k4 l0
          obtain ⟨j, hj, rfl, k4, l0⟩ := hrel
          by_cases hj3 : j < 4
          · have hjI : (j : Int) < 4 := by omega
            obtain ⟨x, hx, hix⟩ := bw_ix4 u0 u1 u2 uo wr j hj3
            obtain ⟨u, t, en, HB⟩ := HY.out x (by rcases hx with rfl | rfl | rfl | rfl <;> first | exact HU.out.2.2 | exact HU.out.1 | exact HU.out.2.1 | exact HQ3.out)
            clear hx
            go_upto_region 14 with (fail)
            refine name1 (Q := fun W => Code.wp _ _ _ _ W) ?_
            intro V0 la hs k18
            obtain ⟨g18, hg18⟩ : ∃ z, wr.heap.size = z := ⟨_, rfl⟩
            rw [hg18] at k18 ⊢
            replace k4 := k4.later la
            replace l0 := l0.trans la
            clear la hs hg18 hix
            have c4 : V0.cell? ⟨g4, 0, none⟩ = some (.int .u64 (s : Int)) := k4.cell 0
            have d0 := k18.cell 0
            have d1 := k18.cell 1
            have d2 := k18.cell 2
            have d3 := k18.cell 3
            have d4 := k18.cell 4
            have d5 := k18.cell 5
            have d6 := k18.cell 6
            have d7 := k18.cell 7
            go_wp2_with fail
            refine (HB.p V0).mono ?_
            rintro e V1 ⟨rfl, la⟩
            clear d0 d1 d2 d3 d4 d5 d6 d7
            clear c4
            replace k4 := k4.later la
            replace k18 := k18.later la
            replace l0 := l0.trans la
            clear la
            go_upto_region 15 with (fail)
            refine name2 (Q := fun W => Code.wp _ _ _ _ W) ?_
            intro V2 la hs k19 k20
            obtain ⟨g20, hg20⟩ : ∃ z, V1.heap.size + 1 = z := ⟨_, rfl⟩
            obtain ⟨g19, hg19⟩ : ∃ z, V1.heap.size = z := ⟨_, rfl⟩
            rw [hg20] at k20
            rw [hg19] at k19
            rw [hg20, hg19]
            replace k4 := k4.later la
            replace k18 := k18.later la
            replace l0 := l0.trans la
            clear la hs hg20 hg19
            have c4 : V2.cell? ⟨g4, 0, none⟩ = some (.int .u64 (s : Int)) := k4.cell 0
            have d0 := k18.cell 0
            have d1 := k18.cell 1
            have d2 := k18.cell 2
            have d3 := k18.cell 3
            have d4 := k18.cell 4
            have d5 := k18.cell 5
            have d6 := k18.cell 6
            have d7 := k18.cell 7
            go_wp2_with fail
            refine (HB.r V2).mono ?_
            rintro e V3 ⟨rfl, la⟩
            clear d0 d1 d2 d3 d4 d5 d6 d7
            clear c4 k18
            replace k4 := k4.later la
            replace k19 := k19.later la
            replace k20 := k20.later la
            replace l0 := l0.trans la
            clear la
            go_upto_region 16 with (fail)
            refine name2 (Q := fun W => Code.wp _ _ _ _ W) ?_
            intro V4 la hs k22 k23
            obtain ⟨g23, hg23⟩ : ∃ z, V3.heap.size + 1 = z := ⟨_, rfl⟩
            obtain ⟨g22, hg22⟩ : ∃ z, V3.heap.size = z := ⟨_, rfl⟩
            rw [hg23] at k23
            rw [hg22] at k22
            rw [hg23, hg22]
            replace k4 := k4.later la
            replace k19 := k19.later la
            replace k20 := k20.later la
            replace l0 := l0.trans la
            clear la hs hg23 hg22
            have d0 := k19.cell 0
            have d1 := k19.cell 1
            have d2 := k19.cell 2
            have d3 := k19.cell 3
            have d4 := k19.cell 4
            have d5 := k19.cell 5
            have d6 := k19.cell 6
            have d7 := k19.cell 7
            have p0 := k22.cell 0
            have p1 := k22.cell 1
            have p2 := k22.cell 2
            have p3 := k22.cell 3
            have p4 := k22.cell 4
            have p5 := k22.cell 5
            have p6 := k22.cell 6
            have p7 := k22.cell 7
            have c20 := k20.cell 0
            have c23 := k23.cell 0
            have hq := HB.q
            have hq8 := HB.q8
            have hnen : (en != en) = false := by simp
            clear HB HY HX
            go_wp2
            go_roundw
            case rel => exact ⟨j + 1, by omega, by go_num, k4, l0⟩
            case measure => simp [intOf]; omega
          · obtain rfl : j = 4 := by omega
            go_wp2
            go_ret
            exact ⟨rfl, l0⟩
end Go.Proofs.YtogkkhaepfablaaGreat

/- The row's last step where the world behind the call is later ('Lat'): what was there is as it was. -/
namespace Go.Proofs.YtogkkhaepfablaaGreat
open Go.ChangeShapes Go.WideShapes Go.ChangeAt Go.RowKit

section
variable {H : Type} {enc : TypeId × Value → H} {P : Program}
/-- The post of a row of a law without variables, whose call hands back results and leaves its arguments reading as before. -/
theorem post_later {f : Func} {s : ChangeSpec} {apart fresh handsOn again : Bool} {W W' : World} {args : Array Value} {v : Value} {ds gs : List (DataW H)} {before pa pv : List MemPlace}
    (hW : DataW.Whole enc P f.params.toList s.vars apart W args.toList ds gs before) (hps : before = pa ++ pv) (hb : Lat W W')
    (hres : ∀ (b : Nat) (sp : Nat → Bool) (hd : Bool), DataW.TrodAll enc P W' b sp hd f.resultTypes.toList (v.resultList f.resultTypes.size) (s.fn H (ds ++ gs)).results [])
    (hargs : ∀ sp : Nat → Bool, (∀ p ∈ before, sp p.block = true) → DataW.TrodAll enc P W' 0 sp true f.params.toList args.toList (s.fn H (ds ++ gs)).args pa)
    (hvars : ∀ sp : Nat → Bool, (∀ p ∈ before, sp p.block = true) → DataW.TrodVars enc P W' sp s.vars (s.fn H (ds ++ gs)).vars pv)
    (hok : ∀ (j : Nat) (t : TypeId) (r : Value), f.resultTypes[j]? = some t → (v.resultList f.resultTypes.size)[j]? = some r → Value.okWide P W' .any 0 t r) :
    s.post enc P f apart fresh handsOn again W args v W' := by
  have hB : Below W.heap.size W W' := hb
  have hlt := fun p hp => hW.lt p hp
  have hsp : ∀ p ∈ before, decide (p.block < W.heap.size) = true := fun p hp => decide_eq_true (hlt p hp)
  obtain ⟨h1, h2, h3, h4, h5, hz, hn⟩ := id hW
  have hno : ∀ b off, MemPlace.cell b off ∈ pa ++ pv → W'.frozen? ⟨b, off, none⟩ = false := fun b off hp => by
    have hin : MemPlace.cell b off ∈ before := hps ▸ hp
    rw [hB.frozen (hlt _ hin)]
    exact hz b off hin
  refine ⟨ds, gs, before, [], pa, pv, hW, hres _ _ _, hargs (fun b => decide (b < W.heap.size)) hsp, hvars (fun b => decide (b < W.heap.size)) hsp, World.keptBut_mono (fun p hp => ⟨hp, ?_⟩) (hB.frame (· ∈ before)), fun _ => ⟨hok, (s.fn H (ds ++ gs)).results ++ (s.fn H (ds ++ gs)).args, (s.fn H (ds ++ gs)).vars, pa ++ pv, ⟨pa, pv, ?_, hvars (fun _ => true) (fun _ _ => rfl), rfl, hno, ?_⟩, ?_⟩⟩
  · rw [hps] at hp
    exact .inr (List.mem_append.1 hp)
  · have := trodAll_append (hargs (fun _ => true) (fun _ _ => rfl)) (hres 0 (fun _ => true) true)
    simpa using this
  · intro ha
    have := hn ha
    rwa [hps] at this
  · intro p hp _
    rwa [hps]
end
end Go.Proofs.YtogkkhaepfablaaGreat

/- The frame of a law without variables that answers true and writes nothing that came in: the row's last step, whatever the arguments' types; slices and drafts opened. -/
namespace Go.Proofs.YtogkkhaepfablaaGreat
open Go.ChangeShapes Go.WideShapes Go.ChangeAt Go.RowKit

theorem kidsA : Kids Tryz.prog (· < Tryz.prog.types.size) := kids_rows (by kernel_rfl) (by kernel_rfl)
theorem fullA : ∀ t e, t < Tryz.prog.types.size → Tryz.prog.underlying t = some (.slice e) → 0 < Tryz.prog.cellsOf e := slices_full_of Tryz.prog (by kernel_rfl)

section
variable {H : Type} {enc : TypeId × Value → H} {P : Program} {T : TypeId → Prop} {w w' : World} {base : Nat} {spare : Nat → Bool} {held : Bool}
theorem trodAll_carry : ∀ {ts : List TypeId} {vs : List Value} {ds : List (DataW H)} {ps : List MemPlace}, DataW.TrodAll enc P w base spare held ts vs ds ps → (∀ p ∈ ps, w.sameAt w' p) → DataW.TrodAll enc P w' base spare held ts vs ds ps
  | [], [], [], _, h, _ => h
  | _ :: _, _ :: _, _ :: _, _, ⟨p, q, ⟨n, h1⟩, h2, e⟩, hs =>
    ⟨p, q, ⟨n, DataW.trod_carry n _ _ _ h1 (fun x hx => hs x (by rw [e]; exact List.mem_append_left _ hx))⟩, trodAll_carry h2 (fun x hx => hs x (by rw [e]; exact List.mem_append_right _ hx)), e⟩
theorem sameAt_later {W W' : World} (hl : Lat W W') : ∀ p : MemPlace, p.block < W.heap.size → W.sameAt W' p
  | .cell b off, h => World.cell?_of_block (a := ⟨b, off, none⟩) (Below.block hl b h)
  | .map b, h => Below.block hl b h

/-- The row's last step of a law that answers true. -/
theorem post_true (K : Kids P T) (hz : ∀ t e, T t → P.underlying t = some (.slice e) → 0 < P.cellsOf e) {f : Func} {s : ChangeSpec} {apart fresh handsOn again : Bool} {W W' : World} {args : Array Value} {ds gs : List (DataW H)} {before ps : List MemPlace} {tb : TypeId}
    (hT : ∀ t ∈ f.params.toList, T t) (hA : DataW.TrodAll enc P W 0 (fun _ => true) true f.params.toList args.toList ds ps) (hpb : before = ps)
    (hW : DataW.Whole enc P f.params.toList s.vars apart W args.toList ds gs before) (hl : Lat W W') (hv : s.vars = [])
    (hr : (s.fn H (ds ++ gs)).results = [.lit (.bool true)]) (ha : (s.fn H (ds ++ gs)).args = ds) (hx : (s.fn H (ds ++ gs)).vars = []) (ht : f.resultTypes = #[tb]) (hb : P.underlying tb = some .bool) :
    s.post enc P f apart fresh handsOn again W args (.bool true) W' := by
  subst hpb
  have hlt := hA.lt
  refine post_later (pa := before) (pv := []) hW (by simp) hl (fun b sp hd => ?_) (fun sp hsp => ?_) (fun sp _ => ?_) ?_
  · rw [hr, ht]
    exact trodAll_cons_mk (shut_bool hb true) trodAll_mk0
  · rw [ha]
    exact trodAll_carry (DataW.TrodAll.respare K hz hT hA hsp) (fun p hp => sameAt_later hl p (hlt p hp))
  · rw [hx, hv]
    rfl
  · exact ok_one ht rfl (okWide_bool_mk hb true)

/-- A slice of numbers that came in. -/
theorem open_slT {t e : TypeId} {k : IntKind} {fuel : Nat} {c : Value} {x : DataW H × List MemPlace} (ht : P.underlying t = some (.slice e)) (he : P.underlying e = some (.int k)) (hc : P.cellsOf e = 1)
    (hf : DataW.trod enc P w base spare held fuel t [c] = some x) :
    ∃ A n c' xs, c = .slice A n c' ∧ Sl w k A n xs ∧ n ≤ c' ∧ n ≤ 9223372036854775807 ∧ ∀ x ∈ xs, (Lit.int k x).wf = true := by
  rcases open_ints ht he hc hf with ⟨h1, _⟩ | ⟨a, len, cap, zs, h1, _, hlc, hcm, hz, _, hcell, hw⟩
  · simp only [List.cons.injEq, and_true] at h1
    subst h1
    exact ⟨none, 0, 0, [], rfl, Sl.nil _ _ _, Nat.le_refl _, by omega, fun x hx => by cases hx⟩
  · simp only [List.cons.injEq, and_true] at h1
    subst h1
    have hlz : len ≤ zs.length := by rw [hz]; split <;> omega
    refine ⟨some a, len, cap, zs.take len, rfl, ⟨by rw [List.length_take]; omega, fun hn => ⟨a, rfl, ?_, fun i x hx => ?_⟩⟩, hlc, by unfold maxLen at hcm; omega, fun x hx => hw x (List.mem_of_mem_take hx)⟩
    · have := World.block_lt_of_cell? _ _ (hcell 0 (by omega))
      rwa [block_add] at this
    · have hi : i < len := by
        have := (List.getElem?_eq_some_iff.1 hx).1
        rw [List.length_take] at this
        omega
      rw [hcell i (by omega)]
      rw [List.getElem?_take_of_lt hi] at hx
      rw [List.getD, hx]
      rfl
theorem open_sl {r : Reach} {b0 : Nat} {t e : TypeId} {k : IntKind} {v : Value} {d : DataW H} {ps : List MemPlace} (ht : P.underlying t = some (.slice e)) (he : P.underlying e = some (.int k)) (hc : P.cellsOf e = 1)
    (hval : Value.okWide P w r b0 t v) (h : DataW.Trod enc P w base spare held t v d ps) :
    ∃ A n c xs, v = .slice A n c ∧ Sl w k A n xs ∧ n ≤ c ∧ n ≤ 9223372036854775807 ∧ ∀ x ∈ xs, (Lit.int k x).wf = true := by
  obtain ⟨a0, len0, cap0, rfl⟩ := okWide_slice ht hval
  obtain ⟨fuel, hf⟩ := h
  exact open_slT ht he hc hf
end
end Go.Proofs.YtogkkhaepfablaaGreat

/- The frame: a state of chance that came in. -/
namespace Go.Proofs.YtogkkhaepfablaaGreat
open Go.ChangeShapes Go.WideShapes Go.ChangeAt Go.RowKit

theorem chanceCells : Tryz.prog.cellsOf 24 = 1 := by kernel_rfl
theorem cellU64 : Tryz.prog.cellsOf 22 = 1 := by kernel_rfl
theorem list_one {α : Type} (l : List α) (h : (⟨l⟩ : Array α).size = 1) : ∃ a, l = [a] := by
  match l, h with
  | [a], _ => exact ⟨a, rfl⟩
set_option maxRecDepth 100000 in
theorem open_chance {H : Type} {enc : TypeId × Value → H} {w : World} {base : Nat} {spare : Nat → Bool} {held : Bool} {r : Reach} {b0 : Nat} {v : Value} {d : DataW H} {ps : List MemPlace}
    (hval : Value.okWide Tryz.prog w r b0 24 v) (h : DataW.Trod enc Tryz.prog w base spare held 24 v d ps) : ∃ s : Int, v = .agg #[.int .u64 s] ∧ (Lit.int .u64 s).wf = true := by
  obtain ⟨cs, rfl, hsz⟩ := okWide_struct Tryz.underlying24 hval
  rw [chanceCells] at hsz
  obtain ⟨l⟩ := cs
  obtain ⟨c0, rfl⟩ := list_one l hsz
  obtain ⟨fuel, hf⟩ := h
  obtain ⟨y0, n, _, _, h0⟩ := trod_struct1 Tryz.underlying24 hf
  simp only [cellU64, Value.cells] at h0
  obtain ⟨s, e0, _, w0⟩ := DataW.trod_int Tryz.underlying22 h0
  simp at e0
  subst e0
  exact ⟨s, rfl, w0⟩
theorem wf_u64' {a : Int} (h : (Lit.int .u64 a).wf = true) : 0 ≤ a ∧ a < 18446744073709551616 := by
  have e1 : IntKind.u64.min = 0 := by decide
  have e2 : IntKind.u64.max = 18446744073709551615 := by decide
  simp [Lit.wf, e1, e2] at h
  omega
end Go.Proofs.YtogkkhaepfablaaGreat

/- The frame: drafts and wide numbers that came in. -/
namespace Go.Proofs.YtogkkhaepfablaaGreat
open Go.ChangeShapes Go.WideShapes Go.ChangeAt Go.RowKit Go.Joins

theorem wf_u8d {a : Int} (h : (Lit.int .u8 a).wf = true) : 0 ≤ a ∧ a < 256 := by
  have e1 : IntKind.u8.min = 0 := by decide
  have e2 : IntKind.u8.max = 255 := by decide
  simp [Lit.wf, e1, e2] at h
  omega
theorem wf_u16d {x : Int} (h : (Lit.int .u16 x).wf = true) : 0 ≤ x ∧ x ≤ 65535 := by
  have e3 : IntKind.u16.min = 0 := by decide
  have e4 : IntKind.u16.max = 65535 := by decide
  simp [Lit.wf, e3, e4] at h
  omega
theorem wf_u32d {a : Int} (h : (Lit.int .u32 a).wf = true) : 0 ≤ a ∧ a < 4294967296 := by
  have e1 : IntKind.u32.min = 0 := by decide
  have e2 : IntKind.u32.max = 4294967295 := by decide
  simp [Lit.wf, e1, e2] at h
  omega
theorem cellsD1 : Tryz.prog.cellsOf 30 = 3 := by kernel_rfl
theorem cellsD2 : Tryz.prog.cellsOf 44 = 6 := by kernel_rfl
theorem cellsB : Tryz.prog.cellsOf 4 = 1 := by kernel_rfl
theorem cellsS16 : Tryz.prog.cellsOf 27 = 1 := by kernel_rfl
theorem cells16d : Tryz.prog.cellsOf 46 = 1 := by kernel_rfl
theorem cells32d : Tryz.prog.cellsOf 28 = 1 := by kernel_rfl
theorem list_six {α : Type} (l : List α) (h : (⟨l⟩ : Array α).size = 6) : ∃ a b c d e f, l = [a, b, c, d, e, f] := by
  match l, h with
  | [a, b, c, d, e, f], _ => exact ⟨a, b, c, d, e, f, rfl⟩
theorem list_three {α : Type} (l : List α) (h : (⟨l⟩ : Array α).size = 3) : ∃ a b c, l = [a, b, c] := by
  match l, h with
  | [a, b, c], _ => exact ⟨a, b, c, rfl⟩
set_option maxRecDepth 100000 in
theorem trod_d1 {H : Type} {enc : TypeId × Value → H} {w : World} {base : Nat} {spare : Nat → Bool} {held : Bool} {fuel : Nat} {c0 c1 c2 : Value} {x : DataW H × List MemPlace}
    (h : DataW.trod enc Tryz.prog w base spare held fuel 30 [c0, c1, c2] = some x) : ∃ b A n c l, c0 = .bool b ∧ c1 = .slice A n c ∧ c2 = .int .u32 l ∧ DrIn w A n l := by
  obtain ⟨y0, y1, y2, n, _, _, h0, h1, h2⟩ := Go.Deep.trod_struct3 Tryz.underlying30 h
  simp only [cellsB, cellsS16, cells32d] at h0 h1 h2
  obtain ⟨b, e0, _⟩ := DataW.trod_bool Tryz.underlying4 h0
  obtain ⟨A, m, c, xs, e1, sl, _, _, wl⟩ := open_slT Tryz.underlying27 Tryz.underlying46 cells16d h1
  obtain ⟨l, e2, _, w2⟩ := DataW.trod_int Tryz.underlying28 h2
  simp at e0 e2
  exact ⟨b, A, m, c, l, e0, e1, e2, wf_u32d w2, xs, sl, fun x hx => wf_u16d (wl x hx)⟩
set_option maxRecDepth 100000 in
theorem open_draft2 {H : Type} {enc : TypeId × Value → H} {w : World} {base : Nat} {spare : Nat → Bool} {held : Bool} {r : Reach} {b0 : Nat} {v : Value} {d : DataW H} {ps : List MemPlace}
    (hval : Value.okWide Tryz.prog w r b0 44 v) (h : DataW.Trod enc Tryz.prog w base spare held 44 v d ps) :
    ∃ b1 A1 n1 c1 l1 b2 A2 n2 c2 l2, v = .agg #[.bool b1, .slice A1 n1 c1, .int .u32 l1, .bool b2, .slice A2 n2 c2, .int .u32 l2] ∧ DrIn w A1 n1 l1 ∧ DrIn w A2 n2 l2 := by
  obtain ⟨cs, rfl, hsz⟩ := okWide_struct Tryz.underlying44 hval
  rw [cellsD2] at hsz
  obtain ⟨l⟩ := cs
  obtain ⟨a, b, c, d, e, f, rfl⟩ := list_six l hsz
  obtain ⟨fuel, hf⟩ := h
  obtain ⟨y0, y1, n, _, _, h0, h1⟩ := trod_struct2 Tryz.underlying44 hf
  simp only [cellsD1, Value.cells] at h0 h1
  obtain ⟨b1, A1, n1, c1, l1, rfl, rfl, rfl, d1⟩ := trod_d1 h0
  obtain ⟨b2, A2, n2, c2, l2, rfl, rfl, rfl, d2⟩ := trod_d1 h1
  exact ⟨b1, A1, n1, c1, l1, b2, A2, n2, c2, l2, rfl, d1, d2⟩

theorem trod_eight {H : Type} {enc : TypeId × Value → H} {P : Program} {w : World} {base : Nat} {spare : Nat → Bool} {held : Bool} {t e : TypeId} {fuel : Nat} {c0 c1 c2 c3 c4 c5 c6 c7 : Value} {x : DataW H × List MemPlace} (ht : P.underlying t = some (.array 8 e)) (hce : P.cellsOf e = 1)
    (h : DataW.trod enc P w base spare held fuel t [c0, c1, c2, c3, c4, c5, c6, c7] = some x) :
    ∃ n y0 y1 y2 y3 y4 y5 y6 y7, DataW.trod enc P w base spare held n e [c0] = some y0 ∧ DataW.trod enc P w base spare held n e [c1] = some y1 ∧ DataW.trod enc P w base spare held n e [c2] = some y2 ∧ DataW.trod enc P w base spare held n e [c3] = some y3 ∧ DataW.trod enc P w base spare held n e [c4] = some y4 ∧ DataW.trod enc P w base spare held n e [c5] = some y5 ∧ DataW.trod enc P w base spare held n e [c6] = some y6 ∧ DataW.trod enc P w base spare held n e [c7] = some y7 := by
  cases fuel with
  | zero => simp [DataW.trod] at h
  | succ n =>
    unfold DataW.trod at h
    rw [ht] at h
    have r8 : List.range 8 = [0, 1, 2, 3, 4, 5, 6, 7] := rfl
    simp [r8, hce] at h
    obtain ⟨_, h⟩ := h
    rcases h0 : DataW.trod enc P w base spare held n e [c0] with _ | y0
    · simp [h0] at h
    rcases h1 : DataW.trod enc P w base spare held n e [c1] with _ | y1
    · simp [h0, h1] at h
    rcases h2 : DataW.trod enc P w base spare held n e [c2] with _ | y2
    · simp [h0, h1, h2] at h
    rcases h3 : DataW.trod enc P w base spare held n e [c3] with _ | y3
    · simp [h0, h1, h2, h3] at h
    rcases h4 : DataW.trod enc P w base spare held n e [c4] with _ | y4
    · simp [h0, h1, h2, h3, h4] at h
    rcases h5 : DataW.trod enc P w base spare held n e [c5] with _ | y5
    · simp [h0, h1, h2, h3, h4, h5] at h
    rcases h6 : DataW.trod enc P w base spare held n e [c6] with _ | y6
    · simp [h0, h1, h2, h3, h4, h5, h6] at h
    rcases h7 : DataW.trod enc P w base spare held n e [c7] with _ | y7
    · simp [h0, h1, h2, h3, h4, h5, h6, h7] at h
    exact ⟨n, y0, y1, y2, y3, y4, y5, y6, y7, h0, h1, h2, h3, h4, h5, h6, h7⟩
theorem cellsW8 : Tryz.prog.cellsOf 26 = 8 := by kernel_rfl
theorem cellsU64 : Tryz.prog.cellsOf 22 = 1 := by kernel_rfl
theorem list_eight {α : Type} (l : List α) (h : (⟨l⟩ : Array α).size = 8) : ∃ a b c d e f g i, l = [a, b, c, d, e, f, g, i] := by
  match l, h with
  | [a, b, c, d, e, f, g, i], _ => exact ⟨a, b, c, d, e, f, g, i, rfl⟩
theorem wf_u64d {a : Int} (h : (Lit.int .u64 a).wf = true) : 0 ≤ a ∧ a < W64 := by
  have e1 : IntKind.u64.min = 0 := by decide
  have e2 : IntKind.u64.max = 18446744073709551615 := by decide
  simp [Lit.wf, e1, e2] at h
  unfold W64
  omega
set_option maxRecDepth 100000 in
theorem open_wide {H : Type} {enc : TypeId × Value → H} {w : World} {base : Nat} {spare : Nat → Bool} {held : Bool} {r : Reach} {b0 : Nat} {v : Value} {d : DataW H} {ps : List MemPlace}
    (hval : Value.okWide Tryz.prog w r b0 26 v) (h : DataW.Trod enc Tryz.prog w base spare held 26 v d ps) : ∃ u : W8, v = .agg #[.int .u64 u.a0, .int .u64 u.a1, .int .u64 u.a2, .int .u64 u.a3, .int .u64 u.a4, .int .u64 u.a5, .int .u64 u.a6, .int .u64 u.a7] ∧ u.ok := by
  obtain ⟨cs, rfl, hsz, _⟩ : ∃ cs, v = .agg cs ∧ cs.size = Tryz.prog.cellsOf 26 ∧ Row.okWide Tryz.prog w r b0 26 cs := by
    simpa [Value.okWide, Tryz.underlying26] using hval
  rw [cellsW8] at hsz
  obtain ⟨l⟩ := cs
  obtain ⟨c0, c1, c2, c3, c4, c5, c6, c7, rfl⟩ := list_eight l hsz
  obtain ⟨fuel, hf⟩ := h
  obtain ⟨m, y0, y1, y2, y3, y4, y5, y6, y7, h0, h1, h2, h3, h4, h5, h6, h7⟩ := trod_eight Tryz.underlying26 cellsU64 hf
  obtain ⟨x0, e0, _, w0⟩ := DataW.trod_int Tryz.underlying22 h0
  obtain ⟨x1, e1, _, w1⟩ := DataW.trod_int Tryz.underlying22 h1
  obtain ⟨x2, e2, _, w2⟩ := DataW.trod_int Tryz.underlying22 h2
  obtain ⟨x3, e3, _, w3⟩ := DataW.trod_int Tryz.underlying22 h3
  obtain ⟨x4, e4, _, w4⟩ := DataW.trod_int Tryz.underlying22 h4
  obtain ⟨x5, e5, _, w5⟩ := DataW.trod_int Tryz.underlying22 h5
  obtain ⟨x6, e6, _, w6⟩ := DataW.trod_int Tryz.underlying22 h6
  obtain ⟨x7, e7, _, w7⟩ := DataW.trod_int Tryz.underlying22 h7
  simp at e0 e1 e2 e3 e4 e5 e6 e7
  subst e0 e1 e2 e3 e4 e5 e6 e7
  refine ⟨⟨x0, x1, x2, x3, x4, x5, x6, x7⟩, rfl, ?_⟩
  intro y hy
  simp only [W8.list, List.mem_cons, List.not_mem_nil, or_false] at hy
  rcases hy with rfl | rfl | rfl | rfl | rfl | rfl | rfl | rfl
  · exact wf_u64d w0
  · exact wf_u64d w1
  · exact wf_u64d w2
  · exact wf_u64d w3
  · exact wf_u64d w4
  · exact wf_u64d w5
  · exact wf_u64d w6
  · exact wf_u64d w7
set_option maxRecDepth 100000 in
theorem open_draft1 {H : Type} {enc : TypeId × Value → H} {w : World} {base : Nat} {spare : Nat → Bool} {held : Bool} {r : Reach} {b0 : Nat} {v : Value} {d : DataW H} {ps : List MemPlace}
    (hval : Value.okWide Tryz.prog w r b0 30 v) (h : DataW.Trod enc Tryz.prog w base spare held 30 v d ps) :
    ∃ b1 A1 n1 c1 l1, v = .agg #[.bool b1, .slice A1 n1 c1, .int .u32 l1] ∧ DrIn w A1 n1 l1 := by
  obtain ⟨cs, rfl, hsz⟩ := okWide_struct Tryz.underlying30 hval
  rw [cellsD1] at hsz
  obtain ⟨l⟩ := cs
  obtain ⟨a, b, c, rfl⟩ := list_three l hsz
  obtain ⟨fuel, hf⟩ := h
  obtain ⟨b1, A1, n1, c1, l1, rfl, rfl, rfl, d1⟩ := trod_d1 hf
  exact ⟨b1, A1, n1, c1, l1, rfl, d1⟩
end Go.Proofs.YtogkkhaepfablaaGreat

/- Chance: the law of Below and Wide, joined. -/
namespace Go.Proofs.YtogkkhaepfablaaGreat
open Go.RowKit

theorem cBelowLaw_any (s n : Int) (u0 : W8) (b : Bool) (A : Option Addr) (nn c : Nat) (l : Int) (w : World) (h0 : 0 ≤ s ∧ s < 18446744073709551616) (hn : (Lit.int .i64 n).wf = true) (hu : u0.ok) (hd : DrIn w A nn l) :
    Calls Tryz.prog 3 #[.agg #[.int .u64 s], .int .i64 n, .agg #[.int .u64 u0.a0, .int .u64 u0.a1, .int .u64 u0.a2, .int .u64 u0.a3, .int .u64 u0.a4, .int .u64 u0.a5, .int .u64 u0.a6, .int .u64 u0.a7], .agg #[.bool b, .slice A nn c, .int .u32 l]] w (fun e w' => e = .returned (.bool true) ∧ Lat w w') := by
  obtain ⟨s, rfl⟩ := Int.eq_ofNat_of_zero_le h0.1
  have hs : s < 18446744073709551616 := Int.ofNat_lt.1 h0.2
  exact cBelowLaw_from works_any s n u0 b A nn c l w hd hu (fun x hx => bwI s hs x (wf_i64b hx).2) (fun x hx => bwW s hs x hx) hn
end Go.Proofs.YtogkkhaepfablaaGreat
