/- Several texts in one: CnA, CsA, RgD, RgE, RgF, ClA, RnA, RnB, RgG, CsB. -/
import Derived.Test.YtogkkhaepfablaaChC
import Derived.Test.YtogkkhaepfablaaChV
import Derived.Test.YtogkkhaepfablaaJ19
import Derived.Test.YtogkkhaepfablaaChP
import Derived.Deep.DeepCutAuto
import Derived.Test.YtogkkhaepfablaaJ20
import Derived.Test.YtogkkhaepfablaaJ21
import Derived.Test.YtogkkhaepfablaaRgA
import Derived.Test.YtogkkhaepfablaaChF
import Derived.Test.YtogkkhaepfablaaJ16
import Derived.Test.YtogkkhaepfablaaJ03
import Derived.Test.YtogkkhaepfablaaJ17
import Derived.BigRegion

/- Chance: the reference's next number, and another state by a label. -/
namespace Go.Proofs.Ytogkkhaepfablaa
open Go.RowKit
set_option linter.unusedSimpArgs false

/-- The facts of one number, as the reference's walk needs them. -/
structure MixR (s a b c x : Nat) : Prop where
  e0 : IntKind.u64.wrap ((s : Int) + 11400714819323198485) = (a : Int)
  e1 : ∃ y : Int, IntKind.u64.wrap ((a : Int) / 1073741824) = y ∧ IntKind.u64.wrap (bits .xor .u64 (a : Int) y * 13787848793156543929) = (b : Int)
  e2 : ∃ y : Int, IntKind.u64.wrap ((b : Int) / 134217728) = y ∧ IntKind.u64.wrap (bits .xor .u64 (b : Int) y * 10723151780598845931) = (c : Int)
  e3 : ∃ y : Int, IntKind.u64.wrap ((c : Int) / 2147483648) = y ∧ bits .xor .u64 (c : Int) y = (x : Int)
theorem mixR (s : Nat) (hs : s < 18446744073709551616) : MixR s (chStep s) (chM1 (chStep s)) (chM2 (chM1 (chStep s))) (chMix (chStep s)) := by
  obtain ⟨h0, h1, h2, h3⟩ := mixF s hs
  have b1 := chStep_lt s
  have b2 := chM1_lt (chStep s)
  have b3 := chM2_lt (chM1 (chStep s))
  exact ⟨h0, ⟨_, by rw [IntKind.wrap_u64]; exact Int.emod_eq_of_lt (by omega) (by omega), h1⟩, ⟨_, by rw [IntKind.wrap_u64]; exact Int.emod_eq_of_lt (by omega) (by omega), h2⟩, ⟨_, by rw [IntKind.wrap_u64]; exact Int.emod_eq_of_lt (by omega) (by omega), h3⟩⟩

set_option maxRecDepth 100000 in
set_option maxHeartbeats 1000000 in
theorem rNext_in (s a b c x : Nat) (F : MixR s a b c x) (w : World) :
    Calls Try.prog 15 #[.agg #[.int .u64 s]] w (fun e w' => e = .returned (.tuple #[.int .u64 (x : Nat), .agg #[.int .u64 (a : Nat)]]) ∧ Lat w w') := by
  obtain ⟨e0, ⟨y1, f1, e1⟩, ⟨y2, f2, e2⟩, ⟨y3, f3', e3⟩⟩ := F
  go_enter Try.func15, Try.ntmps15
  go_upto_region 1 with (fail)
  refine name2 (Q := fun W => Code.wp _ _ _ _ W) ?_
  intro W1 l1 hs1 k1 k3
  have c1 : W1.cell? ⟨w.heap.size, 0, none⟩ = some (.int .u64 (s : Int)) := k1.cell 0
  have f3 := k3.frozen 0
  have h3 := k3.lt
  have d3 : W1.cell? ⟨w.heap.size + 1, 0, none⟩ = some (.int .u64 0) := k3.cell 0
  go_wp2
  refine name_set (Q := fun W => bodyPost _ _ _ _ _ W) k3 ?_
  intro W2 k5 g1 g2 g3
  have L2 := g3.narrow l1 (by omega)
  have g0 : W2.cell? ⟨w.heap.size + 1, 0, none⟩ = some (.int .u64 (a : Int)) := k5.cell 0
  refine bodyPost_ret (v := .tuple #[.int .u64 (x : Int), .agg #[.int .u64 (a : Int)]]) (by simp [results, Try.results15, go_sem, g0]) rfl ?_
  exact ⟨rfl, L2⟩
def RxC (s x t : Nat) : Prop := ∀ w : World, Calls Try.prog 15 #[.agg #[.int .u64 s]] w (fun e w' => e = .returned (.tuple #[.int .u64 (x : Nat), .agg #[.int .u64 (t : Nat)]]) ∧ Lat w w')
theorem rxC (s : Nat) (hs : s < 18446744073709551616) : RxC s (chMix (chStep s)) (chStep s) := fun w => rNext_in s _ _ _ _ (mixR s hs) w

set_option maxRecDepth 100000 in
set_option maxHeartbeats 1000000 in
theorem rSplit_in (c a x1 t1 b x2 t2 : Nat) (label : Int) (hw : IntKind.u64.wrap label = (a : Int)) (hx : bits .xor .u64 (c : Int) (x1 : Int) = (b : Int)) (H1 : RxC a x1 t1) (H2 : RxC b x2 t2) (w : World) :
    Calls Try.prog 17 #[.agg #[.int .u64 c], .int .i64 label] w (fun e w' => e = .returned (.agg #[.int .u64 (x2 : Nat)]) ∧ Lat w w') := by
  go_enter Try.func17, Try.ntmps17
  go_wp2_with fail
  refine name2 (Q := fun W => Calls _ _ _ W _) ?_
  intro W1 l1 hs1 k1 k2
  refine (H1 W1).mono ?_
  rintro e W2 ⟨rfl, l2⟩
  have k1 := k1.later l2
  have k2 := k2.later l2
  have L2 := l1.trans l2
  have hs2 := l2.size
  clear l1 l2
  have c0 : W2.cell? ⟨w.heap.size, 0, none⟩ = some (.int .u64 (c : Int)) := k1.cell 0
  have d0 : W2.cell? ⟨w.heap.size + 1, 0, none⟩ = some (.int .u64 0) := k2.cell 0
  have e0 := k2.frozen 0
  have lt1 := k1.lt
  have lt2 := k2.lt
  clear k1 hs1
  go_wp2_with fail
  refine name1 (Q := fun W => Calls _ _ _ W _) ?_
  intro W3 l3 hs3 k3
  refine (H2 W3).mono ?_
  rintro e W4 ⟨rfl, l4⟩
  have k2 := k2.later (l3.trans l4)
  have L4 := L2.trans (l3.trans l4)
  clear c0 d0 e0 lt1 lt2 l3 l4 hs3 k3 L2 hs2
  have d0 : W4.cell? ⟨w.heap.size + 1, 0, none⟩ = some (.int .u64 0) := k2.cell 0
  have e0 := k2.frozen 0
  have lt2 := k2.lt
  go_wp2
  refine name_set (Q := fun W => bodyPost _ _ _ _ _ (W.alloc _)) k2 ?_
  intro W5 k5 h1 h2 h3
  have L5 := h3.narrow L4 (by omega)
  clear h3 h2 h1
  refine name1 (Q := fun W => bodyPost _ _ _ _ _ W) ?_
  intro W6 l6 hs6 k6
  have g0 : W6.cell? ⟨w.heap.size + 1, 0, none⟩ = some (.int .u64 (x2 : Int)) := (k5.later l6).cell 0
  refine bodyPost_ret (v := .agg #[.int .u64 (x2 : Int)]) (by simp [results, Try.results17, go_sem, g0]) rfl ?_
  exact ⟨rfl, L5.trans l6⟩
theorem rSplit_any (s : Nat) (hs : s < 18446744073709551616) (label : Int) (w : World) :
    Calls Try.prog 17 #[.agg #[.int .u64 s], .int .i64 label] w (fun e w' => e = .returned (.agg #[.int .u64 (chSplit s (label % 18446744073709551616).toNat : Nat)]) ∧ Lat w w') := by
  obtain ⟨a, ha⟩ := Int.eq_ofNat_of_zero_le (Int.emod_nonneg label (show (18446744073709551616 : Int) ≠ 0 by decide))
  have ha2 : a < 18446744073709551616 := by have := Int.emod_lt_of_pos label (show (0 : Int) < 18446744073709551616 by decide); omega
  rw [ha, Int.toNat_natCast]
  have hx := chMix_lt (chStep a)
  exact rSplit_in s a _ _ _ _ _ label (by rw [IntKind.wrap_u64, ha]) (bits_xor_u64_nat _ _ hs hx) (rxC a ha2) (rxC _ (Nat.xor_lt_two_pow (n := 64) hs hx)) w
end Go.Proofs.Ytogkkhaepfablaa

/- Chance: a shuffled list: what it is. -/
namespace Go.Proofs.Ytogkkhaepfablaa
open Go.RowKit

/-- The first k places hold their own number, the others 0. -/
def fillTo (n k : Nat) : List Int := (List.range n).map (fun j => if j < k then (j : Int) else 0)
def idL (n : Nat) : List Int := fillTo n n
theorem fillTo_len (n k : Nat) : (fillTo n k).length = n := by unfold fillTo; rw [List.length_map, List.length_range]
theorem fillTo_get (n k j : Nat) : (fillTo n k)[j]? = if j < n then some (if j < k then (j : Int) else 0) else none := by
  unfold fillTo
  rw [List.getElem?_map]
  by_cases h : j < n
  · rw [List.getElem?_range h, if_pos h]; rfl
  · rw [List.getElem?_eq_none (by rw [List.length_range]; omega), if_neg h]; rfl
theorem fillTo_zero (n : Nat) : fillTo n 0 = List.replicate n 0 := by
  apply List.ext_getElem?
  intro j
  rw [fillTo_get, List.getElem?_replicate]
  simp
theorem fillTo_set {n k : Nat} (h : k < n) : (fillTo n k).set k (k : Int) = fillTo n (k + 1) := by
  apply List.ext_getElem?
  intro j
  rw [List.getElem?_set, fillTo_get, fillTo_get, fillTo_len]
  by_cases hj : k = j
  · subst hj
    simp [h]
  · rw [if_neg hj]
    by_cases h1 : j < n
    · rw [if_pos h1, if_pos h1]
      by_cases h2 : j < k
      · rw [if_pos h2, if_pos (by omega)]
      · rw [if_neg h2, if_neg (by omega)]
    · rw [if_neg h1, if_neg h1]
theorem int_succ (k : Nat) : Value.int .i64 ((k : Int) + 1) = .int .i64 ((k + 1 : Nat) : Int) := by simp
theorem meas_up {b k : Nat} (h : k < b) : b - (intOf (.int .i64 ((k : Int) + 1))).toNat < b - (intOf (.int .i64 (k : Int))).toNat := by
  show b - ((k : Int) + 1).toNat < b - ((k : Int)).toNat
  omega
/-- Two places exchanged. -/
def swapL (l : List Int) (i j : Nat) : List Int := (l.set i ((l[j]?).getD 0)).set j ((l[i]?).getD 0)
theorem swapL_len (l : List Int) (i j : Nat) : (swapL l i j).length = l.length := by unfold swapL; rw [List.length_set, List.length_set]
/-- The places k down to 1 are exchanged with drawn ones. -/
def shufGo : Nat → List Int → Nat → Option (List Int × Nat)
  | 0, l, s => some (l, s)
  | k + 1, l, s => (chBel s (k + 2)).bind (fun p => shufGo k (swapL l (k + 1) (p.1 % (k + 2))) p.2)
theorem shufGo_none {k s : Nat} {l : List Int} (h : chBel s (k + 2) = none) : shufGo (k + 1) l s = none := by rw [shufGo, h]; rfl
theorem shufGo_some {k s : Nat} {l : List Int} {p : Nat × Nat} (h : chBel s (k + 2) = some p) : shufGo (k + 1) l s = shufGo k (swapL l (k + 1) (p.1 % (k + 2))) p.2 := by rw [shufGo, h]; rfl
theorem shufGo_no {i m s : Nat} {l : List Int} (hi : 1 ≤ i) (hm : m = i + 1) (h : chBel s m = none) : shufGo i l s = none := by
  obtain ⟨k, rfl⟩ : ∃ k, i = k + 1 := ⟨i - 1, by omega⟩
  subst hm
  exact shufGo_none h
theorem shufGo_yes {i m s : Nat} {l : List Int} {p : Nat × Nat} (hi : 1 ≤ i) (hm : m = i + 1) (h : chBel s m = some p) : shufGo i l s = shufGo (i - 1) (swapL l i (p.1 % m)) p.2 := by
  obtain ⟨k, rfl⟩ : ∃ k, i = k + 1 := ⟨i - 1, by omega⟩
  subst hm
  exact shufGo_some h
theorem chTry_lt {ok : Nat → Bool} : ∀ {f s : Nat} {p : Nat × Nat}, chTry chNext ok f s = some p → p.2 < 18446744073709551616
  | 0, s, p, h => by rw [chTry] at h; exact absurd h (by simp)
  | f + 1, s, p, h => by
    rw [chTry] at h
    by_cases hk : ok (chNext s).1 = true
    · rw [if_pos hk, Option.some.injEq] at h
      rw [← h, next_snd]
      exact chStep_lt s
    · rw [if_neg hk] at h; exact chTry_lt h
theorem chBel_lt {s n : Nat} {p : Nat × Nat} (h : chBel s n = some p) : p.2 < 18446744073709551616 := chTry_lt h
/-- What Shuffle returns for a number of places that is in order. -/
def shufOpt (s n : Nat) : Option (List Int × Nat) := shufGo (n - 1) (idL n) s
def optL : Option (List Int × Nat) → List Int
  | some p => p.1
  | none => []
def shufV (s : Nat) (n : Int) : List Int := if n < 0 ∨ 400 < n then [] else optL (shufOpt s n.toNat)
def shufS (s : Nat) (n : Int) : Nat := if n < 0 ∨ 400 < n then 0 else optT 0 (shufOpt s n.toNat)
def shufE (s : Nat) (n : Int) : Int := if n < 0 ∨ 400 < n then 2 else optE (shufOpt s n.toNat)
end Go.Proofs.Ytogkkhaepfablaa

/- Chance: the reference's powers. -/
namespace Go.Proofs.Ytogkkhaepfablaa
open Go.RowKit
set_option linter.unusedSimpArgs false

theorem rg_succ (k : Nat) : Value.int .i64 ((k : Int) + 1) = .int .i64 ((k + 1 : Nat) : Int) := by simp
theorem rg_up {b k : Nat} (h : k < b) : b - (intOf (.int .i64 ((k : Int) + 1))).toNat < b - (intOf (.int .i64 (k : Int))).toNat := by
  show b - ((k : Int) + 1).toNat < b - ((k : Int)).toNat
  omega
/-- A number goes on where one block that holds no int is written. -/
theorem Rg.keepL {w W : World} {b : Bool} {A : Option Addr} {n c : Nat} {z : Int} {g : Nat} {t : TypeId} {cs : Array Value} (h : Rg w b A n c z) (hl : LatP (· = g) w W) (hb : Blk w g t cs) (hno : ∀ (j : Nat) (x : Int), cs[j]? ≠ some (.int .i64 x)) : Rg W b A n c z := by
  have ha := h.apart hb hno
  obtain ⟨hn, xs, hs, r⟩ := h
  refine ⟨hn, xs, ⟨hs.1, fun hp => ?_⟩, r⟩
  obtain ⟨a, e, hlt, hc⟩ := hs.2 hp
  refine ⟨a, e, Nat.lt_of_lt_of_le hlt hl.size, fun i x hx => ?_⟩
  have hk : W.heap[(a.add i).block]? = w.heap[(a.add i).block]? := by rw [block_add]; exact hl.block _ hlt (ha hp a e)
  exact (World.cell?_of_block hk).trans (hc i x hx)
/-- A number written over another one: the world under a name. -/
theorem name_long {w : World} {g : Nat} {t : TypeId} {b0 b' : Bool} {A0 A' : Option Addr} {n0 c0 n' c' : Nat} {Q : World → Prop} (hb : Blk w g t #[.bool b0, .slice A0 n0 c0])
    (h : ∀ W, Blk W g t #[.bool b', .slice A' n' c'] → LatP (· = g) w W → (∀ {b A n c z}, Rg w b A n c z → Rg W b A n c z) → Q W) :
    Q ((w.setCell ⟨g, 0, none⟩ (.bool b')).setCell ⟨g, 1, none⟩ (.slice A' n' c')) := by
  refine h _ ?_ ?_ ?_
  · have := (hb.set 0 (.bool b')).set 1 (.slice A' n' c')
    simpa using this
  · exact LatP.setCells [.bool b', .slice A' n' c'] w 0
  · intro b A n c z hr
    have ha := hr.apart hb (no_i64 _ _ _ _)
    exact (hr.far (p := ⟨g, 0, none⟩) ha _).far (p := ⟨g, 1, none⟩) ha _

set_option maxRecDepth 100000 in
set_option maxHeartbeats 1000000 in
theorem rRaised_any (b1 : Bool) (A1 : Option Addr) (n1 c1 : Nat) (x : Int) (k : Nat) (w : World) (h1 : Rg w b1 A1 n1 c1 x) (hn : n1 ≤ 2) (hk : k ≤ 1000) :
    Calls Try.prog 46 #[.agg #[.bool b1, .slice A1 n1 c1], .int .i64 k] w (RefPost w (x ^ k) (2 + 2 * k)) := by
  go_enter Try.func46, Try.ntmps46
  go_upto_region 1 with (fail)
  refine name2 (Q := fun W => Code.wp _ _ _ _ W) ?_
  intro W hl hs k2 k4
  go_wp2_with fail
  refine (rLong1_any 1 W (by decide) (by decide)).mono ?_
  rintro e w1 ⟨b, A, n, c, rfl, r1, r2, l1⟩
  replace k2 := k2.later l1
  replace k4 := k4.later l1
  have L1 := hl.trans l1
  have R1 := h1.later L1
  have h4 := k4.lt
  clear h1 hl l1 hs
  go_upto_region 2 with (fail)
  refine name1 (Q := fun W => Code.wp _ _ _ _ W) ?_
  intro w2 l2 hs2 k5
  replace k2 := k2.later l2
  replace k4 := k4.later l2
  have L2 := L1.trans l2
  have R2 := R1.later l2
  replace r1 := r1.later l2
  obtain ⟨g5, hg5⟩ : ∃ z, w1.heap.size = z := ⟨_, rfl⟩
  rw [hg5] at k5 h4 ⊢
  obtain ⟨g4, hg4⟩ : ∃ z, w.heap.size + 1 = z := ⟨_, rfl⟩
  rw [hg4] at k4 h4 ⊢
  have hw4 : w.heap.size ≤ g4 := by omega
  clear hg5 hg4 L1 R1 l2 hs2
  go_wp2_with fail
  go_loopw [6] (fun i wr => ∃ (j : Nat) (b : Bool) (A : Option Addr) (n c : Nat), i = .int .i64 j ∧ j ≤ k ∧ Rg wr b A n c (x ^ j) ∧ n ≤ 2 + 2 * j ∧ Rg wr b1 A1 n1 c1 x ∧ Blk wr w.heap.size 91 #[.bool b1, .slice A1 n1 c1] ∧ Blk wr g4 91 #[.bool false, .slice none 0 0] ∧ Blk wr g5 91 #[.bool b, .slice A n c] ∧ Lat w wr) (fun i _ => k - (intOf i).toNat)
  case atStart => exact ⟨0, b, A, n, c, rfl, by omega, by rw [Int.pow_zero]; exact r1, by omega, R2, k2, k4, k5, L2⟩
  case round =>
    clear r1 r2 k2 k4 k5 L2 R2
    obtain ⟨j, b, A, n, c, rfl, hj, r1, r2, R2, k2, k4, k5, L2⟩ := hrel
    by_cases hjk : j < k
    · have hjI : (j : Int) < (k : Int) := by omega
      have d0 := k2.cell 0
      have d1 := k2.cell 1
      have e0 := k5.cell 0
      have e1 := k5.cell 1
      go_wp2_with fail
      refine (rTimes_any b A n c (x ^ j) b1 A1 n1 c1 x wr r1 R2 (by omega) (by omega)).mono ?_
      rintro e w3 ⟨b', A', n', c', rfl, q1, q2, l3⟩
      replace k2 := k2.later l3
      replace k4 := k4.later l3
      replace k5 := k5.later l3
      have L3 := L2.trans l3
      have R3 := R2.later l3
      clear d0 d1 e0 e1 r1 R2 l3
      have e0 := k5.cell 0
      have e1 := k5.cell 1
      have f0 := k5.frozen 0
      have f1 := k5.frozen 1
      have hlt := k5.lt
      have hlt4 := k4.lt
      go_upto_region 4 with (fail)
      refine name_long (Q := fun W => Code.wp _ _ _ _ W) k5 ?_
      intro w4 j5 l4 hr4
      have j2 := k2.keepP l4 (by omega)
      have j4 := k4.keepP l4 (by omega)
      have L4 := l4.narrow L3 (by omega)
      go_wp2
      exact ⟨⟨j + 1, b', A', n', c', rg_succ j, hjk, by rw [Int.pow_succ]; exact hr4 q1, by omega, hr4 R3, j2, j4, j5, L4⟩, rg_up hjk⟩
    · obtain rfl : j = k := by omega
      have e0 := k5.cell 0
      have e1 := k5.cell 1
      have f0 := k4.frozen 0
      have f1 := k4.frozen 1
      have d0 := k4.cell 0
      have d1 := k4.cell 1
      have hlt := k4.lt
      go_wp2
      refine name_long (Q := fun W => bodyPost _ _ _ _ _ W) k4 ?_
      intro w4 j4 l4 hr4
      have c0 := j4.cell 0
      have c1 := j4.cell 1
      refine bodyPost_ret (v := .agg #[.bool b, .slice A n c]) (by simp [results, Try.results46, go_sem, c0, c1]) rfl ?_
      exact ⟨b, A, n, c, rfl, hr4 r1, r2, l4.narrow L2 hw4⟩
end Go.Proofs.Ytogkkhaepfablaa

/- Chance: the reference's Below. -/
namespace Go.Proofs.Ytogkkhaepfablaa
open Go.RowKit
set_option linter.unusedSimpArgs false

def one64 (x : Nat) : W8 := ⟨x, 0, 0, 0, 0, 0, 0, 0⟩
theorem one64_ok {x : Nat} (h : x < 18446744073709551616) : (one64 x).ok := by
  intro y hy
  simp only [one64, W8.list, List.mem_cons, List.not_mem_nil, or_false] at hy
  have : (0 : Int) < W64 := W64_pos
  unfold W64 at *
  rcases hy with rfl | rfl | rfl | rfl | rfl | rfl | rfl | rfl <;> omega
theorem one64_int {x : Nat} (_h : x < 18446744073709551616) : (one64 x).toInt = x := by
  unfold W8.toInt
  rw [if_pos (by simp [one64]), W8.mag_eq]
  simp [one64]
set_option maxRecDepth 100000 in
set_option maxHeartbeats 1000000 in
theorem words64_any (x : Nat) (hx : x < 18446744073709551616) (w : World) : Calls Try.prog 50 #[.int .u64 (x : Nat)] w (RefPost w x 17) := by
  have HI := fun w => rIn_any (one64 x) (one64_ok hx) w
  rw [one64_int hx] at HI
  go_enter Try.func50, Try.ntmps50
  go_upto_region 1 with (fail)
  refine name1 (Q := fun W => Code.wp _ _ _ _ W) ?_
  intro W hl hs k2
  go_wp2_with fail
  refine (HI W).mono ?_
  rintro e w1 ⟨b, A, n, c, rfl, r1, r2, l1⟩
  replace k2 := k2.later l1
  have L1 := hl.trans l1
  have d0 := k2.cell 0
  have d1 := k2.cell 1
  have f0 := k2.frozen 0
  have f1 := k2.frozen 1
  have hlt := k2.lt
  go_wp2
  refine name_long (Q := fun W => bodyPost _ _ _ _ _ W) k2 ?_
  intro w4 j4 l4 hr4
  have c0 := j4.cell 0
  have c1 := j4.cell 1
  refine bodyPost_ret (v := .agg #[.bool b, .slice A n c]) (by simp [results, Try.results50, go_sem, c0, c1]) rfl ?_
  exact ⟨b, A, n, c, rfl, hr4 r1, r2, l4.narrow L1 (Nat.le_refl _)⟩

theorem no_i64u (s : Int) : ∀ (j : Nat) (x : Int), (#[.int .u64 s] : Array Value)[j]? ≠ some (.int .i64 x) := by
  intro j x
  match j with
  | 0 => simp
  | j + 1 => simp
set_option maxRecDepth 100000 in
set_option maxHeartbeats 1000000 in
theorem rBelow_low (s : Nat) (n : Int) (h : n < 1) (w : World) :
    Calls Try.prog 30 #[.agg #[.int .u64 s], .int .i64 n] w (fun e w' => e = .returned (.tuple #[.int .i64 0, .agg #[.int .u64 0], .int .i64 2]) ∧ Lat w w') := by
  have h0 : decide (n < 1) = true := decide_eq_true h
  go_enter Try.func30, Try.ntmps30
  go_upto_region 1 with (fail)
  refine name2 (Q := fun W => Code.wp _ _ _ _ W) ?_
  intro W l1 hs k1 k2
  have c5 : W.cell? ⟨w.heap.size + 1, 0, none⟩ = some (.int .u64 0) := k2.cell 0
  have f5 := k2.frozen 0
  have hlt5 := k2.lt
  go_wp2
  refine name_set (Q := fun W => bodyPost _ _ _ _ _ W) k2 ?_
  intro W6 k6 _ _ lp6
  have g0 : W6.cell? ⟨w.heap.size + 1, 0, none⟩ = some (.int .u64 0) := k6.cell 0
  refine bodyPost_ret (v := .tuple #[.int .i64 0, .agg #[.int .u64 0], .int .i64 2]) (by simp [results, Try.results30, go_sem, g0]) rfl ?_
  exact ⟨rfl, lp6.narrow l1 (by omega)⟩
/-- What the reference's Below hands back. -/
def RbPost (n : Nat) (ok : Nat → Bool) (st xs : Nat → Nat) (w : World) (e : Ending) (w' : World) : Prop :=
  ((∃ j, j < 200 ∧ (∀ i, i < j → ok (xs i) = false) ∧ ok (xs j) = true ∧ e = .returned (.tuple #[.int .i64 ((xs j % n : Nat) : Int), .agg #[.int .u64 (st (j + 1) : Nat)], .int .i64 0])) ∨
   ((∀ i, i < 200 → ok (xs i) = false) ∧ e = .returned (.tuple #[.int .i64 0, .agg #[.int .u64 0], .int .i64 9]))) ∧ Lat w w'
set_option maxRecDepth 100000 in
set_option maxHeartbeats 4000000 in
theorem rBelow_in (s n : Nat) (h1 : 1 ≤ n) (h2 : n < 9223372036854775808) (lim : Int) (hlim : (18446744073709551616 : Int) / n * n = lim) (st xs : Nat → Nat) (h0 : st 0 = s) (HN : ∀ j, RxC (st j) (xs j) (st (j + 1)))
    (hx : ∀ j, xs j < 18446744073709551616) (ok : Nat → Bool) (hok : ∀ x, x < 18446744073709551616 → (ok x = true ↔ (x : Int) < lim)) (w : World) :
    Calls Try.prog 30 #[.agg #[.int .u64 s], .int .i64 n] w (RbPost n ok st xs w) := by
  have hn1 : ¬ (n : Int) < 1 := by omega
  have hpow : (2 : Int) ^ 64 = 18446744073709551616 := by decide
  have HR : ∀ (b1 : Bool) (A1 : Option Addr) (n1 c1 : Nat) (w : World), Rg w b1 A1 n1 c1 2 → n1 ≤ 2 → Calls Try.prog 46 #[.agg #[.bool b1, .slice A1 n1 c1], .int .i64 64] w (RefPost w 18446744073709551616 130) := fun b1 A1 n1 c1 w h h' => by
    have := rRaised_any b1 A1 n1 c1 2 64 w h h' (by decide)
    rw [hpow] at this
    exact this
  have HL2 : ∀ w, Calls Try.prog 47 #[.int .i64 2] w (RefPost w 2 2) := fun w => rLong1_any 2 w (by decide) (by decide)
  have HLn : ∀ w, Calls Try.prog 47 #[.int .i64 (n : Nat)] w (RefPost w n 2) := fun w => rLong1_any n w (by omega) (by omega)
  have HP : ∀ (b1 : Bool) (A1 : Option Addr) (n1 c1 : Nat) (b2 : Bool) (A2 : Option Addr) (n2 c2 : Nat) (w : World), Rg w b1 A1 n1 c1 18446744073709551616 → Rg w b2 A2 n2 c2 n → n1 ≤ 130 → n2 ≤ 2 → Calls Try.prog 45 #[.agg #[.bool b1, .slice A1 n1 c1], .agg #[.bool b2, .slice A2 n2 c2]] w (RPartsPost w (18446744073709551616 / n) (18446744073709551616 % n) (n1 + 1) n2) :=
    fun b1 A1 n1 c1 b2 A2 n2 c2 w h h' g g' => rParts_any b1 A1 n1 c1 _ b2 A2 n2 c2 _ w h h' (by omega) (.inl (by decide)) (by omega) (by omega)
  have HT : ∀ (b1 : Bool) (A1 : Option Addr) (n1 c1 : Nat) (b2 : Bool) (A2 : Option Addr) (n2 c2 : Nat) (w : World), Rg w b1 A1 n1 c1 (18446744073709551616 / n) → Rg w b2 A2 n2 c2 n → n1 ≤ 131 → n2 ≤ 2 → Calls Try.prog 48 #[.agg #[.bool b1, .slice A1 n1 c1], .agg #[.bool b2, .slice A2 n2 c2]] w (RefPost w lim (n1 + n2)) :=
    fun b1 A1 n1 c1 b2 A2 n2 c2 w h h' g g' => by
      have := rTimes_any b1 A1 n1 c1 _ b2 A2 n2 c2 _ w h h' (by omega) (by omega)
      rw [hlim] at this
      exact this
  have HW : ∀ j w, Calls Try.prog 50 #[.int .u64 (xs j : Nat)] w (RefPost w (xs j : Nat) 17) := fun j w => words64_any _ (hx j) w
  have HO : ∀ j (b1 : Bool) (A1 : Option Addr) (n1 c1 : Nat) (b2 : Bool) (A2 : Option Addr) (n2 c2 : Nat) (w : World), Rg w b1 A1 n1 c1 (xs j : Nat) → Rg w b2 A2 n2 c2 lim → n1 ≤ 17 → n2 ≤ 133 → Calls Try.prog 49 #[.agg #[.bool b1, .slice A1 n1 c1], .agg #[.bool b2, .slice A2 n2 c2]] w (fun e w' => e = .returned (.int .i64 (if ok (xs j) = true then -1 else if (xs j : Int) = lim then 0 else 1)) ∧ Lat w w') :=
    fun j b1 A1 n1 c1 b2 A2 n2 c2 w h h' g g' => by
      have := rOrder_any b1 A1 n1 c1 _ b2 A2 n2 c2 _ w h h' (by omega) (by omega)
      have e : ordR ((xs j : Int) - lim) = if ok (xs j) = true then -1 else if (xs j : Int) = lim then 0 else 1 := by
        have := hok (xs j) (hx j)
        unfold ordR
        by_cases h : ok (xs j) = true
        · rw [if_pos h, if_pos (by have := this.1 h; omega)]
        · have h3 : ¬ (xs j : Int) < lim := fun h4 => h (this.2 h4)
          rw [if_neg h, if_neg (by omega)]
          by_cases h5 : (xs j : Int) = lim
          · rw [if_pos h5, if_pos (by omega)]
          · rw [if_neg h5, if_neg (by omega)]
      rw [e] at this
      exact this
  have H0 := Lib.hid h0
  have HX := Lib.hid hx
  clear hlim hpow hok h0 hx
  go_enter Try.func30, Try.ntmps30
  go_upto_region 1 with (fail)
  refine name2 (Q := fun W => Code.wp _ _ _ _ W) ?_
  intro W hl hs k2 k5
  obtain ⟨g2, hg2⟩ : ∃ z, w.heap.size = z := ⟨_, rfl⟩
  obtain ⟨g5, hg5⟩ : ∃ z, w.heap.size + 1 = z := ⟨_, rfl⟩
  rw [hg2] at k2
  rw [hg5] at k5
  have hb : w.heap.size ≤ g2 ∧ g2 < g5 := by omega
  rw [hg5, hg2]
  clear hs
  go_wp2_with fail
  refine (HL2 W).mono ?_
  rintro e w1 ⟨b, A, n1, c, rfl, r1, r2, l1⟩
  go_wp2_with fail
  refine (HR b A n1 c w1 r1 r2).mono ?_
  rintro e w2 ⟨b', A', n1', c', rfl, r3, r4, l2⟩
  go_wp2_with fail
  refine (HLn w2).mono ?_
  rintro e w3 ⟨b2, A2, n2, c2, rfl, r5, r6, l3⟩
  go_wp2_with fail
  refine (HP b' A' n1' c' b2 A2 n2 c2 w3 (r3.later l3) r5 r4 r6).mono ?_
  rintro e w4 ⟨bq, Aq, nq, cq, br, Ar, nr, cr, rfl, q1, q2, q3, q4, l4⟩
  have LL := ((l1.trans l2).trans l3).trans l4
  replace k2 := k2.later LL
  replace k5 := k5.later LL
  have L4 := hl.trans LL
  clear l1 l2 l3 l4 LL r1 r2 r3 r5 r6 hl HL2 HR HP q3
  go_upto_region 4 with (fail)
  refine name2 (Q := fun W => Code.wp _ _ _ _ W) ?_
  intro V l5 hs5 k7 k8
  obtain ⟨g7, hg7⟩ : ∃ z, w4.heap.size = z := ⟨_, rfl⟩
  rw [hg7] at k7 ⊢
  have hg57 : g5 < g7 := by rw [← hg7]; exact k5.lt
  replace k2 := k2.later l5
  replace k5 := k5.later l5
  replace q1 := q1.later l5
  have L5 := L4.trans l5
  clear l5 hs5 k8 hg7 L4 hg2 hg5
  rename_i K4 hK4
  have TAIL4 : ∀ (a3 a7 a8 a10 a11 a12 a13 a14 a15 a16 a17 a18 a19 a20 a21 a22 a23 a24 a25 a26 a27 a28 a29 a30 a31 a32 a33 a34 a35 a36 a37 a38 a39 a40 a41 a42 a43 a44 a45 a46 a47 a48 a49 : Value) (g9 : Nat) (b : Bool) (A : Option Addr) (nl cl : Nat) (V : World), Lat w V → Blk V g2 24 #[.int .u64 (s : Nat)] → Blk V g5 24 #[.int .u64 0] → Blk V g9 91 #[.bool b, .slice A nl cl] → Rg V b A nl cl lim → nl ≤ 133 → g5 < g9 → K4 { tmps := #[.agg #[.int .u64 (s : Nat)], .int .i64 (n : Nat), .pointer (some ⟨g2, 0, none⟩), a3, .int .i64 0, .pointer (some ⟨g5, 0, none⟩), .int .i64 0, a7, a8, .pointer (some ⟨g9, 0, none⟩), a10, a11, a12, a13, a14, a15, a16, a17, a18, a19, a20, a21, a22, a23, a24, a25, a26, a27, a28, a29, a30, a31, a32, a33, a34, a35, a36, a37, a38, a39, a40, a41, a42, a43, a44, a45, a46, a47, a48, a49], defers := [] } V := by
    as_aux_lemma =>
      intro a3 a7 a8 a10 a11 a12 a13 a14 a15 a16 a17 a18 a19 a20 a21 a22 a23 a24 a25 a26 a27 a28 a29 a30 a31 a32 a33 a34 a35 a36 a37 a38 a39 a40 a41 a42 a43 a44 a45 a46 a47 a48 a49 g9 b A nl cl V L5 k2 k5 k9 R9 hnl h59
      refine hK4 _ _ ?_
      clear hK4 HLn HT
      have hwg : w.heap.size ≤ g2 := hb.1
      have h25 : g2 < g5 := hb.2
      go_wp2_with fail
      go_loopw [10] (fun i wr => ∃ j : Nat, j ≤ 200 ∧ i = .int .i64 j ∧ (∀ i, i < j → ok (xs i) = false) ∧ Blk wr g2 24 #[.int .u64 (st j : Nat)] ∧ Blk wr g5 24 #[.int .u64 0] ∧ Blk wr g9 91 #[.bool b, .slice A nl cl] ∧ Rg wr b A nl cl lim ∧ Lat w wr) (fun i _ => 200 - (intOf i).toNat)
      case atStart => exact ⟨0, by omega, rfl, fun i hi => absurd hi (Nat.not_lt_zero _), by rw [H0.out]; exact k2, k5, k9, R9, L5⟩
      case round =>
        clear k2 k5 k9 R9 L5
        obtain ⟨j, hj, rfl, hno, k2, k5, k9, R9, L5⟩ := hrel
        by_cases hlt : j < 200
        · obtain ⟨x, hxj⟩ : ∃ x, xs j = x := ⟨_, rfl⟩
          obtain ⟨c, hcj⟩ : ∃ c, st j = c := ⟨_, rfl⟩
          obtain ⟨d, hdj⟩ : ∃ d, st (j + 1) = d := ⟨_, rfl⟩
          have N1 := HN j
          have W1 := HW j
          have O1 := HO j
          rw [hcj, hdj, hxj] at N1
          rw [hxj] at W1 O1
          obtain ⟨r, hr⟩ : ∃ r : Int, (if ok x = true then -1 else if (x : Int) = lim then 0 else 1) = r := ⟨_, rfl⟩
          rw [hr] at O1
          obtain ⟨ob, hob⟩ : ∃ o, ok x = o := ⟨_, rfl⟩
          have hro : decide (r < 0) = ob := by
            rw [← hob, ← hr]
            by_cases h : ok x = true
            · rw [if_pos h, h]; rfl
            · rw [if_neg h]; by_cases h5 : (x : Int) = lim <;> simp [h, h5]
          have HOK := Lib.hid (show decide (r < 0) = ob ∧ ok x = ob from ⟨hro, hob⟩)
          clear hro
          clear hr hob
          rw [hcj] at k2
          have HJ := Lib.hid (show xs j = x ∧ st (j + 1) = d ∧ x < 18446744073709551616 from ⟨hxj, hdj, by rw [← hxj]; exact HX.out j⟩)
          have hltI : (j : Int) < 200 := by omega
          have c2 : wr.cell? ⟨g2, 0, none⟩ = some (.int .u64 (c : Int)) := k2.cell 0
          clear hxj hcj hdj HN HW HO
          go_wp2_with fail
          refine (N1 wr).mono ?_
          rintro e w1 ⟨rfl, l1⟩
          replace k2 := k2.later l1
          replace k5 := k5.later l1
          replace k9 := k9.later l1
          replace R9 := R9.later l1
          replace L5 := L5.trans l1
          clear l1 c2 N1
          go_upto_region 9 with (fail)
          refine name1 (Q := fun W => Code.wp _ _ _ _ W) ?_
          intro w2 l2 hs2 k12
          replace k2 := k2.later l2
          replace k5 := k5.later l2
          replace k9 := k9.later l2
          replace R9 := R9.later l2
          replace L5 := L5.trans l2
          obtain ⟨g12, hg12⟩ : ∃ z, w1.heap.size = z := ⟨_, rfl⟩
          rw [hg12] at k12 ⊢
          clear l2 hs2 hg12
          have c12 : w2.cell? ⟨g12, 0, none⟩ = some (.int .u64 (d : Int)) := k12.cell 0
          have c2 : w2.cell? ⟨g2, 0, none⟩ = some (.int .u64 (c : Int)) := k2.cell 0
          have f2 := k2.frozen 0
          have hlt2 := k2.lt
          go_upto_region 10 with (fail)
          refine name_set (Q := fun W => Code.wp _ _ _ _ W) k2 ?_
          intro w3 j2 _ _ lp
          have j5 := k5.keepP lp (by omega)
          have j9 := k9.keepP lp (by omega)
          have jR := R9.keepL lp k2 (no_i64u _)
          have L6 := lp.narrow L5 hwg
          have R9r : ∀ w', Lat w3 w' → w'.rangeAt g9 0 [.bool b, .slice A nl cl] := fun w' h => Blk.rangeAll (l := [.bool b, .slice A nl cl]) (j9.later h)
          have J91 : (Try.prog.info? 91).map (·.size) = some 2 := by kernel_rfl
          clear lp k2 k5 k9 R9 f2 hlt2 c12 c2 k12
          have UL0 := Lat.drew w3
          refine wp_region_held_drew (S := fun w' => Lat w3 w') (by kernel_rfl) UL0 (fun hHeld => ?_)
          generalize w3.drew = U0 at UL0 hHeld ⊢
          refine wpAnyH_take (i := 0) (v := .int .u64 (x : Nat)) rfl (by kernel_rfl) (by kernel_rfl) (by kernel_rfl) (fun _ _ _ h => h) (Or.inl ⟨by rfl, by intro w' hS; go_simp⟩) hHeld ?_
          simp only [Act.put, List.getElem_toArray, List.getElem_cons_succ, List.getElem_cons_zero, List.setIfInBounds_toArray, List.set_cons_zero, List.set_cons_succ]
          refine' wpAnyH_take (i := 2) rfl (by kernel_rfl) (by kernel_rfl) (by kernel_rfl) (fun _ _ _ h => h) (yieldsIf_load_mid (by rfl) 91 (.tmp 9) rfl g9 0 rfl [.bool b, .slice A nl cl] _ R9r Try.underlying91 rfl J91) hHeld ?_
          simp only [Act.put, List.getElem_toArray, List.getElem_cons_succ, List.getElem_cons_zero, List.setIfInBounds_toArray, List.set_cons_zero, List.set_cons_succ]
          refine wpAnyH_ready (rs := [1]) (by kernel_rfl) (by simp) (AllReadyH.cons rfl (fun K hK => ?_) AllReadyH.nil)
          go_simp
          refine (W1 _).mono ?_
          rintro e U1 ⟨b3, A3, n3, c3, rfl, p1, p2, la⟩
          have UL1 := UL0.trans la
          refine hK.out _ _ UL1 (fun hHeld1 => ?_)
          clear hK K
          try simp only [Act.put, List.getElem_toArray, List.getElem_cons_succ, List.getElem_cons_zero, List.setIfInBounds_toArray, List.set_cons_zero, List.set_cons_succ]
          clear la
          refine wpAnyH_ready (rs := [3]) (by kernel_rfl) (by simp) (AllReadyH.cons rfl (fun K hK => ?_) AllReadyH.nil)
          go_simp
          refine (O1 b3 A3 n3 c3 b A nl cl _ p1 (jR.later UL1) p2 hnl).mono ?_
          rintro e U2 ⟨rfl, la⟩
          replace p1 := p1.later la
          have UL2 := UL1.trans la
          refine hK.out _ _ UL2 (fun hHeld2 => ?_)
          clear hK K
          try simp only [Act.put, List.getElem_toArray, List.getElem_cons_succ, List.getElem_cons_zero, List.setIfInBounds_toArray, List.set_cons_zero, List.set_cons_succ]
          clear la
          refine wpAnyH_take (i := 4) (v := .bool ob) rfl (by kernel_rfl) (by kernel_rfl) (by kernel_rfl) (fun _ _ _ h => h) (Or.inl ⟨by rfl, by intro w' hS; rw [← HOK.out.1]; go_simp⟩) hHeld2 ?_
          simp only [Act.put, List.getElem_toArray, List.getElem_cons_succ, List.getElem_cons_zero, List.setIfInBounds_toArray, List.set_cons_zero, List.set_cons_succ]
          refine wpAnyH_done (by kernel_rfl) ?_ _
          replace j2 := j2.later UL2
          replace j5 := j5.later UL2
          replace j9 := j9.later UL2
          replace jR := jR.later UL2
          replace L6 := L6.trans UL2
          have hok := HOK.out.2
          clear HOK
          cases ob with
          | true =>
            obtain ⟨hxj, hdj, hxl⟩ := HJ.out
            have c2 : U2.cell? ⟨g2, 0, none⟩ = some (.int .u64 (d : Int)) := j2.cell 0
            have c2d : U2.drew.cell? ⟨g2, 0, none⟩ = some (.int .u64 (d : Int)) := j2.cell 0
            have f5 := j5.frozen 0
            have d5 : U2.cell? ⟨g5, 0, none⟩ = some (.int .u64 0) := j5.cell 0
            have h5 := j5.lt
            have hw1 : IntKind.u64.wrap (n : Int) = (n : Int) := by rw [IntKind.wrap_u64]; omega
            have hn0 : ((n : Int) == 0) = false := by rw [beq_eq_false_iff_ne]; omega
            have hn9 : ¬ n = 0 := by omega
            have hm := Nat.mod_lt x (show 0 < n by omega)
            have hrm : (x : Int).tmod (n : Int) = ((x % n : Nat) : Int) := rfl
            have hw2 : IntKind.i64.wrap (((x % n : Nat) : Int)) = ((x % n : Nat) : Int) := by rw [IntWalk.i64_left]; exact IntWalk.wrap64_in _ (by omega)
            go_wp2_with fail
            go_region_held3 (fun w' => w'.cell? ⟨g2, 0, none⟩ = some (.int .u64 (d : Int))) (first | (with_reducible assumption) | exact cell_off (by omega) _ c2d) (fail)
            all_goals
              go_wp2
              have hw3 : IntKind.i64.wrap ((x : Int) % (n : Int)) = ((x % n : Nat) : Int) := hw2
              rw [hw3]
              have e3 : ((U2.setCell ⟨g5, 0, none⟩ (.int .u64 (d : Int))).drew).cell? ⟨g5, 0, none⟩ = some (.int .u64 (d : Int)) := by
                have := (j5.set 0 (.int .u64 (d : Int))).cell 0
                simpa using this
              have LF : Lat w ((U2.setCell ⟨g5, 0, none⟩ (.int .u64 (d : Int))).drew) := (L6.setCell (p := ⟨g5, 0, none⟩) (by simp; omega) _).trans (Lat.drew _)
              refine bodyPost_ret (v := .tuple #[.int .i64 ((x % n : Nat) : Int), .agg #[.int .u64 (d : Int)], .int .i64 0]) (by simp [results, Try.results30, go_sem, e3]) rfl ?_
              exact ⟨.inl ⟨j, hlt, hno, by rw [hxj]; exact hok, by rw [hxj, hdj]⟩, LF⟩
          | false =>
            obtain ⟨hxj, hdj, _⟩ := HJ.out
            go_wp2
            refine ⟨⟨j + 1, hlt, rg_succ j, fun i hi => ?_, by rw [hdj]; exact j2, j5, j9, jR, L6⟩, rg_up hlt⟩
            rcases Nat.lt_succ_iff_lt_or_eq.1 hi with h | rfl
            · exact hno i h
            · rw [hxj]; exact hok
        · obtain rfl : j = 200 := by omega
          have c5 : wr.cell? ⟨g5, 0, none⟩ = some (.int .u64 0) := k5.cell 0
          have f5 := k5.frozen 0
          have hlt5 := k5.lt
          go_wp2
          refine name_set (Q := fun W => bodyPost _ _ _ _ _ W) k5 ?_
          intro W6 k6 _ _ lp6
          have g0 : W6.cell? ⟨g5, 0, none⟩ = some (.int .u64 0) := k6.cell 0
          refine bodyPost_ret (v := .tuple #[.int .i64 0, .agg #[.int .u64 0], .int .i64 9]) (by simp [results, Try.results30, go_sem, g0]) rfl ?_
          exact ⟨.inr ⟨hno, rfl⟩, lp6.narrow L5 (by omega)⟩
  have R7 : ∀ w', Lat V w' → w'.rangeAt g7 0 [.bool bq, .slice Aq nq cq] := fun w' h => Blk.rangeAll (l := [.bool bq, .slice Aq nq cq]) (k7.later h)
  have J91 : (Try.prog.info? 91).map (·.size) = some 2 := by kernel_rfl
  have hq : nq ≤ 131 := by omega
  have hgV : g7 < V.heap.size := k7.lt
  clear hb r4 q2 q4
  have UL0 := Lat.drew V
  refine wp_region_held_drew (S := fun w' => Lat V w') (by kernel_rfl) UL0 (fun hHeld => ?_)
  generalize V.drew = U0 at UL0 hHeld ⊢
  refine' wpAnyH_take (i := 0) rfl (by kernel_rfl) (by kernel_rfl) (by kernel_rfl) (fun _ _ _ h => h) (yieldsIf_load_mid (by rfl) 91 (.tmp 7) rfl g7 0 rfl [.bool bq, .slice Aq nq cq] _ R7 Try.underlying91 rfl J91) hHeld ?_
  simp only [Act.put, List.getElem_toArray, List.getElem_cons_succ, List.getElem_cons_zero, List.setIfInBounds_toArray, List.set_cons_zero, List.set_cons_succ]
  refine wpAnyH_take (i := 1) (v := .int .i64 (n : Nat)) rfl (by kernel_rfl) (by kernel_rfl) (by kernel_rfl) (fun _ _ _ h => h) (Or.inl ⟨by rfl, by intro w' hS; go_simp⟩) hHeld ?_
  simp only [Act.put, List.getElem_toArray, List.getElem_cons_succ, List.getElem_cons_zero, List.setIfInBounds_toArray, List.set_cons_zero, List.set_cons_succ]
  refine wpAnyH_ready (rs := [2, 4]) (by kernel_rfl) (by simp) (AllReadyH.cons rfl (fun K hK => ?_) (AllReadyH.cons rfl (fun K hK => ?_) AllReadyH.nil))
  · skip
    go_simp
    refine (HLn _).mono ?_
    rintro e U1 ⟨bn, An, nn, cn, rfl, p1, p2, la⟩
    have UL1 := UL0.trans la
    refine hK.out _ _ UL1 (fun hHeld1 => ?_)
    clear hK K
    try simp only [Act.put, List.getElem_toArray, List.getElem_cons_succ, List.getElem_cons_zero, List.setIfInBounds_toArray, List.set_cons_zero, List.set_cons_succ]
    clear la
    refine wpAnyH_ready (rs := [3, 4]) (by kernel_rfl) (by simp) (AllReadyH.cons rfl (fun K hK => ?_) (AllReadyH.cons rfl (fun K hK => ?_) AllReadyH.nil))
    · skip
      go_simp
      refine (HT bq Aq nq cq bn An nn cn _ (q1.later UL1) p1 hq p2).mono ?_
      rintro e U2 ⟨bt, At, nt, ct, rfl, t1, t2, la⟩
      replace p1 := p1.later la
      have UL2 := UL1.trans la
      refine hK.out _ _ UL2 (fun hHeld2 => ?_)
      clear hK K
      try simp only [Act.put, List.getElem_toArray, List.getElem_cons_succ, List.getElem_cons_zero, List.setIfInBounds_toArray, List.set_cons_zero, List.set_cons_succ]
      clear la
      refine wpAnyH_ready (rs := [4]) (by kernel_rfl) (by simp) (AllReadyH.cons rfl (fun K hK => ?_) AllReadyH.nil)
      go_simp
      have b_g9 := Blk.new U2 91 #[.bool false, .slice none 0 0]
      have h_g9 : V.heap.size ≤ U2.heap.size := UL2.size
      have la := Lat.alloc U2 (.cells #[.bool false, .slice none 0 0] 91)
      obtain ⟨U3, hV⟩ : ∃ V, U2.alloc (.cells #[.bool false, .slice none 0 0] 91) = V := ⟨_, rfl⟩
      rw [hV] at b_g9 la ⊢
      clear hV
      generalize U2.heap.size = g9 at *
      replace p1 := p1.later la
      replace t1 := t1.later la
      have UL3 := UL2.trans la
      refine hK.out _ _ UL3 (fun hHeld3 => ?_)
      clear hK K
      try simp only [Act.put, List.getElem_toArray, List.getElem_cons_succ, List.getElem_cons_zero, List.setIfInBounds_toArray, List.set_cons_zero, List.set_cons_succ]
      clear la
      refine wpAnyH_ready (rs := [5]) (by kernel_rfl) (by simp) (AllReadyH.cons rfl (fun K hK => ?_) AllReadyH.nil)
      rw [if_pos (by rfl)]
      refine wp_store_mid 91 (.tmp 9) (.tmp 27) rfl g9 0 #[.bool bt, .slice At nt ct] rfl rfl (b_g9.thereAll _ rfl) (by kernel_rfl) (by simp [Value.oneCell']) ?_
      refine name_long (Q := fun W => K _ W) b_g9 ?_
      intro U4 b9 lpS hrg
      replace t1 := hrg t1
      replace b_g9 := b9
      have UL4 : Lat V U4 := lpS.narrow UL3 h_g9
      clear b9 lpS hrg
      refine hK.out _ _ UL4 (fun hHeld4 => ?_)
      clear hK K
      try simp only [Act.put, List.getElem_toArray, List.getElem_cons_succ, List.getElem_cons_zero, List.setIfInBounds_toArray, List.set_cons_zero, List.set_cons_succ]
      refine wpAnyH_done (by kernel_rfl) ?_ _
      exact TAIL4 _ _ _ _ _ _ _ _ _ _ _ _ _ _ _ _ _ _ _ _ _ _ _ _ _ _ _ _ _ _ _ _ _ _ _ _ _ _ _ _ _ _ _ g9 bt At nt ct U4 (L5.trans UL4) (k2.later UL4) (k5.later UL4) b_g9 t1 (by omega) (by omega)
    · skip
      go_simp
      have b_g9 := Blk.new U1 91 #[.bool false, .slice none 0 0]
      have h_g9 : V.heap.size ≤ U1.heap.size := UL1.size
      have la := Lat.alloc U1 (.cells #[.bool false, .slice none 0 0] 91)
      obtain ⟨U2, hV⟩ : ∃ V, U1.alloc (.cells #[.bool false, .slice none 0 0] 91) = V := ⟨_, rfl⟩
      rw [hV] at b_g9 la ⊢
      clear hV
      generalize U1.heap.size = g9 at *
      replace p1 := p1.later la
      have UL2 := UL1.trans la
      refine hK.out _ _ UL2 (fun hHeld2 => ?_)
      clear hK K
      try simp only [Act.put, List.getElem_toArray, List.getElem_cons_succ, List.getElem_cons_zero, List.setIfInBounds_toArray, List.set_cons_zero, List.set_cons_succ]
      clear la
      refine wpAnyH_ready (rs := [3]) (by kernel_rfl) (by simp) (AllReadyH.cons rfl (fun K hK => ?_) AllReadyH.nil)
      go_simp
      refine (HT bq Aq nq cq bn An nn cn _ (q1.later UL2) p1 hq p2).mono ?_
      rintro e U3 ⟨bt, At, nt, ct, rfl, t1, t2, la⟩
      replace p1 := p1.later la
      replace b_g9 := b_g9.later la
      have UL3 := UL2.trans la
      refine hK.out _ _ UL3 (fun hHeld3 => ?_)
      clear hK K
      try simp only [Act.put, List.getElem_toArray, List.getElem_cons_succ, List.getElem_cons_zero, List.setIfInBounds_toArray, List.set_cons_zero, List.set_cons_succ]
      clear la
      refine wpAnyH_ready (rs := [5]) (by kernel_rfl) (by simp) (AllReadyH.cons rfl (fun K hK => ?_) AllReadyH.nil)
      rw [if_pos (by rfl)]
      refine wp_store_mid 91 (.tmp 9) (.tmp 27) rfl g9 0 #[.bool bt, .slice At nt ct] rfl rfl (b_g9.thereAll _ rfl) (by kernel_rfl) (by simp [Value.oneCell']) ?_
      refine name_long (Q := fun W => K _ W) b_g9 ?_
      intro U4 b9 lpS hrg
      replace t1 := hrg t1
      replace b_g9 := b9
      have UL4 : Lat V U4 := lpS.narrow UL3 h_g9
      clear b9 lpS hrg
      refine hK.out _ _ UL4 (fun hHeld4 => ?_)
      clear hK K
      try simp only [Act.put, List.getElem_toArray, List.getElem_cons_succ, List.getElem_cons_zero, List.setIfInBounds_toArray, List.set_cons_zero, List.set_cons_succ]
      refine wpAnyH_done (by kernel_rfl) ?_ _
      exact TAIL4 _ _ _ _ _ _ _ _ _ _ _ _ _ _ _ _ _ _ _ _ _ _ _ _ _ _ _ _ _ _ _ _ _ _ _ _ _ _ _ _ _ _ _ g9 bt At nt ct U4 (L5.trans UL4) (k2.later UL4) (k5.later UL4) b_g9 t1 (by omega) (by omega)
  · skip
    go_simp
    have b_g9 := Blk.new U0 91 #[.bool false, .slice none 0 0]
    have h_g9 : V.heap.size ≤ U0.heap.size := UL0.size
    have la := Lat.alloc U0 (.cells #[.bool false, .slice none 0 0] 91)
    obtain ⟨U1, hV⟩ : ∃ V, U0.alloc (.cells #[.bool false, .slice none 0 0] 91) = V := ⟨_, rfl⟩
    rw [hV] at b_g9 la ⊢
    clear hV
    generalize U0.heap.size = g9 at *
    have UL1 := UL0.trans la
    refine hK.out _ _ UL1 (fun hHeld1 => ?_)
    clear hK K
    try simp only [Act.put, List.getElem_toArray, List.getElem_cons_succ, List.getElem_cons_zero, List.setIfInBounds_toArray, List.set_cons_zero, List.set_cons_succ]
    clear la
    refine wpAnyH_ready (rs := [2]) (by kernel_rfl) (by simp) (AllReadyH.cons rfl (fun K hK => ?_) AllReadyH.nil)
    go_simp
    refine (HLn _).mono ?_
    rintro e U2 ⟨bn, An, nn, cn, rfl, p1, p2, la⟩
    replace b_g9 := b_g9.later la
    have UL2 := UL1.trans la
    refine hK.out _ _ UL2 (fun hHeld2 => ?_)
    clear hK K
    try simp only [Act.put, List.getElem_toArray, List.getElem_cons_succ, List.getElem_cons_zero, List.setIfInBounds_toArray, List.set_cons_zero, List.set_cons_succ]
    clear la
    refine wpAnyH_ready (rs := [3]) (by kernel_rfl) (by simp) (AllReadyH.cons rfl (fun K hK => ?_) AllReadyH.nil)
    go_simp
    refine (HT bq Aq nq cq bn An nn cn _ (q1.later UL2) p1 hq p2).mono ?_
    rintro e U3 ⟨bt, At, nt, ct, rfl, t1, t2, la⟩
    replace p1 := p1.later la
    replace b_g9 := b_g9.later la
    have UL3 := UL2.trans la
    refine hK.out _ _ UL3 (fun hHeld3 => ?_)
    clear hK K
    try simp only [Act.put, List.getElem_toArray, List.getElem_cons_succ, List.getElem_cons_zero, List.setIfInBounds_toArray, List.set_cons_zero, List.set_cons_succ]
    clear la
    refine wpAnyH_ready (rs := [5]) (by kernel_rfl) (by simp) (AllReadyH.cons rfl (fun K hK => ?_) AllReadyH.nil)
    rw [if_pos (by rfl)]
    refine wp_store_mid 91 (.tmp 9) (.tmp 27) rfl g9 0 #[.bool bt, .slice At nt ct] rfl rfl (b_g9.thereAll _ rfl) (by kernel_rfl) (by simp [Value.oneCell']) ?_
    refine name_long (Q := fun W => K _ W) b_g9 ?_
    intro U4 b9 lpS hrg
    replace t1 := hrg t1
    replace b_g9 := b9
    have UL4 : Lat V U4 := lpS.narrow UL3 h_g9
    clear b9 lpS hrg
    refine hK.out _ _ UL4 (fun hHeld4 => ?_)
    clear hK K
    try simp only [Act.put, List.getElem_toArray, List.getElem_cons_succ, List.getElem_cons_zero, List.setIfInBounds_toArray, List.set_cons_zero, List.set_cons_succ]
    refine wpAnyH_done (by kernel_rfl) ?_ _
    exact TAIL4 _ _ _ _ _ _ _ _ _ _ _ _ _ _ _ _ _ _ _ _ _ _ _ _ _ _ _ _ _ _ _ _ _ _ _ _ _ _ _ _ _ _ _ g9 bt At nt ct U4 (L5.trans UL4) (k2.later UL4) (k5.later UL4) b_g9 t1 (by omega) (by omega)
end Go.Proofs.Ytogkkhaepfablaa

/- Chance: the reference's Below answers as the program's. -/
namespace Go.Proofs.Ytogkkhaepfablaa
open Go.RowKit

/-- The reference's Below: the number, the state, the error, as the program's. -/
theorem rBelow_any (s : Nat) (hs : s < 18446744073709551616) (n : Int) (h2 : n < 9223372036854775808) (w : World) :
    Calls Try.prog 30 #[.agg #[.int .u64 s], .int .i64 n] w (fun e w' => e = .returned (.tuple #[.int .i64 (belV s n), .agg #[.int .u64 (belS s n : Nat)], .int .i64 (belE s n)]) ∧ Lat w w') := by
  by_cases h : n < 1
  · rw [belV, belS, belE, if_pos h, if_pos h, if_pos h]
    exact rBelow_low s n h w
  · obtain ⟨m, rfl⟩ := Int.eq_ofNat_of_zero_le (show 0 ≤ n by omega)
    rw [belV, belS, belE, if_neg h, if_neg h, if_neg h, Int.toNat_natCast]
    obtain ⟨st, hst⟩ : ∃ st : Nat → Nat, st = fun j => chAfter chNext j s := ⟨_, rfl⟩
    obtain ⟨xs, hxs⟩ : ∃ xs : Nat → Nat, xs = fun j => chMix (chStep (chAfter chNext j s)) := ⟨_, rfl⟩
    have hx : ∀ j, xs j < 18446744073709551616 := fun j => by
      simp only [hxs]
      exact chMix_lt (chStep (chAfter chNext j s))
    have hN : ∀ j, RxC (st j) (xs j) (st (j + 1)) := fun j => by
      have := rxC (chAfter chNext j s) (after_lt hs j)
      simp only [hst, hxs, after_succ]
      exact this
    have h00 : st 0 = s := by rw [hst]; simp only [chAfter]
    obtain ⟨lim, hlim⟩ : ∃ lim : Int, (18446744073709551616 : Int) / (m : Int) * (m : Int) = lim := ⟨_, rfl⟩
    refine (rBelow_in s m (by omega) (by omega) lim hlim st xs h00 hN hx (chOk m) (fun x hx => ?_) w).mono ?_
    · rw [chOk_iff (by omega) (by omega) x hx, ← hlim]
      have e : (18446744073709551616 : Int) / (m : Int) * (m : Int) = ((18446744073709551616 / m * m : Nat) : Int) := by
        simp
      rw [e]
      exact Int.ofNat_lt.symm
    · clear hlim hx hN h00
      simp only [hst, hxs]
      rintro e w' ⟨h3 | h3, hl⟩
      · obtain ⟨j, hj, hno, hok, rfl⟩ := h3
        have ht : chBel s m = some (chNext (chAfter chNext j s)) := by
          unfold chBel
          exact chTry_take (draw := chNext) (ok := chOk m) (f := 200) (j := j) (s := s) hj (fun i hi => by rw [next_fst]; exact hno i hi) (by rw [next_fst]; exact hok)
        have e1 : optR m (chBel s m) = ((chMix (chStep (chAfter chNext j s)) % m : Nat) : Int) := by rw [ht, optR, next_fst]
        have e2 : optE (chBel s m) = 0 := by rw [ht, optE]
        have e3 : optT 0 (chBel s m) = chAfter chNext (j + 1) s := by rw [ht, optT, after_succ, next_snd]
        rw [e1, e2, e3]
        exact ⟨rfl, hl⟩
      · obtain ⟨hno, rfl⟩ := h3
        have ht : chBel s m = none := by
          unfold chBel
          exact chTry_none (draw := chNext) (ok := chOk m) (f := 200) (s := s) (fun i hi => by rw [next_fst]; exact hno i hi)
        have e1 : optR m (chBel s m) = 0 := by rw [ht, optR]
        have e2 : optE (chBel s m) = 9 := by rw [ht, optE]
        have e3 : optT 0 (chBel s m) = 0 := by rw [ht, optT]
        rw [e1, e2, e3]
        exact ⟨rfl, hl⟩
end Go.Proofs.Ytogkkhaepfablaa

/- Chance: the law of shuffled lists: in plain numbers. -/
namespace Go.Proofs.Ytogkkhaepfablaa
open Go.RowKit

/-! ### A shuffled list holds each number once -/
theorem swapL_perm {l : List Int} {i j : Nat} (hi : i < l.length) (hj : j < l.length) : (swapL l i j).Perm l := by
  unfold swapL
  rw [List.getElem?_eq_getElem hi, List.getElem?_eq_getElem hj]
  exact List.set_set_perm hi hj
theorem shufGo_perm : ∀ {k : Nat} {l : List Int} {s : Nat} {l' : List Int} {t : Nat}, k < l.length ∨ k = 0 → shufGo k l s = some (l', t) → l'.Perm l
  | 0, l, s, l', t, _, h => by
    rw [shufGo] at h
    cases h
    exact .refl _
  | k + 1, l, s, l', t, hk, h => by
    have hk : k + 1 < l.length := by omega
    obtain ⟨o, ho⟩ : ∃ o, chBel s (k + 2) = o := ⟨_, rfl⟩
    cases o with
    | none => rw [shufGo_none ho] at h; cases h
    | some p =>
      rw [shufGo_some ho] at h
      have hj : p.1 % (k + 2) < l.length := Nat.lt_of_lt_of_le (Nat.mod_lt _ (by omega)) (by omega)
      have h2 := swapL_perm hk hj
      exact (shufGo_perm (.inl (by rw [swapL_len]; omega)) h).trans h2
theorem idL_pair (n : Nat) : (idL n).Pairwise (fun x y : Int => x ≤ y) := by
  rw [List.pairwise_iff_getElem]
  intro i j hi hj hij
  have e : ∀ q (hq : q < (idL n).length), (idL n)[q] = (q : Int) := by
    intro q hq
    have h1 : q < n := by have := fillTo_len n n; unfold idL at hq; omega
    have h2 : (idL n)[q]? = some (q : Int) := by unfold idL; rw [fillTo_get, if_pos h1, if_pos h1]
    rw [List.getElem?_eq_getElem hq, Option.some.injEq] at h2
    exact h2
  rw [e, e]
  omega
theorem idL_get {n q : Nat} (h : q < n) : (idL n)[q]? = some (q : Int) := by unfold idL; rw [fillTo_get, if_pos h, if_pos h]
theorem sorted_id {n : Nat} {l : List Int} (h : l.Perm (idL n)) : (l.mergeSort fun x y => decide (x ≤ y)) = idL n := by
  have h1 := List.pairwise_mergeSort (le := fun (x y : Int) => decide (x ≤ y)) (fun a b c h1 h2 => by simp at *; omega) (fun a b => by simp; omega) l
  have h2 : (l.mergeSort fun x y => decide (x ≤ y)).Pairwise (fun x y : Int => x ≤ y) := h1.imp fun h => by simpa using h
  exact List.Perm.eq_of_pairwise (fun a b _ _ h3 h4 => by omega) h2 (idL_pair n) ((List.mergeSort_perm l _).trans h)
theorem shufOpt_perm {s n : Nat} {l : List Int} {t : Nat} (h : shufOpt s n = some (l, t)) : l.Perm (idL n) := by
  unfold shufOpt at h
  refine shufGo_perm ?_ h
  have := fillTo_len n n
  unfold idL
  omega
theorem shufOpt_lt {s n : Nat} (hs : s < 18446744073709551616) {l : List Int} {t : Nat} (h : shufOpt s n = some (l, t)) : t < 18446744073709551616 := by
  unfold shufOpt at h
  generalize idL n = l0 at h
  generalize n - 1 = k at h
  induction k generalizing l0 s with
  | zero => rw [shufGo] at h; cases h; exact hs
  | succ k ih =>
    obtain ⟨o, ho⟩ : ∃ o, chBel s (k + 2) = o := ⟨_, rfl⟩
    cases o with
    | none => rw [shufGo_none ho] at h; cases h
    | some p => rw [shufGo_some ho] at h; exact ih (chBel_lt ho) _ h

/-! ### Labels that differ lead to states that differ -/
theorem xs_inv2 {k a : Nat} (h : a < 2 ^ (3 * k)) : (a ^^^ a >>> k) ^^^ ((a ^^^ a >>> k) >>> k ^^^ (a ^^^ a >>> k) >>> (2 * k)) = a := by
  have h0 : a >>> k >>> (2 * k) = 0 := by
    rw [← Nat.shiftRight_add, Nat.shiftRight_eq_div_pow, show k + 2 * k = 3 * k by omega]
    exact Nat.div_eq_of_lt h
  have h1 : a >>> k >>> k = a >>> (2 * k) := by rw [← Nat.shiftRight_add, show k + k = 2 * k by omega]
  rw [Nat.shiftRight_xor_distrib, Nat.shiftRight_xor_distrib, h0, h1]
  apply Nat.eq_of_testBit_eq
  intro i
  simp only [Nat.testBit_xor, Nat.zero_testBit]
  cases a.testBit i <;> cases (a >>> k).testBit i <;> cases (a >>> (2 * k)).testBit i <;> rfl
theorem chM3_inj {a b : Nat} (ha : a < 18446744073709551616) (hb : b < 18446744073709551616) (h : chM3 a = chM3 b) : a = b := by
  have e : ∀ z, chM3 z = z ^^^ z >>> 31 := fun z => by unfold chM3; rw [Nat.shiftRight_eq_div_pow]
  rw [e, e] at h
  rw [← xs_inv2 (k := 31) (a := a) (by omega), ← xs_inv2 (k := 31) (a := b) (by omega), h]
theorem mulc_inj {z y c d : Nat} (hz : z < 18446744073709551616) (hy : y < 18446744073709551616) (hd : c * d % 18446744073709551616 = 1) (h : z * c % 18446744073709551616 = y * c % 18446744073709551616) : z = y := by
  rw [← mul_inv (z := z) (c := d) (d := c) hz hd, ← mul_inv (z := y) (c := d) (d := c) hy hd, h]
theorem xs_inj {k a b : Nat} (ha : a < 2 ^ (3 * k)) (hb : b < 2 ^ (3 * k)) (h : a ^^^ a >>> k = b ^^^ b >>> k) : a = b := by
  have h1 := xs_inv2 (k := k) ha
  have h2 := xs_inv2 (k := k) hb
  rw [h] at h1
  exact h1.symm.trans h2
theorem xs_lt (k : Nat) {z : Nat} (hz : z < 18446744073709551616) : z ^^^ z >>> k < 18446744073709551616 := Nat.xor_lt_two_pow (n := 64) hz (Nat.lt_of_le_of_lt (Nat.shiftRight_le _ _) hz)
theorem inv1 : 13787848793156543929 * 10871156337175269513 % 18446744073709551616 = 1 := by decide +kernel
theorem inv2 : 10723151780598845931 * 3573116690164977347 % 18446744073709551616 = 1 := by decide +kernel
theorem chM1_inj {a b : Nat} (ha : a < 18446744073709551616) (hb : b < 18446744073709551616) (h : chM1 a = chM1 b) : a = b := by
  have e : ∀ z, chM1 z = ((z ^^^ z >>> 30) * 13787848793156543929) % 18446744073709551616 := fun z => by unfold chM1; rw [Nat.shiftRight_eq_div_pow]
  rw [e, e] at h
  have h2 := mulc_inj (xs_lt 30 ha) (xs_lt 30 hb) inv1 h
  clear h e
  exact xs_inj (k := 30) (by omega) (by omega) h2
theorem chM2_inj {a b : Nat} (ha : a < 18446744073709551616) (hb : b < 18446744073709551616) (h : chM2 a = chM2 b) : a = b := by
  have e : ∀ z, chM2 z = ((z ^^^ z >>> 27) * 10723151780598845931) % 18446744073709551616 := fun z => by unfold chM2; rw [Nat.shiftRight_eq_div_pow]
  rw [e, e] at h
  have h2 := mulc_inj (xs_lt 27 ha) (xs_lt 27 hb) inv2 h
  clear h e
  exact xs_inj (k := 27) (by omega) (by omega) h2
theorem chMix_inj {a b : Nat} (ha : a < 18446744073709551616) (hb : b < 18446744073709551616) (h : chMix a = chMix b) : a = b :=
  chM1_inj ha hb (chM2_inj (chM1_lt _) (chM1_lt _) (chM3_inj (chM2_lt _) (chM2_lt _) h))
theorem chStep_inj {a b : Nat} (ha : a < 18446744073709551616) (hb : b < 18446744073709551616) (h : chStep a = chStep b) : a = b := by
  unfold chStep at h
  omega
theorem chSplit_inj {s a b : Nat} (hs : s < 18446744073709551616) (ha : a < 18446744073709551616) (hb : b < 18446744073709551616) (h : chSplit s a = chSplit s b) : a = b := by
  unfold chSplit at h
  have h1 := chMix_inj (chStep_lt _) (chStep_lt _) h
  have h2 := chStep_inj (Nat.xor_lt_two_pow (n := 64) hs (chMix_lt _)) (Nat.xor_lt_two_pow (n := 64) hs (chMix_lt _)) h1
  have h3 : chMix (chStep a) = chMix (chStep b) := by
    have : s ^^^ (s ^^^ chMix (chStep a)) = s ^^^ (s ^^^ chMix (chStep b)) := by rw [h2]
    rwa [← Nat.xor_assoc, ← Nat.xor_assoc, Nat.xor_self, Nat.zero_xor, Nat.zero_xor] at this
  exact chStep_inj ha hb (chMix_inj (chStep_lt _) (chStep_lt _) h3)
theorem split_iff {s : Nat} (hs : s < 18446744073709551616) {a b : Int} (ha : -9223372036854775808 ≤ a ∧ a < 9223372036854775808) (hb : -9223372036854775808 ≤ b ∧ b < 9223372036854775808) :
    ((chSplit s (a % 18446744073709551616).toNat : Nat) : Int) = ((chSplit s (b % 18446744073709551616).toNat : Nat) : Int) ↔ a = b := by
  constructor
  · intro h
    have h1 := chSplit_inj hs (by omega) (by omega) (Int.ofNat_inj.1 h)
    omega
  · rintro rfl; rfl
end Go.Proofs.Ytogkkhaepfablaa

/- Rows of numbers in a block that may have room behind them: read, written, sorted, copied (for a seat without the texts of the award). -/
namespace Go.Proofs.Ytogkkhaepfablaa
open Go.RowKit Go.Shelf
set_option linter.unusedSimpArgs false

/-- A block whose first n cells are the numbers xs. -/
def RowN (W : World) (g n : Nat) (xs : List Int) : Prop := ∃ cur, Blk W g 3 cur ∧ cur.toList.take n = xs.map (Value.int .i64) ∧ xs.length = n ∧ n ≤ cur.size
theorem RowN.keepP {M : Nat → Prop} {W w : World} {g n : Nat} {xs : List Int} (h : RowN W g n xs) (hl : LatP M W w) (hg : ¬ M g) : RowN w g n xs := by
  obtain ⟨cur, h1, h2⟩ := h
  exact ⟨cur, h1.keepP hl hg, h2⟩
theorem RowN.later {W w : World} {g n : Nat} {xs : List Int} (h : RowN W g n xs) (hl : Lat W w) : RowN w g n xs := by
  obtain ⟨cur, h1, h2⟩ := h
  exact ⟨cur, h1.later hl, h2⟩
theorem RowN.lt {W : World} {g n : Nat} {xs : List Int} (h : RowN W g n xs) : g < W.heap.size := by
  obtain ⟨cur, h1, h2⟩ := h
  exact h1.lt
theorem RowN.cell {W : World} {g n : Nat} {xs : List Int} (h : RowN W g n xs) {i : Nat} {x : Int} (hx : xs[i]? = some x) : W.cell? ⟨g, i, none⟩ = some (.int .i64 x) := by
  obtain ⟨cur, h1, h2, h3, h4⟩ := h
  rw [h1.cell i]
  have hi : i < xs.length := (List.getElem?_eq_some_iff.1 hx).1
  have : (cur.toList.take n)[i]? = some (.int .i64 x) := by rw [h2]; simp [hx]
  rw [List.getElem?_take] at this
  split at this
  · simpa using this
  · cases this
theorem RowN.slot {W : World} {g n : Nat} {xs : List Int} (h : RowN W g n xs) {i : Nat} (hi : i < xs.length) : ∃ x, xs[i]? = some x ∧ W.cell? ⟨g, i, none⟩ = some (.int .i64 x) ∧ W.frozen? ⟨g, i, none⟩ = false := by
  refine ⟨xs[i], List.getElem?_eq_getElem hi, h.cell (List.getElem?_eq_getElem hi), ?_⟩
  obtain ⟨cur, h1, _⟩ := h
  exact h1.frozen i
theorem RowN.set {W : World} {g n : Nat} {xs : List Int} (h : RowN W g n xs) {i : Nat} (_hi : i < xs.length) (x : Int) : RowN (W.setCell ⟨g, i, none⟩ (.int .i64 x)) g n (xs.set i x) := by
  obtain ⟨cur, h1, h2, h3, h4⟩ := h
  refine ⟨_, h1.set i _, ?_, by simpa using h3, by simpa using h4⟩
  rw [Array.toList_setIfInBounds, List.take_set, h2, List.map_set]
theorem RowN.sl {W : World} {g n : Nat} {xs : List Int} (h : RowN W g n xs) : Sl W .i64 (some ⟨g, 0, none⟩) n xs := by
  obtain ⟨cur, h1, h2, h3, h4⟩ := h
  refine ⟨h3, fun _ => ⟨_, rfl, h1.lt, fun i x hx => ?_⟩⟩
  have e : (⟨g, 0, none⟩ : Addr).add i = ⟨g, i, none⟩ := by unfold Addr.add; split <;> simp_all
  rw [e]
  exact RowN.cell ⟨cur, h1, h2, h3, h4⟩ hx
theorem RowN.of_blk {W : World} {g : Nat} {xs : List Int} (h : Blk W g 3 (nums .i64 xs)) : RowN W g xs.length xs :=
  ⟨_, h, by rw [show (nums .i64 xs).toList = xs.map (Value.int .i64) from rfl, List.take_of_length_le (by simp)], rfl, by simp [nums]⟩
theorem Own.rowN {w : World} {B : Nat} {v : Value} {xs : List Int} (h : Own w B 3 .i64 v xs) (hn : 0 < xs.length) : ∃ g c, v = .slice (some ⟨g, 0, none⟩) xs.length c ∧ RowN w g xs.length xs ∧ B ≤ g ∧ g < w.heap.size ∧ xs.length ≤ c := by
  obtain ⟨h1, h2⟩ := h
  rcases h2 with ⟨_, h0⟩ | ⟨g, cap, cur, hv, hb, hg, hnc, hm, hcs, ht⟩
  · omega
  · have hB : Blk w g 3 cur := hg
    refine ⟨g, cap, hv, ⟨cur, hB, by rw [Nat.mul_one] at ht; exact ht, rfl, by omega⟩, hb, hB.lt, hnc⟩
/-- Two places exchanged, one behind the other. -/
theorem swapL_of {l : List Int} {i j : Nat} {xi xj : Int} (hi : l[i]? = some xi) (hj : l[j]? = some xj) : (l.set i xj).set j xi = swapL l i j := by unfold swapL; rw [hi, hj]; rfl
end Go.Proofs.Ytogkkhaepfablaa

/- Rows of numbers: copied and sorted (for a seat without the texts of the award). -/
namespace Go.Proofs.Ytogkkhaepfablaa
open Go.RowKit Go.Shelf Go.Sort
set_option linter.unusedSimpArgs false
set_option linter.unusedVariables false

theorem rowN_holds {w : World} {g n : Nat} {xs : List Int} (h : RowN w g n xs) : Holds (Value.int .i64) w g 0 xs.toArray := by
  intro j hj
  have hj' : j < xs.length := by simpa using hj
  obtain ⟨cur, hb, _⟩ := id h
  refine ⟨?_, hb.frozen _⟩
  rw [Nat.zero_add, h.cell (List.getElem?_eq_getElem hj')]
  simp [hj']
theorem putRow_rowN {w w' : World} {g n q : Nat} {os : Array Obj} {xs ys : List Int} (h : RowN w g n xs) (hy : ys.length = n) (e : w' = grow (putRow (Value.int .i64) (Sort.ahead w q) g 0 ys.toArray) os) : RowN w' g n ys ∧ LatP (· = g) w w' := by
  obtain ⟨cur, hb, h1, h2, h3⟩ := h
  have hlt := hb.lt
  have hsz : (putRow (Value.int .i64) (Sort.ahead w q) g 0 ys.toArray).heap.size = w.heap.size := by simp [putRow, mapBlock, Sort.ahead]
  have hnew : w'.heap[g]? = some (.cells (putCells (Value.int .i64) 0 ys.toArray cur) 3 (0, 0)) := by
    rw [e, heap_grow_old _ _ (by rw [hsz]; exact hlt)]
    unfold Blk at hb
    simp [putRow, mapBlock, Sort.ahead, Array.getElem?_modify, hb, onCells]
  refine ⟨⟨_, hnew, ?_, hy, by simp [putCells]; exact h3⟩, ?_⟩
  · apply List.ext_getElem?
    intro k
    rw [List.getElem?_take, List.getElem?_map]
    split
    · rename_i hk
      have hk' : k < ys.length := by omega
      have hkc : k < cur.size := by omega
      simp [putCells, Array.getElem?_mapIdx, hk', hkc, List.getElem?_eq_getElem hk']
    · rw [List.getElem?_eq_none (by omega)]; rfl
  · refine ⟨by rw [e]; rfl, by rw [e]; rfl, by rw [e]; rfl, by rw [e]; simp [grow, hsz], fun k hk hne => ?_⟩
    rw [e, heap_grow_old _ _ (by rw [hsz]; exact hk)]
    have hne' : ¬ g = k := fun h => hne h.symm
    simp [putRow, mapBlock, Sort.ahead, Array.getElem?_modify, hne']
theorem sort_row {w : World} {g n c : Nat} {xs : List Int} (h : RowN w g n xs) (hn : n ≤ 1000) :
    Calls Try.prog 27 #[.slice (some ⟨g, 0, none⟩) n c] w (fun e w' => e = .returned (.tuple #[]) ∧ RowN w' g n (xs.mergeSort fun x y => decide (x ≤ y)) ∧ LatP (· = g) w w') := by
  have hl : xs.length = n := h.sl.1
  have := Try.slices_Sort_int g 0 c xs w (rowN_holds h) h.lt (by omega)
  rw [hl] at this
  refine this.mono ?_
  rintro e w' ⟨rfl, q, os, hw⟩
  exact ⟨rfl, putRow_rowN h (by rw [List.length_mergeSort]; exact hl) hw⟩
theorem clone_row {w : World} {g n c : Nat} {xs : List Int} (h : RowN w g n xs) (hn : n ≤ 1000) :
    Calls Try.prog 26 #[.slice (some ⟨g, 0, none⟩) n c] w (fun e w' => ∃ g' c', e = .returned (.slice (some ⟨g', 0, none⟩) n c') ∧ RowN w' g' n xs ∧ w.heap.size ≤ g' ∧ Lat w w') := by
  have hl : xs.length = n := h.sl.1
  rcases Nat.eq_zero_or_pos n with h0 | h0
  · subst h0
    obtain rfl := List.eq_nil_of_length_eq_zero hl
    refine (Try.slices_Clone_int_zero ⟨g, 0, none⟩ c w).mono ?_
    rintro e w' ⟨v, rfl, ⟨h1, h2⟩, hne, hb⟩
    rcases h2 with ⟨rfl, _⟩ | ⟨g', cap, cur, rfl, hB, hg, hnc, _, hcs, ht⟩
    · exact absurd rfl hne
    · exact ⟨g', cap, rfl, ⟨cur, hg, by simp, rfl, by omega⟩, hB, hb⟩
  · refine (Try.slices_Clone_int g 0 n c xs w (by omega) (by omega) (fun j hj => ?_)).mono ?_
    · rw [Nat.zero_add, h.cell (List.getElem?_eq_getElem hj), List.getD_eq_getElem?_getD, List.getElem?_eq_getElem hj]
      rfl
    rintro e w' ⟨v, rfl, ⟨h1, h2⟩, hne, hb⟩
    rcases h2 with ⟨rfl, _⟩ | ⟨g', cap, cur, rfl, hB, hg, hnc, _, hcs, ht⟩
    · exact absurd rfl hne
    · refine ⟨g', cap, rfl, ⟨cur, hg, ?_, hl, by omega⟩, hB, hb⟩
      rw [Nat.mul_one, List.take_of_length_le (by omega : xs.length ≤ n)] at ht
      exact ht
end Go.Proofs.Ytogkkhaepfablaa

/- Chance: the reference's Shuffle. -/
namespace Go.Proofs.Ytogkkhaepfablaa
open Go.RowKit Go.Shelf
set_option linter.unusedSimpArgs false
set_option linter.unusedVariables false

theorem idL_succ (n : Nat) : idL (n + 1) = idL n ++ [(n : Int)] := by
  apply List.ext_getElem?
  intro j
  unfold idL
  rw [fillTo_get, List.getElem?_append, fillTo_len, fillTo_get]
  by_cases h : j < n
  · rw [if_pos (by omega), if_pos (by omega), if_pos h, if_pos h, if_pos h]
  · rw [if_neg h]
    by_cases h2 : j = n
    · subst h2; simp
    · rw [if_neg (by omega), List.getElem?_eq_none (by simp; omega)]
theorem idL_len (n : Nat) : (idL n).length = n := fillTo_len n n
theorem bel_facts {t m : Nat} (ht : t < 18446744073709551616) (h1 : 1 ≤ m) (h2 : m < 9223372036854775808) : belV t (m : Int) = optR m (chBel t m) ∧ belS t (m : Int) = optT 0 (chBel t m) ∧ belE t (m : Int) = optE (chBel t m) := by
  unfold belV belS belE
  rw [if_neg (by omega), if_neg (by omega), if_neg (by omega), Int.toNat_natCast]
  exact ⟨rfl, rfl, rfl⟩
/-- The numbers of one exchange. -/
structure ShR (i n m : Nat) : Prop where
  hm : m = i + 1
  e1 : wrap64 ((i : Int) + 1) = (m : Int)
  e4 : wrap64 ((i : Int) - 1) = ((i - 1 : Nat) : Int)
theorem shR (i n : Nat) (h : 1 ≤ i) (hn : i < n) (hl : n ≤ 400) : ShR i n (i + 1) :=
  ⟨rfl, by rw [IntWalk.wrap64_in _ (by omega)]; omega, by rw [IntWalk.wrap64_in _ (by omega)]; omega⟩

set_option maxRecDepth 100000 in
set_option maxHeartbeats 4000000 in
theorem rshuffle_in (s n : Nat) (hs : s < 18446744073709551616) (hn : n ≤ 400) (w : World) :
    Calls Try.prog 10 #[.agg #[.int .u64 s], .int .i64 n] w (ShufEnd w (optL (shufOpt s n)) (optT 0 (shufOpt s n)) (optE (shufOpt s n))) := by
  have hn0 : ¬ (n : Int) < 0 := by omega
  have hn4 : ¬ (400 : Int) < (n : Int) := by omega
  go_enter Try.func10, Try.ntmps10
  go_upto_region 1 with (fail)
  refine name2 (Q := fun W => Code.wp _ _ _ _ W) ?_
  intro W hl hs' k2 k5
  obtain ⟨g2, hg2⟩ : ∃ z, w.heap.size = z := ⟨_, rfl⟩
  obtain ⟨g5, hg5⟩ : ∃ z, w.heap.size + 1 = z := ⟨_, rfl⟩
  rw [hg2] at k2
  rw [hg5] at k5
  have hb : w.heap.size ≤ g2 ∧ g2 < g5 := by omega
  rw [hg5, hg2]
  have h5W : g5 < W.heap.size := k5.lt
  clear hs' hg2 hg5
  go_wp2_with fail
  go_loopw [7, 8] (fun v i wr => ∃ k : Nat, k ≤ n ∧ i = .int .i64 k ∧ Own wr W.heap.size 3 .i64 v (idL k) ∧ Lat W wr) (fun _ i _ => n - (intOf i).toNat)
  case atStart => exact ⟨0, by omega, rfl, Own.nil _ _ _ _, Lat.refl _⟩
  case round =>
    obtain ⟨k, hk, rfl, hown, hlr⟩ := hrel
    by_cases hkn : k < n
    · have hkI : (k : Int) < (n : Int) := by omega
      have hol : (idL k).length ≤ 1000000 := by rw [idL_len]; omega
      have hle := hlr.size
      go_wp2_with (at_builtin; refine wpList_push rfl _ _ 28 rfl W.heap.size 3 3 .i64 8 Try.underlying28 infoI64 (by decide) _ (idL k) [_] _ rfl wr (by rfl) hown 1 rfl (by decide) (by rfl) (by omega) hle ?_; intro v' w1 hown1 hlat1)
      go_roundw
      case rel => exact ⟨k + 1, by omega, by go_num, by rw [idL_succ]; exact hown1, hlat1 W hlr (Nat.le_refl _)⟩
      case measure => simp [intOf]; omega
    · obtain rfl : k = n := by omega
      clear hkn hk
      have k2 := k2.later hlr
      have k5 := k5.later hlr
      have L5 := hl.trans hlr
      obtain ⟨A, c, rfl, hA0, hA⟩ : ∃ A c, u7 = .slice A k c ∧ (k = 0 → A = none ∨ True) ∧ (0 < k → ∃ g, A = some ⟨g, 0, none⟩ ∧ RowN wr g k (idL k) ∧ W.heap.size ≤ g) := by
        rcases Nat.eq_zero_or_pos k with h0 | h0
        · obtain ⟨A, c, e, _, _, _⟩ := hown.form
          rw [idL_len] at e
          exact ⟨A, c, e, fun _ => .inr trivial, fun h => by omega⟩
        · obtain ⟨g, c, e, r, h1, _, _⟩ := hown.rowN (by rw [idL_len]; exact h0)
          rw [idL_len] at e r
          exact ⟨_, c, e, fun _ => .inr trivial, fun _ => ⟨g, rfl, r, h1⟩⟩
      have hA2 : 0 < k → ∃ g, A = some ⟨g, 0, none⟩ ∧ RowN wr g k (idL k) ∧ w.heap.size ≤ g ∧ g2 ≠ g ∧ g5 ≠ g := fun h => by
        obtain ⟨g, e, r, h1⟩ := hA h
        exact ⟨g, e, r, by omega, by omega, by omega⟩
      clear hA hA0 hown hlr
      go_wp2_with fail
      go_loopw [9] (fun i W => ∃ (ii : Int) (l : List Int) (t : Nat), i = .int .i64 ii ∧ -1 ≤ ii ∧ ii < k ∧ l.length = k ∧ t < 18446744073709551616 ∧ shufGo ii.toNat l t = shufOpt s k ∧ (0 < k → ∃ g, A = some ⟨g, 0, none⟩ ∧ RowN W g k l ∧ w.heap.size ≤ g ∧ g2 ≠ g ∧ g5 ≠ g) ∧ Blk W g2 24 #[.int .u64 (t : Nat)] ∧ Blk W g5 24 #[.int .u64 0] ∧ Lat w W) (fun i _ => (intOf i).toNat)
      case atStart => exact ⟨(k : Int) - 1, idL k, s, rfl, by omega, by omega, idL_len k, hs, by rw [shufOpt, show ((k : Int) - 1).toNat = k - 1 by omega], hA2, k2, k5, L5⟩
      case round =>
        rename_i wr
        clear k2 k5 L5 hA2 hl
        obtain ⟨ii, l, t, rfl, hi0, hi1, hll, ht, hgo, hA, k2, k5, L5⟩ := hrel
        have HGO := Lib.hid hgo
        clear hgo hs
        by_cases h1 : 1 ≤ ii
        · obtain ⟨i0, rfl⟩ := Int.eq_ofNat_of_zero_le (show 0 ≤ ii by omega)
          have hi : 1 ≤ i0 := by omega
          obtain ⟨m, hN⟩ : ∃ m, ShR i0 k m := ⟨_, shR i0 k hi (by omega) hn⟩
          obtain ⟨hm, e1, e4⟩ := hN
          obtain ⟨g, rfl, row, hwg, hg2, hg5⟩ := hA (by omega)
          obtain ⟨f1, f2, f3⟩ := bel_facts (m := m) ht (by omega) (by omega)
          have HB := fun W => rBelow_any t ht (m : Int) (by omega) W
          obtain ⟨o, ho⟩ : ∃ o, chBel t m = o := ⟨_, rfl⟩
          rw [f1, f2, f3, ho] at HB
          obtain ⟨r, hr⟩ : ∃ r, optR m o = r := ⟨_, rfl⟩
          obtain ⟨en, hen⟩ : ∃ en, optE o = en := ⟨_, rfl⟩
          obtain ⟨t', ht'⟩ : ∃ t', optT 0 o = t' := ⟨_, rfl⟩
          rw [hr, hen, ht'] at HB
          have HO := Lib.hid (show chBel t m = o ∧ optR m o = r ∧ optE o = en ∧ optT 0 o = t' ∧ m = i0 + 1 ∧ t < 18446744073709551616 from ⟨ho, hr, hen, ht', hm, ht⟩)
          have hmi : (m : Int) = (i0 : Int) + 1 := by omega
          rw [hmi] at HB e1
          clear f1 f2 f3 ho hr hen ht' hm ht hmi
          have c2 : wr.cell? ⟨g2, 0, none⟩ = some (.int .u64 (t : Int)) := k2.cell 0
          go_wp2_with fail
          refine (HB wr).mono ?_
          rintro e w1 ⟨rfl, l1⟩
          replace k2 := k2.later l1
          replace k5 := k5.later l1
          replace row := row.later l1
          have L6 := L5.trans l1
          clear HB l1 L5 c2 hA e1
          go_upto_region 12 with (fail)
          refine name1 (Q := fun W => Code.wp _ _ _ _ W) ?_
          intro w2 l2 hs2 k11
          replace k2 := k2.later l2
          replace k5 := k5.later l2
          replace row := row.later l2
          replace L6 := L6.trans l2
          obtain ⟨g11, hg11⟩ : ∃ z, w1.heap.size = z := ⟨_, rfl⟩
          rw [hg11] at k11 ⊢
          clear l2 hs2 hg11
          obtain ⟨h1o, h2o, h3o, h4o, h5o, h6o⟩ := HO.out
          cases o with
          | none =>
            have hg0 := HGO.out
            rw [Int.toNat_natCast, shufGo_no (l := l) hi h5o h1o] at hg0
            have HN := Lib.hid hg0
            rw [optR] at h2o
            rw [optE] at h3o
            subst h2o h3o
            clear h1o h4o h5o h6o HO HGO hg0
            have d5 : w2.cell? ⟨g5, 0, none⟩ = some (.int .u64 0) := k5.cell 0
            have f5 := k5.frozen 0
            have lt5 := k5.lt
            go_wp2
            refine name_set (Q := fun W => bodyPost _ _ _ _ _ W) k5 ?_
            intro W6 k6 _ _ lp6
            have g0 : W6.cell? ⟨g5, 0, none⟩ = some (.int .u64 0) := k6.cell 0
            refine bodyPost_ret (v := .tuple #[.slice none 0 0, .agg #[.int .u64 0], .int .i64 9]) (by simp [results, Try.results10, go_sem, g0]) rfl ?_
            rw [← HN.out]
            exact ⟨none, 0, 0, rfl, Sl.nil _ _ _, lp6.narrow L6 (by omega)⟩
          | some q =>
            have hg0 := HGO.out
            rw [Int.toNat_natCast, shufGo_yes (l := l) hi h5o h1o] at hg0
            have ht' := chBel_lt h1o
            rw [optR] at h2o
            rw [optE] at h3o
            rw [optT] at h4o
            have hjl : q.1 % m < m := Nat.mod_lt _ (by omega)
            obtain ⟨j, hj⟩ : ∃ j, q.1 % m = j := ⟨_, rfl⟩
            rw [hj] at h2o hg0 hjl
            rw [h4o] at hg0 ht'
            subst h2o h3o
            have hik : i0 < k := by omega
            have hjk : j < k := by omega
            have HG2 := Lib.hid hg0
            clear h1o h4o h6o HO HGO hj hg0
            have c11 : w2.cell? ⟨g11, 0, none⟩ = some (.int .u64 (t' : Int)) := k11.cell 0
            have c2 : w2.cell? ⟨g2, 0, none⟩ = some (.int .u64 (t : Int)) := k2.cell 0
            have f2 := k2.frozen 0
            have lt2 := k2.lt
            go_upto_region 15 with (fail)
            refine name_set (Q := fun W => Code.wp _ _ _ _ W) k2 ?_
            intro W7 k2' _ _ lp
            replace k5 := k5.keepP lp (by omega)
            replace row := row.keepP lp (by omega)
            replace L6 := lp.narrow L6 hb.1
            replace k2 : Blk W7 g2 24 #[.int .u64 (t' : Nat)] := k2'
            clear k2' lp c11 c2 f2 lt2
            have hikI : (i0 : Int) < (k : Int) := by omega
            have hjkI : (j : Int) < (k : Int) := by omega
            have LD := Lat.drew W7
            refine wp_region_held_drew (S := fun _ => True) (by kernel_rfl) trivial (fun hHeld => ?_)
            generalize W7.drew = V0 at LD hHeld ⊢
            have row0 := row.later LD
            obtain ⟨xi, hxi, ci, fi⟩ := row0.slot (i := i0) (by omega)
            obtain ⟨xj, hxj, cj, fj⟩ := row0.slot (i := j) (by omega)
            have h8 := row0.lt
            refine wpAnyH_take (i := 0) (v := .slice (some ⟨g, 0, none⟩) k c) rfl (by kernel_rfl) (by kernel_rfl) (by kernel_rfl) (fun _ _ _ h => h) (Or.inl ⟨by rfl, by intro w' hS; go_simp⟩) hHeld ?_
            simp only [Act.put, List.getElem_toArray, List.getElem_cons_succ, List.getElem_cons_zero, List.setIfInBounds_toArray, List.set_cons_zero, List.set_cons_succ]
            refine wpAnyH_take (i := 1) (v := .int .i64 (i0 : Int)) rfl (by kernel_rfl) (by kernel_rfl) (by kernel_rfl) (fun _ _ _ h => h) (Or.inl ⟨by rfl, by intro w' hS; go_simp⟩) hHeld ?_
            simp only [Act.put, List.getElem_toArray, List.getElem_cons_succ, List.getElem_cons_zero, List.setIfInBounds_toArray, List.set_cons_zero, List.set_cons_succ]
            refine wpAnyH_take (i := 2) (v := .slice (some ⟨g, 0, none⟩) k c) rfl (by kernel_rfl) (by kernel_rfl) (by kernel_rfl) (fun _ _ _ h => h) (Or.inl ⟨by rfl, by intro w' hS; go_simp⟩) hHeld ?_
            simp only [Act.put, List.getElem_toArray, List.getElem_cons_succ, List.getElem_cons_zero, List.setIfInBounds_toArray, List.set_cons_zero, List.set_cons_succ]
            refine wpAnyH_take (i := 3) (v := .int .i64 (j : Int)) rfl (by kernel_rfl) (by kernel_rfl) (by kernel_rfl) (fun _ _ _ h => h) (Or.inl ⟨by rfl, by intro w' hS; go_simp⟩) hHeld ?_
            simp only [Act.put, List.getElem_toArray, List.getElem_cons_succ, List.getElem_cons_zero, List.setIfInBounds_toArray, List.set_cons_zero, List.set_cons_succ]
            refine wpAnyH_take (i := 4) (v := .slice (some ⟨g, 0, none⟩) k c) rfl (by kernel_rfl) (by kernel_rfl) (by kernel_rfl) (fun _ _ _ h => h) (Or.inl ⟨by rfl, by intro w' hS; go_simp⟩) hHeld ?_
            simp only [Act.put, List.getElem_toArray, List.getElem_cons_succ, List.getElem_cons_zero, List.setIfInBounds_toArray, List.set_cons_zero, List.set_cons_succ]
            refine wpAnyH_take (i := 5) (v := .int .i64 (j : Int)) rfl (by kernel_rfl) (by kernel_rfl) (by kernel_rfl) (fun _ _ _ h => h) (Or.inl ⟨by rfl, by intro w' hS; go_simp⟩) hHeld ?_
            simp only [Act.put, List.getElem_toArray, List.getElem_cons_succ, List.getElem_cons_zero, List.setIfInBounds_toArray, List.set_cons_zero, List.set_cons_succ]
            refine wpAnyH_take (i := 6) (v := .pointer (some ⟨g, j, none⟩)) rfl (by kernel_rfl) (by kernel_rfl) (by kernel_rfl) (fun _ _ _ h => h) (Or.inl ⟨by rfl, by intro w' hS; go_simp⟩) hHeld ?_
            simp only [Act.put, List.getElem_toArray, List.getElem_cons_succ, List.getElem_cons_zero, List.setIfInBounds_toArray, List.set_cons_zero, List.set_cons_succ]
            refine wpAnyH_take (i := 8) (v := .slice (some ⟨g, 0, none⟩) k c) rfl (by kernel_rfl) (by kernel_rfl) (by kernel_rfl) (fun _ _ _ h => h) (Or.inl ⟨by rfl, by intro w' hS; go_simp⟩) hHeld ?_
            simp only [Act.put, List.getElem_toArray, List.getElem_cons_succ, List.getElem_cons_zero, List.setIfInBounds_toArray, List.set_cons_zero, List.set_cons_succ]
            refine wpAnyH_take (i := 9) (v := .int .i64 (i0 : Int)) rfl (by kernel_rfl) (by kernel_rfl) (by kernel_rfl) (fun _ _ _ h => h) (Or.inl ⟨by rfl, by intro w' hS; go_simp⟩) hHeld ?_
            simp only [Act.put, List.getElem_toArray, List.getElem_cons_succ, List.getElem_cons_zero, List.setIfInBounds_toArray, List.set_cons_zero, List.set_cons_succ]
            refine wpAnyH_take (i := 10) (v := .pointer (some ⟨g, i0, none⟩)) rfl (by kernel_rfl) (by kernel_rfl) (by kernel_rfl) (fun _ _ _ h => h) (Or.inl ⟨by rfl, by intro w' hS; go_simp⟩) hHeld ?_
            simp only [Act.put, List.getElem_toArray, List.getElem_cons_succ, List.getElem_cons_zero, List.setIfInBounds_toArray, List.set_cons_zero, List.set_cons_succ]
            refine wpAnyH_ready (rs := [7, 11]) (by kernel_rfl) (by simp) (AllReadyH.cons rfl (fun K hK => ?_) (AllReadyH.cons rfl (fun K hK => ?_) AllReadyH.nil))
            · skip
              go_simp
              refine hK.out _ _ trivial (fun hHeld1 => ?_)
              clear hK K
              try simp only [Act.put, List.getElem_toArray, List.getElem_cons_succ, List.getElem_cons_zero, List.setIfInBounds_toArray, List.set_cons_zero, List.set_cons_succ]
              refine wpAnyH_ready (rs := [11]) (by kernel_rfl) (by simp) (AllReadyH.cons rfl (fun K hK => ?_) AllReadyH.nil)
              go_simp
              refine hK.out _ _ trivial (fun hHeld2 => ?_)
              clear hK K
              try simp only [Act.put, List.getElem_toArray, List.getElem_cons_succ, List.getElem_cons_zero, List.setIfInBounds_toArray, List.set_cons_zero, List.set_cons_succ]
              refine wpAnyH_take (i := 12) (v := .pointer (some ⟨g, i0, none⟩)) rfl (by kernel_rfl) (by kernel_rfl) (by kernel_rfl) (fun _ _ _ h => h) (Or.inl ⟨by rfl, by intro w' hS; go_simp⟩) hHeld2 ?_
              simp only [Act.put, List.getElem_toArray, List.getElem_cons_succ, List.getElem_cons_zero, List.setIfInBounds_toArray, List.set_cons_zero, List.set_cons_succ]
              refine wpAnyH_ready (rs := [13]) (by kernel_rfl) (by simp) (AllReadyH.cons rfl (fun K hK => ?_) AllReadyH.nil)
              go_simp
              have row1 := row0.set (i := i0) (by omega) xj
              have lp1 := LatP.setCells (g := g) [.int .i64 xj] V0 i0
              have lp1 : LatP (· = g) V0 (V0.setCell ⟨g, i0, none⟩ (.int .i64 xj)) := lp1
              obtain ⟨V1, hV1⟩ : ∃ V, V0.setCell ⟨g, i0, none⟩ (.int .i64 xj) = V := ⟨_, rfl⟩
              rw [hV1] at row1 lp1 ⊢
              clear hV1 ci fi cj fj
              obtain ⟨xk, hxk, cj, fj⟩ := row1.slot (i := j) (by rw [List.length_set]; omega)
              have h9 := row1.lt
              refine hK.out _ _ trivial (fun hHeld3 => ?_)
              clear hK K
              try simp only [Act.put, List.getElem_toArray, List.getElem_cons_succ, List.getElem_cons_zero, List.setIfInBounds_toArray, List.set_cons_zero, List.set_cons_succ]
              refine wpAnyH_take (i := 14) (v := .pointer (some ⟨g, j, none⟩)) rfl (by kernel_rfl) (by kernel_rfl) (by kernel_rfl) (fun _ _ _ h => h) (Or.inl ⟨by rfl, by intro w' hS; go_simp⟩) hHeld3 ?_
              simp only [Act.put, List.getElem_toArray, List.getElem_cons_succ, List.getElem_cons_zero, List.setIfInBounds_toArray, List.set_cons_zero, List.set_cons_succ]
              refine wpAnyH_ready (rs := [15]) (by kernel_rfl) (by simp) (AllReadyH.cons rfl (fun K hK => ?_) AllReadyH.nil)
              go_simp
              have row2 := row1.set (i := j) (by rw [List.length_set]; omega) xi
              have lp2 := LatP.setCells (g := g) [.int .i64 xi] V1 j
              have lp2 : LatP (· = g) V1 (V1.setCell ⟨g, j, none⟩ (.int .i64 xi)) := lp2
              obtain ⟨V2, hV2⟩ : ∃ V, V1.setCell ⟨g, j, none⟩ (.int .i64 xi) = V := ⟨_, rfl⟩
              rw [hV2] at row2 lp2 ⊢
              clear hV2 cj fj hxk
              refine hK.out _ _ trivial (fun hHeld4 => ?_)
              clear hK K
              try simp only [Act.put, List.getElem_toArray, List.getElem_cons_succ, List.getElem_cons_zero, List.setIfInBounds_toArray, List.set_cons_zero, List.set_cons_succ]
              refine wpAnyH_done (by kernel_rfl) ?_ _
              rw [swapL_of hxi hxj] at row2
              have lpS := ((LD.p (· = g)).trans lp1).trans lp2
              clear hxi hxj lp1 lp2 row1 row0 LD h8 h9 row hHeld hHeld1 hHeld2 hHeld3 hHeld4
              have j2 := k2.keepP lpS (by omega)
              have j5 := k5.keepP lpS (by omega)
              have L7 := lpS.narrow L6 (by omega)
              go_wp2
              exact ⟨⟨(i0 : Int) - 1, swapL l i0 j, t', rfl, by omega, by omega, by rw [swapL_len]; exact hll, ht', by rw [show ((i0 : Int) - 1).toNat = i0 - 1 by omega]; exact HG2.out, fun _ => ⟨g, rfl, row2, hwg, hg2, hg5⟩, j2, j5, L7⟩, by show ((i0 : Int) - 1).toNat < (i0 : Int).toNat; omega⟩
            · skip
              go_simp
              refine hK.out _ _ trivial (fun hHeld1 => ?_)
              clear hK K
              try simp only [Act.put, List.getElem_toArray, List.getElem_cons_succ, List.getElem_cons_zero, List.setIfInBounds_toArray, List.set_cons_zero, List.set_cons_succ]
              refine wpAnyH_ready (rs := [7]) (by kernel_rfl) (by simp) (AllReadyH.cons rfl (fun K hK => ?_) AllReadyH.nil)
              go_simp
              refine hK.out _ _ trivial (fun hHeld2 => ?_)
              clear hK K
              try simp only [Act.put, List.getElem_toArray, List.getElem_cons_succ, List.getElem_cons_zero, List.setIfInBounds_toArray, List.set_cons_zero, List.set_cons_succ]
              refine wpAnyH_take (i := 12) (v := .pointer (some ⟨g, i0, none⟩)) rfl (by kernel_rfl) (by kernel_rfl) (by kernel_rfl) (fun _ _ _ h => h) (Or.inl ⟨by rfl, by intro w' hS; go_simp⟩) hHeld2 ?_
              simp only [Act.put, List.getElem_toArray, List.getElem_cons_succ, List.getElem_cons_zero, List.setIfInBounds_toArray, List.set_cons_zero, List.set_cons_succ]
              refine wpAnyH_ready (rs := [13]) (by kernel_rfl) (by simp) (AllReadyH.cons rfl (fun K hK => ?_) AllReadyH.nil)
              go_simp
              have row1 := row0.set (i := i0) (by omega) xj
              have lp1 := LatP.setCells (g := g) [.int .i64 xj] V0 i0
              have lp1 : LatP (· = g) V0 (V0.setCell ⟨g, i0, none⟩ (.int .i64 xj)) := lp1
              obtain ⟨V1, hV1⟩ : ∃ V, V0.setCell ⟨g, i0, none⟩ (.int .i64 xj) = V := ⟨_, rfl⟩
              rw [hV1] at row1 lp1 ⊢
              clear hV1 ci fi cj fj
              obtain ⟨xk, hxk, cj, fj⟩ := row1.slot (i := j) (by rw [List.length_set]; omega)
              have h9 := row1.lt
              refine hK.out _ _ trivial (fun hHeld3 => ?_)
              clear hK K
              try simp only [Act.put, List.getElem_toArray, List.getElem_cons_succ, List.getElem_cons_zero, List.setIfInBounds_toArray, List.set_cons_zero, List.set_cons_succ]
              refine wpAnyH_take (i := 14) (v := .pointer (some ⟨g, j, none⟩)) rfl (by kernel_rfl) (by kernel_rfl) (by kernel_rfl) (fun _ _ _ h => h) (Or.inl ⟨by rfl, by intro w' hS; go_simp⟩) hHeld3 ?_
              simp only [Act.put, List.getElem_toArray, List.getElem_cons_succ, List.getElem_cons_zero, List.setIfInBounds_toArray, List.set_cons_zero, List.set_cons_succ]
              refine wpAnyH_ready (rs := [15]) (by kernel_rfl) (by simp) (AllReadyH.cons rfl (fun K hK => ?_) AllReadyH.nil)
              go_simp
              have row2 := row1.set (i := j) (by rw [List.length_set]; omega) xi
              have lp2 := LatP.setCells (g := g) [.int .i64 xi] V1 j
              have lp2 : LatP (· = g) V1 (V1.setCell ⟨g, j, none⟩ (.int .i64 xi)) := lp2
              obtain ⟨V2, hV2⟩ : ∃ V, V1.setCell ⟨g, j, none⟩ (.int .i64 xi) = V := ⟨_, rfl⟩
              rw [hV2] at row2 lp2 ⊢
              clear hV2 cj fj hxk
              refine hK.out _ _ trivial (fun hHeld4 => ?_)
              clear hK K
              try simp only [Act.put, List.getElem_toArray, List.getElem_cons_succ, List.getElem_cons_zero, List.setIfInBounds_toArray, List.set_cons_zero, List.set_cons_succ]
              refine wpAnyH_done (by kernel_rfl) ?_ _
              rw [swapL_of hxi hxj] at row2
              have lpS := ((LD.p (· = g)).trans lp1).trans lp2
              clear hxi hxj lp1 lp2 row1 row0 LD h8 h9 row hHeld hHeld1 hHeld2 hHeld3 hHeld4
              have j2 := k2.keepP lpS (by omega)
              have j5 := k5.keepP lpS (by omega)
              have L7 := lpS.narrow L6 (by omega)
              go_wp2
              exact ⟨⟨(i0 : Int) - 1, swapL l i0 j, t', rfl, by omega, by omega, by rw [swapL_len]; exact hll, ht', by rw [show ((i0 : Int) - 1).toNat = i0 - 1 by omega]; exact HG2.out, fun _ => ⟨g, rfl, row2, hwg, hg2, hg5⟩, j2, j5, L7⟩, by show ((i0 : Int) - 1).toNat < (i0 : Int).toNat; omega⟩
        · have hg0 := HGO.out
          rw [show ii.toNat = 0 by omega, shufGo] at hg0
          have HN := Lib.hid hg0
          clear HGO hg0
          have c2 : wr.cell? ⟨g2, 0, none⟩ = some (.int .u64 (t : Int)) := k2.cell 0
          have c2d : wr.drew.cell? ⟨g2, 0, none⟩ = some (.int .u64 (t : Int)) := k2.cell 0
          have f5 := k5.frozen 0
          have d5 : wr.cell? ⟨g5, 0, none⟩ = some (.int .u64 0) := k5.cell 0
          have h5 := k5.lt
          have hn25 : g2 ≠ g5 := by omega
          go_wp2_with fail
          go_region_held3 (fun w' => w'.cell? ⟨g2, 0, none⟩ = some (.int .u64 (t : Int))) (first | (with_reducible assumption) | exact cell_off hn25 _ c2d) (fail)
          all_goals
            go_wp2
            have e3 : ((wr.setCell ⟨g5, 0, none⟩ (.int .u64 (t : Int))).drew).cell? ⟨g5, 0, none⟩ = some (.int .u64 (t : Int)) := by
              have := (k5.set 0 (.int .u64 (t : Int))).cell 0
              simpa using this
            have lpA : LatP (· = g5) wr (wr.setCell ⟨g5, 0, none⟩ (.int .u64 (t : Int))) := LatP.setCells [.int .u64 (t : Int)] wr 0
            have LF : Lat w ((wr.setCell ⟨g5, 0, none⟩ (.int .u64 (t : Int))).drew) := (lpA.narrow L5 (by omega)).trans (Lat.drew _)
            refine bodyPost_ret (v := .tuple #[.slice A k c, .agg #[.int .u64 (t : Int)], .int .i64 0]) (by simp [results, Try.results10, go_sem, e3]) rfl ?_
            rw [← HN.out]
            refine ⟨_, _, _, rfl, ?_, LF⟩
            rcases Nat.eq_zero_or_pos k with h0 | h0
            · subst h0
              obtain rfl := List.eq_nil_of_length_eq_zero hll
              exact Sl.nil _ _ _
            · obtain ⟨g, rfl, row, _, _, hgg⟩ := hA h0
              exact ((row.keepP lpA (by omega)).later (Lat.drew _)).sl

set_option maxRecDepth 100000 in
set_option maxHeartbeats 4000000 in
theorem rshuffle_out (s : Nat) (n : Int) (h : n < 0 ∨ 400 < n) (w : World) : Calls Try.prog 10 #[.agg #[.int .u64 s], .int .i64 n] w (fun e w' => e = .returned (.tuple #[.slice none 0 0, .agg #[.int .u64 0], .int .i64 2]) ∧ Lat w w') := by
  rcases h with h | h
  · have h0 : decide (n < 0) = true := decide_eq_true h
    go_enter Try.func10, Try.ntmps10
    go_upto_region 1 with (fail)
    refine name2 (Q := fun W => Code.wp _ _ _ _ W) ?_
    intro W l1 hs k1 k2
    have c5 : W.cell? ⟨w.heap.size + 1, 0, none⟩ = some (.int .u64 0) := k2.cell 0
    have f5 := k2.frozen 0
    have hlt5 := k2.lt
    go_wp2
    refine name_set (Q := fun W => bodyPost _ _ _ _ _ W) k2 ?_
    intro W6 k6 _ _ lp6
    have g0 : W6.cell? ⟨w.heap.size + 1, 0, none⟩ = some (.int .u64 0) := k6.cell 0
    refine bodyPost_ret (v := .tuple #[.slice none 0 0, .agg #[.int .u64 0], .int .i64 2]) (by simp [results, Try.results10, go_sem, g0]) rfl ?_
    exact ⟨rfl, lp6.narrow l1 (by omega)⟩
  · have h0 : decide (n < 0) = false := decide_eq_false (by omega)
    have h4 : decide (400 < n) = true := decide_eq_true h
    go_enter Try.func10, Try.ntmps10
    go_upto_region 1 with (fail)
    refine name2 (Q := fun W => Code.wp _ _ _ _ W) ?_
    intro W l1 hs k1 k2
    have c5 : W.cell? ⟨w.heap.size + 1, 0, none⟩ = some (.int .u64 0) := k2.cell 0
    have f5 := k2.frozen 0
    have hlt5 := k2.lt
    go_wp2
    refine name_set (Q := fun W => bodyPost _ _ _ _ _ W) k2 ?_
    intro W6 k6 _ _ lp6
    have g0 : W6.cell? ⟨w.heap.size + 1, 0, none⟩ = some (.int .u64 0) := k6.cell 0
    refine bodyPost_ret (v := .tuple #[.slice none 0 0, .agg #[.int .u64 0], .int .i64 2]) (by simp [results, Try.results10, go_sem, g0]) rfl ?_
    exact ⟨rfl, lp6.narrow l1 (by omega)⟩
/-- The reference's Shuffle answers as the program's. -/
theorem rShuffle_any (s : Nat) (hs : s < 18446744073709551616) (n : Int) (w : World) :
    Calls Try.prog 10 #[.agg #[.int .u64 s], .int .i64 n] w (ShufEnd w (shufV s n) (shufS s n) (shufE s n)) := by
  by_cases h : n < 0 ∨ 400 < n
  · rw [shufV, shufS, shufE, if_pos h, if_pos h, if_pos h]
    exact (rshuffle_out s n h w).mono fun e w' h => ⟨none, 0, 0, h.1, Sl.nil _ _ _, h.2⟩
  · rw [shufV, shufS, shufE, if_neg h, if_neg h, if_neg h]
    obtain ⟨k, rfl⟩ := Int.eq_ofNat_of_zero_le (show 0 ≤ n by omega)
    rw [Int.toNat_natCast]
    exact rshuffle_in s k hs (by omega) w
end Go.Proofs.Ytogkkhaepfablaa

/- Chance: a shuffled list. -/
namespace Go.Proofs.Ytogkkhaepfablaa
open Go.RowKit Go.Shelf
set_option linter.unusedSimpArgs false

/-- The numbers of one exchange. -/
structure ShN (i n : Nat) (m : Nat) : Prop where
  h1 : 1 ≤ m
  h2 : m < 9223372036854775808
  hm : m = i + 1
  e1 : wrap64 ((i : Int) + 1) = (m : Int)
  e2 : IntKind.u64.wrap (m : Int) = (m : Int)
  e3 : (decide ((1 : Int) ≤ (i : Int))) = true
  e4 : wrap64 ((i : Int) - 1) = ((i - 1 : Nat) : Int)
theorem shN (i n : Nat) (h : 1 ≤ i) (hn : i < n) (hl : n ≤ 400) : ShN i n (i + 1) :=
  ⟨by omega, by omega, rfl, by rw [IntWalk.wrap64_in _ (by omega)]; omega, by rw [IntKind.wrap_u64]; omega, decide_eq_true (by omega), by rw [IntWalk.wrap64_in _ (by omega)]; omega⟩

/-- What Shuffle hands back for a number of places that is in order. -/
def ShufB (w : World) (n : Nat) (o : Option (List Int × Nat)) (e : Ending) (w' : World) : Prop :=
  (o = none ∧ e = .returned (.tuple #[.slice none 0 0, .agg #[.int .u64 0], .int .i64 9]) ∧ Lat w w') ∨
  (∃ (l : List Int) (t g : Nat), o = some (l, t) ∧ l.length = n ∧ e = .returned (.tuple #[.slice (some ⟨g, 0, none⟩) n n, .agg #[.int .u64 (t : Nat)], .int .i64 0]) ∧ Blk w' g 3 (nums .i64 l) ∧ w.heap.size ≤ g ∧ Lat w w')
set_option maxRecDepth 100000 in
set_option maxHeartbeats 4000000 in
theorem shuffle_in (s n : Nat) (hs : s < 18446744073709551616) (hn : n ≤ 400) (w : World) :
    Calls Try.prog 9 #[.agg #[.int .u64 s], .int .i64 n] w (ShufB w n (shufOpt s n)) := by
  have hn0 : ¬ (n : Int) < 0 := by omega
  have hn4 : ¬ (400 : Int) < (n : Int) := by omega
  go_enter Try.func9, Try.ntmps9
  go_wp2_with fail
  refine name2 (Q := fun W => Calls _ _ _ W _) ?_
  intro W1 l1 hs1 k2 k5
  refine (chFrom_any s W1).mono ?_
  rintro e W2 ⟨g, rfl, kg, hg, l2⟩
  replace k5 := k5.later l2
  have L2 := l1.trans l2
  have hs2 : w.heap.size + 2 ≤ W2.heap.size := by have := l2.size; omega
  have hgl := kg.lt
  have hg : w.heap.size + 1 < g := by omega
  clear k2 l1 l2 hs1
  have hmk := run_make_nums (P := Try.prog) (t := 28) (e := 3) (k := .i64) (by_ := 8) Try.underlying28 (by kernel_rfl) (n : Int) n rfl (by omega) (by omega)
  go_upto_region 6 with (fail)
  refine name1 (Q := fun W => Code.wp _ _ _ _ W) ?_
  intro W3 l3 hs3 k8
  replace k5 := k5.later l3
  replace kg := kg.later l3
  have L3 := L2.trans l3
  have K8 : Blk W3 W2.heap.size 3 (nums .i64 (fillTo n 0)) := by rw [fillTo_zero]; exact k8
  obtain ⟨g8, hg8⟩ : ∃ z, W2.heap.size = z := ⟨_, rfl⟩
  rw [hg8] at K8 hs2 ⊢
  have hgg8 : g < g8 := by rw [← hg8]; exact hgl
  clear l3 hs3 hg8 L2 k8 hmk hgl
  go_loopw [26] (fun i wr => ∃ k : Nat, k ≤ n ∧ i = .int .i64 k ∧ Blk wr g8 3 (nums .i64 (fillTo n k)) ∧ Blk wr g 72 #[.int .u64 (s : Nat)] ∧ Blk wr (w.heap.size + 1) 24 #[.int .u64 0] ∧ Lat w wr) (fun i _ => n - (intOf i).toNat)
  case atStart => exact ⟨0, by omega, rfl, K8, kg, k5, L3⟩
  case round =>
    obtain ⟨k, hk, rfl, j8, jg, j5, hlr⟩ := hrel
    clear K8 kg k5 L3
    by_cases hkn : k < n
    · have hkI : (k : Int) < (n : Int) := by omega
      obtain ⟨x, hx, c8, f8⟩ := j8.slot (i := k) (by rw [fillTo_len]; exact hkn)
      have h8 := j8.lt
      go_wp2
      refine ⟨⟨k + 1, hkn, int_succ k, ?_, jg.far (p := ⟨g8, k, none⟩) (by simp; omega) _, j5.far (p := ⟨g8, k, none⟩) (by simp; omega) _, hlr.setCell (p := ⟨g8, k, none⟩) (by simp; omega) _⟩, meas_up hkn⟩
      have := j8.put k (k : Int)
      rwa [fillTo_set hkn] at this
    · obtain rfl : k = n := by omega
      obtain ⟨z5, hz5⟩ : ∃ z, w.heap.size + 1 = z := ⟨_, rfl⟩
      have hs5 : w.heap.size + 1 < g8 := by omega
      rw [hz5] at j5 hg hs5 ⊢
      have hwz : w.heap.size ≤ z5 := by omega
      clear hs2 hz5
      go_wp2
      go_loopw [10] (fun i W => ∃ (ii : Int) (l : List Int) (t : Nat), i = .int .i64 ii ∧ -1 ≤ ii ∧ ii < k ∧ l.length = k ∧ t < 18446744073709551616 ∧ shufGo ii.toNat l t = shufOpt s k ∧ Blk W g8 3 (nums .i64 l) ∧ Blk W g 72 #[.int .u64 (t : Nat)] ∧ Blk W z5 24 #[.int .u64 0] ∧ Lat w W) (fun i _ => (intOf i).toNat)
      case atStart => exact ⟨(k : Int) - 1, fillTo k k, s, rfl, by omega, by omega, fillTo_len k k, hs, by rw [shufOpt, idL, show ((k : Int) - 1).toNat = k - 1 by omega], j8, jg, j5, hlr⟩
      case round =>
        rename_i wr
        clear j8 jg j5 hlr
        obtain ⟨ii, l, t, rfl, hi0, hi1, hll, ht, hgo, j8, jg, j5, hlr⟩ := hrel
        have HGO := Lib.hid hgo
        clear hgo hs
        by_cases h1 : 1 ≤ ii
        · obtain ⟨i0, rfl⟩ := Int.eq_ofNat_of_zero_le (show 0 ≤ ii by omega)
          have hi : 1 ≤ i0 := by omega
          obtain ⟨m, hN⟩ : ∃ m, ShN i0 k m := ⟨_, shN i0 k hi (by omega) hn⟩
          obtain ⟨m1, m2, hm, e1, e2, e3, e4⟩ := hN
          have HB := fun W h => below_any g t m ht m1 m2 W h
          obtain ⟨o, ho⟩ : ∃ o, chBel t m = o := ⟨_, rfl⟩
          unfold belR belEn belT at HB
          rw [ho] at HB
          obtain ⟨r, hr⟩ : ∃ r, optR m o = r := ⟨_, rfl⟩
          obtain ⟨en, hen⟩ : ∃ en, optE o = en := ⟨_, rfl⟩
          obtain ⟨t', ht'⟩ : ∃ t', optT (chAfter chNext 200 t) o = t' := ⟨_, rfl⟩
          rw [hr, hen, ht'] at HB
          have HO := Lib.hid (show chBel t m = o ∧ optR m o = r ∧ optE o = en ∧ optT (chAfter chNext 200 t) o = t' ∧ m = i0 + 1 ∧ t < 18446744073709551616 from ⟨ho, hr, hen, ht', hm, ht⟩)
          clear ho hr hen ht' hm ht
          have hmi : (m : Int) = (i0 : Int) + 1 := by have := HO.out.2.2.2.2.1; omega
          rw [hmi] at HB
          go_wp2_with fail
          refine (HB wr jg).mono ?_
          rintro e W5 ⟨rfl, jg5, lp5⟩
          have hgz : z5 ≠ g := by omega
          have hg8 : g8 ≠ g := by omega
          have j85 := j8.keepP lp5 hg8
          have j55 := j5.keepP lp5 hgz
          have L5 := lp5.lat hlr (by rintro k rfl; omega)
          clear HB lp5 jg j8 j5 hlr e1 e2 hmi
          go_upto_region 14 with (fail)
          obtain ⟨h1o, h2o, h3o, h4o, h5o, h6o⟩ := HO.out
          cases o with
          | none =>
            have hg0 := HGO.out
            rw [Int.toNat_natCast, shufGo_no (l := l) hi h5o h1o] at hg0
            have HN := Lib.hid hg0
            rw [optR] at h2o
            rw [optE] at h3o
            subst h2o h3o
            clear h1o h4o h5o h6o HO HGO hg0
            have d5 : W5.cell? ⟨z5, 0, none⟩ = some (.int .u64 0) := j55.cell 0
            have f5 := j55.frozen 0
            have lt5 := j55.lt
            go_wp2
            refine name_set (Q := fun W => bodyPost _ _ _ _ _ W) j55 ?_
            intro W6 k6 _ _ lp6
            have g0 : W6.cell? ⟨z5, 0, none⟩ = some (.int .u64 0) := k6.cell 0
            refine bodyPost_ret (v := .tuple #[.slice none 0 0, .agg #[.int .u64 0], .int .i64 9]) (by simp [results, Try.results9, go_sem, g0]) rfl ?_
            rw [← HN.out]
            exact .inl ⟨rfl, rfl, lp6.lat L5 (by rintro k rfl; omega)⟩
          | some q =>
            have hg0 := HGO.out
            rw [Int.toNat_natCast, shufGo_yes (l := l) hi h5o h1o] at hg0
            have ht' := chBel_lt h1o
            rw [optR] at h2o
            rw [optE] at h3o
            rw [optT] at h4o
            have hjl : q.1 % m < m := Nat.mod_lt _ (by omega)
            obtain ⟨j, hj⟩ : ∃ j, q.1 % m = j := ⟨_, rfl⟩
            rw [hj] at h2o hg0 hjl
            rw [h4o] at hg0 ht'
            subst h2o h3o
            have hik : i0 < k := by omega
            have hjk : j < k := by omega
            have HG2 := Lib.hid hg0
            clear h1o h4o h6o HO HGO hj hg0
            have LD := Lat.drew W5
            have j86 := j85.later LD
            have j56 := j55.later LD
            have jg6 := jg5.later LD
            have L6 := L5.trans LD
            clear j85 j55 jg5 L5
            go_upto_region 16 with (fail)
            refine wp_region_held_drew (S := fun _ => True) (by kernel_rfl) trivial (fun hHeld => ?_)
            generalize W5.drew = V0 at j86 j56 jg6 L6 LD hHeld ⊢
            obtain ⟨xi, hxi, ci, fi⟩ := j86.slot (i := i0) (by omega)
            obtain ⟨xj, hxj, cj, fj⟩ := j86.slot (i := j) (by omega)
            have h8 := j86.lt
            have hikI : (i0 : Int) < (k : Int) := by omega
            have hjkI : (j : Int) < (k : Int) := by omega
            refine wpAnyH_take (i := 0) (v := .slice (some ⟨g8, 0, none⟩) k k) rfl (by kernel_rfl) (by kernel_rfl) (by kernel_rfl) (fun _ _ _ h => h) (Or.inl ⟨by rfl, by intro w' hS; go_simp⟩) hHeld ?_
            simp only [Act.put, List.getElem_toArray, List.getElem_cons_succ, List.getElem_cons_zero, List.setIfInBounds_toArray, List.set_cons_zero, List.set_cons_succ]
            refine wpAnyH_take (i := 1) (v := .int .i64 (i0 : Int)) rfl (by kernel_rfl) (by kernel_rfl) (by kernel_rfl) (fun _ _ _ h => h) (Or.inl ⟨by rfl, by intro w' hS; go_simp⟩) hHeld ?_
            simp only [Act.put, List.getElem_toArray, List.getElem_cons_succ, List.getElem_cons_zero, List.setIfInBounds_toArray, List.set_cons_zero, List.set_cons_succ]
            refine wpAnyH_take (i := 2) (v := .slice (some ⟨g8, 0, none⟩) k k) rfl (by kernel_rfl) (by kernel_rfl) (by kernel_rfl) (fun _ _ _ h => h) (Or.inl ⟨by rfl, by intro w' hS; go_simp⟩) hHeld ?_
            simp only [Act.put, List.getElem_toArray, List.getElem_cons_succ, List.getElem_cons_zero, List.setIfInBounds_toArray, List.set_cons_zero, List.set_cons_succ]
            refine wpAnyH_take (i := 3) (v := .int .u64 (j : Int)) rfl (by kernel_rfl) (by kernel_rfl) (by kernel_rfl) (fun _ _ _ h => h) (Or.inl ⟨by rfl, by intro w' hS; go_simp⟩) hHeld ?_
            simp only [Act.put, List.getElem_toArray, List.getElem_cons_succ, List.getElem_cons_zero, List.setIfInBounds_toArray, List.set_cons_zero, List.set_cons_succ]
            refine wpAnyH_take (i := 4) (v := .slice (some ⟨g8, 0, none⟩) k k) rfl (by kernel_rfl) (by kernel_rfl) (by kernel_rfl) (fun _ _ _ h => h) (Or.inl ⟨by rfl, by intro w' hS; go_simp⟩) hHeld ?_
            simp only [Act.put, List.getElem_toArray, List.getElem_cons_succ, List.getElem_cons_zero, List.setIfInBounds_toArray, List.set_cons_zero, List.set_cons_succ]
            refine wpAnyH_take (i := 5) (v := .int .u64 (j : Int)) rfl (by kernel_rfl) (by kernel_rfl) (by kernel_rfl) (fun _ _ _ h => h) (Or.inl ⟨by rfl, by intro w' hS; go_simp⟩) hHeld ?_
            simp only [Act.put, List.getElem_toArray, List.getElem_cons_succ, List.getElem_cons_zero, List.setIfInBounds_toArray, List.set_cons_zero, List.set_cons_succ]
            refine wpAnyH_take (i := 6) (v := .pointer (some ⟨g8, j, none⟩)) rfl (by kernel_rfl) (by kernel_rfl) (by kernel_rfl) (fun _ _ _ h => h) (Or.inl ⟨by rfl, by intro w' hS; go_simp⟩) hHeld ?_
            simp only [Act.put, List.getElem_toArray, List.getElem_cons_succ, List.getElem_cons_zero, List.setIfInBounds_toArray, List.set_cons_zero, List.set_cons_succ]
            refine wpAnyH_take (i := 8) (v := .slice (some ⟨g8, 0, none⟩) k k) rfl (by kernel_rfl) (by kernel_rfl) (by kernel_rfl) (fun _ _ _ h => h) (Or.inl ⟨by rfl, by intro w' hS; go_simp⟩) hHeld ?_
            simp only [Act.put, List.getElem_toArray, List.getElem_cons_succ, List.getElem_cons_zero, List.setIfInBounds_toArray, List.set_cons_zero, List.set_cons_succ]
            refine wpAnyH_take (i := 9) (v := .int .i64 (i0 : Int)) rfl (by kernel_rfl) (by kernel_rfl) (by kernel_rfl) (fun _ _ _ h => h) (Or.inl ⟨by rfl, by intro w' hS; go_simp⟩) hHeld ?_
            simp only [Act.put, List.getElem_toArray, List.getElem_cons_succ, List.getElem_cons_zero, List.setIfInBounds_toArray, List.set_cons_zero, List.set_cons_succ]
            refine wpAnyH_take (i := 10) (v := .pointer (some ⟨g8, i0, none⟩)) rfl (by kernel_rfl) (by kernel_rfl) (by kernel_rfl) (fun _ _ _ h => h) (Or.inl ⟨by rfl, by intro w' hS; go_simp⟩) hHeld ?_
            simp only [Act.put, List.getElem_toArray, List.getElem_cons_succ, List.getElem_cons_zero, List.setIfInBounds_toArray, List.set_cons_zero, List.set_cons_succ]
            refine wpAnyH_ready (rs := [7, 11]) (by kernel_rfl) (by simp) (AllReadyH.cons rfl (fun K hK => ?_) (AllReadyH.cons rfl (fun K hK => ?_) AllReadyH.nil))
            · skip
              go_simp
              refine hK.out _ _ trivial (fun hHeld1 => ?_)
              clear hK K
              try simp only [Act.put, List.getElem_toArray, List.getElem_cons_succ, List.getElem_cons_zero, List.setIfInBounds_toArray, List.set_cons_zero, List.set_cons_succ]
              refine wpAnyH_ready (rs := [11]) (by kernel_rfl) (by simp) (AllReadyH.cons rfl (fun K hK => ?_) AllReadyH.nil)
              go_simp
              refine hK.out _ _ trivial (fun hHeld2 => ?_)
              clear hK K
              try simp only [Act.put, List.getElem_toArray, List.getElem_cons_succ, List.getElem_cons_zero, List.setIfInBounds_toArray, List.set_cons_zero, List.set_cons_succ]
              refine wpAnyH_take (i := 12) (v := .pointer (some ⟨g8, i0, none⟩)) rfl (by kernel_rfl) (by kernel_rfl) (by kernel_rfl) (fun _ _ _ h => h) (Or.inl ⟨by rfl, by intro w' hS; go_simp⟩) hHeld2 ?_
              simp only [Act.put, List.getElem_toArray, List.getElem_cons_succ, List.getElem_cons_zero, List.setIfInBounds_toArray, List.set_cons_zero, List.set_cons_succ]
              refine wpAnyH_ready (rs := [13]) (by kernel_rfl) (by simp) (AllReadyH.cons rfl (fun K hK => ?_) AllReadyH.nil)
              go_simp
              have j87 := j86.put i0 xj
              have j57 := j56.far (p := ⟨g8, i0, none⟩) (by simp; omega) (.int .i64 xj)
              have jg7 := jg6.far (p := ⟨g8, i0, none⟩) (by simp; omega) (.int .i64 xj)
              have L7 := L6.setCell (p := ⟨g8, i0, none⟩) (by simp; omega) (.int .i64 xj)
              obtain ⟨V1, hV1⟩ : ∃ V, V0.setCell ⟨g8, i0, none⟩ (.int .i64 xj) = V := ⟨_, rfl⟩
              rw [hV1] at j87 j57 jg7 L7 ⊢
              clear hV1 ci fi cj fj
              obtain ⟨xk, hxk, cj, fj⟩ := j87.slot (i := j) (by rw [List.length_set]; omega)
              have h9 := j87.lt
              refine hK.out _ _ trivial (fun hHeld3 => ?_)
              clear hK K
              try simp only [Act.put, List.getElem_toArray, List.getElem_cons_succ, List.getElem_cons_zero, List.setIfInBounds_toArray, List.set_cons_zero, List.set_cons_succ]
              refine wpAnyH_take (i := 14) (v := .pointer (some ⟨g8, j, none⟩)) rfl (by kernel_rfl) (by kernel_rfl) (by kernel_rfl) (fun _ _ _ h => h) (Or.inl ⟨by rfl, by intro w' hS; go_simp⟩) hHeld3 ?_
              simp only [Act.put, List.getElem_toArray, List.getElem_cons_succ, List.getElem_cons_zero, List.setIfInBounds_toArray, List.set_cons_zero, List.set_cons_succ]
              refine wpAnyH_ready (rs := [15]) (by kernel_rfl) (by simp) (AllReadyH.cons rfl (fun K hK => ?_) AllReadyH.nil)
              go_simp
              have j88 := j87.put j xi
              have j58 := j57.far (p := ⟨g8, j, none⟩) (by simp; omega) (.int .i64 xi)
              have jg8 := jg7.far (p := ⟨g8, j, none⟩) (by simp; omega) (.int .i64 xi)
              have L8 := L7.setCell (p := ⟨g8, j, none⟩) (by simp; omega) (.int .i64 xi)
              obtain ⟨V2, hV2⟩ : ∃ V, V1.setCell ⟨g8, j, none⟩ (.int .i64 xi) = V := ⟨_, rfl⟩
              rw [hV2] at j88 j58 jg8 L8 ⊢
              clear hV2 cj fj hxk
              refine hK.out _ _ trivial (fun hHeld4 => ?_)
              clear hK K
              try simp only [Act.put, List.getElem_toArray, List.getElem_cons_succ, List.getElem_cons_zero, List.setIfInBounds_toArray, List.set_cons_zero, List.set_cons_succ]
              refine wpAnyH_done (by kernel_rfl) ?_ _
              have hsw : (l.set i0 xj).set j xi = swapL l i0 j := by unfold swapL; rw [hxi, hxj]; rfl
              rw [hsw] at j88
              go_wp2
              exact ⟨⟨(i0 : Int) - 1, swapL l i0 j, t', rfl, by omega, by omega, by rw [swapL_len]; exact hll, ht', by rw [show ((i0 : Int) - 1).toNat = i0 - 1 by omega]; exact HG2.out, j88, jg8, j58, L8⟩, by show ((i0 : Int) - 1).toNat < (i0 : Int).toNat; omega⟩
            · skip
              go_simp
              refine hK.out _ _ trivial (fun hHeld1 => ?_)
              clear hK K
              try simp only [Act.put, List.getElem_toArray, List.getElem_cons_succ, List.getElem_cons_zero, List.setIfInBounds_toArray, List.set_cons_zero, List.set_cons_succ]
              refine wpAnyH_ready (rs := [7]) (by kernel_rfl) (by simp) (AllReadyH.cons rfl (fun K hK => ?_) AllReadyH.nil)
              go_simp
              refine hK.out _ _ trivial (fun hHeld2 => ?_)
              clear hK K
              try simp only [Act.put, List.getElem_toArray, List.getElem_cons_succ, List.getElem_cons_zero, List.setIfInBounds_toArray, List.set_cons_zero, List.set_cons_succ]
              refine wpAnyH_take (i := 12) (v := .pointer (some ⟨g8, i0, none⟩)) rfl (by kernel_rfl) (by kernel_rfl) (by kernel_rfl) (fun _ _ _ h => h) (Or.inl ⟨by rfl, by intro w' hS; go_simp⟩) hHeld2 ?_
              simp only [Act.put, List.getElem_toArray, List.getElem_cons_succ, List.getElem_cons_zero, List.setIfInBounds_toArray, List.set_cons_zero, List.set_cons_succ]
              refine wpAnyH_ready (rs := [13]) (by kernel_rfl) (by simp) (AllReadyH.cons rfl (fun K hK => ?_) AllReadyH.nil)
              go_simp
              have j87 := j86.put i0 xj
              have j57 := j56.far (p := ⟨g8, i0, none⟩) (by simp; omega) (.int .i64 xj)
              have jg7 := jg6.far (p := ⟨g8, i0, none⟩) (by simp; omega) (.int .i64 xj)
              have L7 := L6.setCell (p := ⟨g8, i0, none⟩) (by simp; omega) (.int .i64 xj)
              obtain ⟨V1, hV1⟩ : ∃ V, V0.setCell ⟨g8, i0, none⟩ (.int .i64 xj) = V := ⟨_, rfl⟩
              rw [hV1] at j87 j57 jg7 L7 ⊢
              clear hV1 ci fi cj fj
              obtain ⟨xk, hxk, cj, fj⟩ := j87.slot (i := j) (by rw [List.length_set]; omega)
              have h9 := j87.lt
              refine hK.out _ _ trivial (fun hHeld3 => ?_)
              clear hK K
              try simp only [Act.put, List.getElem_toArray, List.getElem_cons_succ, List.getElem_cons_zero, List.setIfInBounds_toArray, List.set_cons_zero, List.set_cons_succ]
              refine wpAnyH_take (i := 14) (v := .pointer (some ⟨g8, j, none⟩)) rfl (by kernel_rfl) (by kernel_rfl) (by kernel_rfl) (fun _ _ _ h => h) (Or.inl ⟨by rfl, by intro w' hS; go_simp⟩) hHeld3 ?_
              simp only [Act.put, List.getElem_toArray, List.getElem_cons_succ, List.getElem_cons_zero, List.setIfInBounds_toArray, List.set_cons_zero, List.set_cons_succ]
              refine wpAnyH_ready (rs := [15]) (by kernel_rfl) (by simp) (AllReadyH.cons rfl (fun K hK => ?_) AllReadyH.nil)
              go_simp
              have j88 := j87.put j xi
              have j58 := j57.far (p := ⟨g8, j, none⟩) (by simp; omega) (.int .i64 xi)
              have jg8 := jg7.far (p := ⟨g8, j, none⟩) (by simp; omega) (.int .i64 xi)
              have L8 := L7.setCell (p := ⟨g8, j, none⟩) (by simp; omega) (.int .i64 xi)
              obtain ⟨V2, hV2⟩ : ∃ V, V1.setCell ⟨g8, j, none⟩ (.int .i64 xi) = V := ⟨_, rfl⟩
              rw [hV2] at j88 j58 jg8 L8 ⊢
              clear hV2 cj fj hxk
              refine hK.out _ _ trivial (fun hHeld4 => ?_)
              clear hK K
              try simp only [Act.put, List.getElem_toArray, List.getElem_cons_succ, List.getElem_cons_zero, List.setIfInBounds_toArray, List.set_cons_zero, List.set_cons_succ]
              refine wpAnyH_done (by kernel_rfl) ?_ _
              have hsw : (l.set i0 xj).set j xi = swapL l i0 j := by unfold swapL; rw [hxi, hxj]; rfl
              rw [hsw] at j88
              go_wp2
              exact ⟨⟨(i0 : Int) - 1, swapL l i0 j, t', rfl, by omega, by omega, by rw [swapL_len]; exact hll, ht', by rw [show ((i0 : Int) - 1).toNat = i0 - 1 by omega]; exact HG2.out, j88, jg8, j58, L8⟩, by show ((i0 : Int) - 1).toNat < (i0 : Int).toNat; omega⟩
        · have hg0 := HGO.out
          rw [show ii.toNat = 0 by omega, shufGo] at hg0
          have HN := Lib.hid hg0
          clear HGO hg0
          have c0 : wr.cell? ⟨g, 0, none⟩ = some (.int .u64 (t : Int)) := jg.cell 0
          have f3 := j5.frozen 0
          have d3 : wr.cell? ⟨z5, 0, none⟩ = some (.int .u64 0) := j5.cell 0
          have h3 := j5.lt
          have c1 : wr.drew.cell? ⟨g, 0, none⟩ = some (.int .u64 (t : Int)) := c0
          have hng : g ≠ z5 := by omega
          have hgl := jg.lt
          go_wp2_with fail
          go_region_held3 (fun w' => w'.cell? ⟨g, 0, none⟩ = some (.int .u64 (t : Int))) (first | (with_reducible assumption) | exact cell_off hng _ c1) (fail)
          all_goals
            go_wp2
            have e3 : ((wr.setCell ⟨z5, 0, none⟩ (.int .u64 (t : Int))).drew).cell? ⟨z5, 0, none⟩ = some (.int .u64 (t : Int)) := by
              have := (j5.set 0 (.int .u64 (t : Int))).cell 0
              simpa using this
            have j9 : Blk ((wr.setCell ⟨z5, 0, none⟩ (.int .u64 (t : Int))).drew) g8 3 (nums .i64 l) := (j8.far (p := ⟨z5, 0, none⟩) (by simp; omega) _).later (Lat.drew _)
            have LF : Lat w ((wr.setCell ⟨z5, 0, none⟩ (.int .u64 (t : Int))).drew) := (hlr.setCell (p := ⟨z5, 0, none⟩) (by simp; omega) _).trans (Lat.drew _)
            refine bodyPost_ret (v := .tuple #[.slice (some ⟨g8, 0, none⟩) k k, .agg #[.int .u64 (t : Int)], .int .i64 0]) (by simp [results, Try.results9, go_sem, e3]) rfl ?_
            rw [← HN.out]
            exact .inr ⟨l, t, g8, rfl, hll, rfl, j9, by omega, LF⟩

set_option maxRecDepth 100000 in
set_option maxHeartbeats 4000000 in
theorem shuffle_low (s : Nat) (n : Int) (h : n < 0) (w : World) : Calls Try.prog 9 #[.agg #[.int .u64 s], .int .i64 n] w (fun e w' => e = .returned (.tuple #[.slice none 0 0, .agg #[.int .u64 0], .int .i64 2]) ∧ Lat w w') := by
  have h0 : decide (n < 0) = true := decide_eq_true h
  go_enter Try.func9, Try.ntmps9
  go_wp2
  refine name2 (Q := fun W => bodyPost _ _ _ _ _ W) ?_
  intro W l1 hs k1 k2
  have g0 : W.cell? ⟨w.heap.size + 1, 0, none⟩ = some (.int .u64 0) := k2.cell 0
  refine bodyPost_ret (v := .tuple #[.slice none 0 0, .agg #[.int .u64 0], .int .i64 2]) (by simp [results, Try.results9, go_sem, g0]) rfl ?_
  exact ⟨rfl, l1⟩
/-- Shuffle: the list, the state, the error. -/
theorem cShuffle_any (s : Nat) (hs : s < 18446744073709551616) (n : Int) (w : World) :
    Calls Try.prog 9 #[.agg #[.int .u64 s], .int .i64 n] w (ShufEnd w (shufV s n) (shufS s n) (shufE s n)) := by
  by_cases h : n < 0 ∨ 400 < n
  · rw [shufV, shufS, shufE, if_pos h, if_pos h, if_pos h]
    rcases h with h | h
    · exact (shuffle_low s n h w).mono fun e w' h => ⟨none, 0, 0, h.1, Sl.nil _ _ _, h.2⟩
    · exact (shuffle_far s n h w).mono fun e w' h => ⟨none, 0, 0, h.1, Sl.nil _ _ _, h.2⟩
  · rw [shufV, shufS, shufE, if_neg h, if_neg h, if_neg h]
    obtain ⟨k, rfl⟩ := Int.eq_ofNat_of_zero_le (show 0 ≤ n by omega)
    rw [Int.toNat_natCast]
    refine (shuffle_in s k hs (by omega) w).mono fun e w' h => ?_
    rcases h with ⟨h1, h2, h3⟩ | ⟨l, t, g, h1, hl, h2, h3, _, h4⟩
    · rw [h1]; exact ⟨none, 0, 0, h2, Sl.nil _ _ _, h3⟩
    · rw [h1]; exact ⟨_, _, _, h2, Sl.of_blk' (t := 3) (xs := l) h3 hl, h4⟩
end Go.Proofs.Ytogkkhaepfablaa
