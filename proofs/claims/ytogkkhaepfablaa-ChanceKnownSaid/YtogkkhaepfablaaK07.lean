/- Several texts in one: ChF, ChG. -/
import Derived.Test.YtogkkhaepfablaaK06

/- Chance: a number below n: the numbers of the call. -/
namespace Go.Proofs.Ytogkkhaepfablaa
open Go.RowKit Go.Shelf

/-- What below answers: the number, the error, the state. -/
def belR (s n : Nat) : Int := optR n (chBel s n)
def belEn (s n : Nat) : Int := optE (chBel s n)
def belT (s n : Nat) : Nat := optT (chAfter chNext 200 s) (chBel s n)
theorem next_fst (x : Nat) : (chNext x).1 = chMix (chStep x) := by simp only [chNext]
theorem next_snd (x : Nat) : (chNext x).2 = chStep x := by simp only [chNext]
theorem after_succ (j s : Nat) : chAfter chNext (j + 1) s = chStep (chAfter chNext j s) := by rw [chAfter, next_snd]
theorem after_lt {s : Nat} (hs : s < 18446744073709551616) (j : Nat) : chAfter chNext j s < 18446744073709551616 := by
  cases j with
  | zero => exact hs
  | succ j => rw [after_succ]; exact chStep_lt _
theorem belN {n m rest q lim : Nat} (h1 : 1 ≤ n) (h2 : n < 9223372036854775808) (hm : m + n = 18446744073709551616) (hr : m % n = rest) (hq : (q : Int) = (-(rest : Int)) % 18446744073709551616) (hl : lim + rest = 18446744073709551615) : BelN n m rest q lim := by
  have hlt := Nat.mod_lt m h1
  have he : (m : Int).tmod (n : Int) = (rest : Int) := by
    rw [Int.tmod_eq_emod_of_nonneg (by omega), ← Int.natCast_emod, hr]
  rw [hr] at hlt
  clear hr
  refine ⟨by omega, ?_, he, ?_, ?_⟩
  · rw [IntKind.wrap_u64]; omega
  · rw [IntKind.wrap_u64]; omega
  · rw [IntKind.wrap_u64]; omega
theorem chOk_eq {n m rest : Nat} (hm : m + n = 18446744073709551616) (hr : m % n = rest) (x : Nat) : chOk n x = decide (x ≤ 18446744073709551615 - rest ∨ rest = 0) := by
  have : 18446744073709551616 - n = m := by omega
  unfold chOk
  rw [this, hr]
theorem below_any (b s n : Nat) (hs : s < 18446744073709551616) (h1 : 1 ≤ n) (h2 : n < 9223372036854775808) (w : World) (hb : Blk w b 72 #[.int .u64 (s : Nat)]) :
    Calls Try.prog 29 #[.pointer (some ⟨b, 0, none⟩), .int .u64 (n : Nat)] w (BelPost b w (belR s n) (belEn s n) (belT s n)) := by
  obtain ⟨st, hst⟩ : ∃ st : Nat → Nat, st = fun j => chAfter chNext j s := ⟨_, rfl⟩
  obtain ⟨xs, hxs⟩ : ∃ xs : Nat → Nat, xs = fun j => chMix (chStep (chAfter chNext j s)) := ⟨_, rfl⟩
  have hx : ∀ j, xs j < 18446744073709551616 := fun j => by
    simp only [hxs]
    exact chMix_lt (chStep (chAfter chNext j s))
  have hN : ∀ j, NextC (st j) (xs j) (st (j + 1)) := fun j => by
    have := nextC (chAfter chNext j s) (after_lt hs j)
    simp only [hst, hxs, after_succ]
    exact this
  have h00 : st 0 = s := by rw [hst]; simp only [chAfter]
  obtain ⟨m, hm⟩ : ∃ m, m + n = 18446744073709551616 := ⟨18446744073709551616 - n, by omega⟩
  obtain ⟨rest, hrest⟩ : ∃ z, m % n = z := ⟨_, rfl⟩
  have hlt := Nat.mod_lt m h1
  rw [hrest] at hlt
  obtain ⟨lim, hl⟩ : ∃ lim, lim + rest = 18446744073709551615 := ⟨18446744073709551615 - rest, by omega⟩
  obtain ⟨q, hq⟩ := Int.eq_ofNat_of_zero_le (Int.emod_nonneg (-(rest : Int)) (show (18446744073709551616 : Int) ≠ 0 by decide))
  have hB := belN h1 h2 hm hrest hq.symm hl
  have hO := chOk_eq hm hrest
  clear hm hrest hq h1
  refine (below_in b s n _ _ _ _ hB st xs h00 hN (chOk n) (fun j h => ?_) (fun j h => ?_) w hb).mono ?_
  · have := hx j
    rw [hO, decide_eq_true_eq] at h
    omega
  · rw [hO, decide_eq_false_iff_not] at h
    omega
  · simp only [hst, hxs]
    rintro e w' (⟨j, hj, hn, hok, hp⟩ | ⟨hn, hp⟩)
    · have ht : chBel s n = some (chNext (chAfter chNext j s)) := by
        unfold chBel
        exact chTry_take (draw := chNext) (ok := chOk n) (f := 200) (j := j) (s := s) hj (fun i hi => by rw [next_fst]; exact hn i hi) (by rw [next_fst]; exact hok)
      have e1 : belR s n = (chMix (chStep (chAfter chNext j s)) : Int) % (n : Int) := by rw [belR, ht, optR, next_fst]; exact Int.natCast_emod _ _
      have e2 : belEn s n = 0 := by rw [belEn, ht, optE]
      have e3 : belT s n = chAfter chNext (j + 1) s := by rw [belT, ht, optT, after_succ, next_snd]
      rw [e1, e2, e3]
      exact hp
    · have ht : chBel s n = none := by
        unfold chBel
        exact chTry_none (draw := chNext) (ok := chOk n) (f := 200) (s := s) (fun i hi => by rw [next_fst]; exact hn i hi)
      have e1 : belR s n = 0 := by rw [belR, ht, optR]
      have e2 : belEn s n = 9 := by rw [belEn, ht, optE]
      have e3 : belT s n = chAfter chNext 200 s := by rw [belT, ht, optT]
      rw [e1, e2, e3]
      exact hp
end Go.Proofs.Ytogkkhaepfablaa

/- Chance: Below. -/
namespace Go.Proofs.Ytogkkhaepfablaa
open Go.RowKit Go.Shelf
set_option linter.unusedSimpArgs false

def BelC (s n : Nat) (r en : Int) (t : Nat) : Prop := ∀ (b : Nat) (w : World), Blk w b 72 #[.int .u64 (s : Nat)] → Calls Try.prog 29 #[.pointer (some ⟨b, 0, none⟩), .int .u64 (n : Nat)] w (BelPost b w r en t)

set_option maxRecDepth 100000 in
set_option maxHeartbeats 1000000 in
theorem cBelow_low (s : Nat) (n : Int) (h : n < 1) (w : World) :
    Calls Try.prog 14 #[.agg #[.int .u64 s], .int .i64 n] w (fun e w' => e = .returned (.tuple #[.int .i64 0, .agg #[.int .u64 0], .int .i64 2]) ∧ Lat w w') := by
  go_enter Try.func14, Try.ntmps14
  go_wp2
  refine name2 (Q := fun W => bodyPost _ _ _ _ _ W) ?_
  intro W l1 hs k1 k2
  have g0 : W.cell? ⟨w.heap.size + 1, 0, none⟩ = some (.int .u64 0) := k2.cell 0
  refine bodyPost_ret (v := .tuple #[.int .i64 0, .agg #[.int .u64 0], .int .i64 2]) (by simp [results, Try.results14, go_sem, g0]) rfl ?_
  exact ⟨rfl, l1⟩

set_option maxRecDepth 100000 in
set_option maxHeartbeats 1000000 in
theorem cBelow_in (s n : Nat) (h : ¬ (n : Int) < 1) (hw : IntKind.u64.wrap (n : Int) = (n : Int)) (r en : Int) (t : Nat) (hr : IntKind.i64.wrap r = r) (HB : BelC s n r en t) (w : World) :
    Calls Try.prog 14 #[.agg #[.int .u64 s], .int .i64 n] w (fun e w' => (en = 0 → e = .returned (.tuple #[.int .i64 r, .agg #[.int .u64 (t : Nat)], .int .i64 0])) ∧ (en ≠ 0 → e = .returned (.tuple #[.int .i64 0, .agg #[.int .u64 0], .int .i64 en])) ∧ Lat w w') := by
  go_enter Try.func14, Try.ntmps14
  go_wp2_with fail
  refine name2 (Q := fun W => Calls _ _ _ W _) ?_
  intro W1 l1 hs1 k1 k3
  refine (chFrom_any s W1).mono ?_
  rintro e W2 ⟨g, rfl, kg, hg, l2⟩
  have k3 := k3.later l2
  have L2 := l1.trans l2
  go_wp2_with fail
  refine (HB g W2 kg).mono ?_
  rintro e W3 ⟨rfl, kg3, lp⟩
  have hne : ¬ w.heap.size + 1 = g := by omega
  have k3 := k3.keepP lp hne
  have L3 := lp.narrow L2 (by omega)
  have c0 : W3.cell? ⟨g, 0, none⟩ = some (.int .u64 (t : Int)) := kg3.cell 0
  have hlt := kg3.lt
  clear l1 l2 hs1 k1 kg lp L2 hg HB
  have f3 := k3.frozen 0
  have d3 : W3.cell? ⟨w.heap.size + 1, 0, none⟩ = some (.int .u64 0) := k3.cell 0
  have h3 := k3.lt
  have c1 : W3.drew.cell? ⟨g, 0, none⟩ = some (.int .u64 (t : Int)) := c0
  have hng : g ≠ w.heap.size + 1 := fun h => hne h.symm
  by_cases h0 : en = 0
  · subst h0
    go_wp2_with fail
    go_region_held3 (fun w' => w'.cell? ⟨g, 0, none⟩ = some (.int .u64 (t : Int))) (first | (with_reducible assumption) | exact cell_off hng _ c1) (fail)
    all_goals
      go_wp2
      have e3 : ((W3.setCell ⟨w.heap.size + 1, 0, none⟩ (.int .u64 (t : Int))).drew).cell? ⟨w.heap.size + 1, 0, none⟩ = some (.int .u64 (t : Int)) := by
        have := (k3.set 0 (.int .u64 (t : Int))).cell 0
        simpa using this
      refine bodyPost_ret (v := .tuple #[.int .i64 r, .agg #[.int .u64 (t : Int)], .int .i64 0]) (by simp [results, Try.results14, go_sem, e3]) rfl ?_
      exact ⟨rfl, (L3.setCell (p := ⟨w.heap.size + 1, 0, none⟩) (by simp) _).trans (Lat.drew _)⟩
  · have hen : ((en : Int) != 0) = true := by simpa using h0
    go_wp2
    refine name_set (Q := fun W => bodyPost _ _ _ _ _ W) k3 ?_
    intro W4 k h1 h2 h3
    have g0 : W4.cell? ⟨w.heap.size + 1, 0, none⟩ = some (.int .u64 0) := k.cell 0
    refine bodyPost_ret (v := .tuple #[.int .i64 0, .agg #[.int .u64 0], .int .i64 en]) (by simp [results, Try.results14, go_sem, g0]) rfl ?_
    exact ⟨fun h => absurd h h0, fun _ => rfl, h3.narrow L3 (by omega)⟩
theorem optE_zero {α : Type} (o : Option α) : optE o = 0 ∨ (optE o = 9 ∧ o = none) := by cases o <;> simp [optE]
/-- Below: the number, the state, the error. -/
theorem cBelow_any (s : Nat) (hs : s < 18446744073709551616) (n : Int) (h2 : n < 9223372036854775808) (w : World) :
    Calls Try.prog 14 #[.agg #[.int .u64 s], .int .i64 n] w (fun e w' => e = .returned (.tuple #[.int .i64 (belV s n), .agg #[.int .u64 (belS s n : Nat)], .int .i64 (belE s n)]) ∧ Lat w w') := by
  by_cases h : n < 1
  · rw [belV, belS, belE, if_pos h, if_pos h, if_pos h]
    exact cBelow_low s n h w
  · obtain ⟨m, rfl⟩ := Int.eq_ofNat_of_zero_le (show 0 ≤ n by omega)
    rw [belV, belS, belE, if_neg h, if_neg h, if_neg h, Int.toNat_natCast]
    have hr : IntKind.i64.wrap (belR s m) = belR s m := by
      have hb : 0 ≤ belR s m ∧ belR s m < 9223372036854775808 := by
        unfold belR
        cases chBel s m with
        | none => rw [optR]; exact ⟨by decide, by decide⟩
        | some p =>
          have := Nat.mod_lt p.1 (show 0 < m by omega)
          exact ⟨by show (0 : Int) ≤ ((p.1 % m : Nat) : Int); omega, by show ((p.1 % m : Nat) : Int) < _; omega⟩
      rw [IntWalk.i64_left]
      exact IntWalk.wrap64_in (belR s m) (by omega)
    refine (cBelow_in s m h (by rw [IntKind.wrap_u64]; omega) (belR s m) (belEn s m) (belT s m) hr (fun b w hb => below_any b s m hs (by omega) (by omega) w hb) w).mono ?_
    rintro e w' ⟨h1, h3, h4⟩
    refine ⟨?_, h4⟩
    cases hc : chBel s m with
    | none =>
      have := h3 (by rw [belEn, hc, optE]; decide)
      rw [this, belEn, hc]
      simp only [optR, optT, optE]
      rfl
    | some p =>
      have := h1 (by rw [belEn, hc, optE])
      rw [this, belR, belT, hc]
      simp only [optR, optT, optE]
end Go.Proofs.Ytogkkhaepfablaa
