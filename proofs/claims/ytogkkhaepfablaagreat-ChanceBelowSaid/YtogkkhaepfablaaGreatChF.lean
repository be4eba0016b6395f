
/- Chance: a number below n: the numbers of the call. -/
import Derived.Test.YtogkkhaepfablaaGreatChE
namespace Go.Proofs.YtogkkhaepfablaaGreat
open Go.RowKit Go.Shelf

/-- What below answers: the number, the error, the state. -/
def belR (s n : Nat) : Int := optR n (chBel s n)
def belEn (s n : Nat) : Int := optE (chBel s n)
def belT (s n : Nat) : Nat := optT (chAfter chNext 200 s) (chBel s n)
theorem next_fst (x : Nat) : (chNext x).1 = chMix (chStep x) := by simp only [chNext]
theorem next_snd (x : Nat) : (chNext x).2 = chStep x := by simp only [chNext]
theorem after_succ (j s : Nat) : chAfter chNext (j + 1) s = chStep (chAfter chNext j s) := by rw [chAfter, next_snd]
theorem after_lt {s : Nat} (hs : s < 18446744073709551616) (j : Nat) : chAfter chNext j s < 18446744073709551616 := by
  cases j with
  | zero => exact hs
  | succ j => rw [after_succ]; exact chStep_lt _
theorem belN {n m rest q lim : Nat} (h1 : 1 ≤ n) (h2 : n < 9223372036854775808) (hm : m + n = 18446744073709551616) (hr : m % n = rest) (hq : (q : Int) = (-(rest : Int)) % 18446744073709551616) (hl : lim + rest = 18446744073709551615) : BelN n m rest q lim := by
  have hlt := Nat.mod_lt m h1
  have he : (m : Int).tmod (n : Int) = (rest : Int) := by
    rw [Int.tmod_eq_emod_of_nonneg (by omega), ← Int.natCast_emod, hr]
  rw [hr] at hlt
  clear hr
  refine ⟨by omega, ?_, he, ?_, ?_⟩
  · rw [IntKind.wrap_u64]; omega
  · rw [IntKind.wrap_u64]; omega
  · rw [IntKind.wrap_u64]; omega
theorem chOk_eq {n m rest : Nat} (hm : m + n = 18446744073709551616) (hr : m % n = rest) (x : Nat) : chOk n x = decide (x ≤ 18446744073709551615 - rest ∨ rest = 0) := by
  have : 18446744073709551616 - n = m := by omega
  unfold chOk
  rw [this, hr]
theorem below_any (b s n : Nat) (hs : s < 18446744073709551616) (h1 : 1 ≤ n) (h2 : n < 9223372036854775808) (w : World) (hb : Blk w b 83 #[.int .u64 (s : Nat)]) :
    Calls Tryz.prog 35 #[.pointer (some ⟨b, 0, none⟩), .int .u64 (n : Nat)] w (BelPost b w (belR s n) (belEn s n) (belT s n)) := by
  obtain ⟨st, hst⟩ : ∃ st : Nat → Nat, st = fun j => chAfter chNext j s := ⟨_, rfl⟩
  obtain ⟨xs, hxs⟩ : ∃ xs : Nat → Nat, xs = fun j => chMix (chStep (chAfter chNext j s)) := ⟨_, rfl⟩
  have hx : ∀ j, xs j < 18446744073709551616 := fun j => by
    simp only [hxs]
    exact chMix_lt (chStep (chAfter chNext j s))
  have hN : ∀ j, NextC (st j) (xs j) (st (j + 1)) := fun j => by
    have := nextC (chAfter chNext j s) (after_lt hs j)
    simp only [hst, hxs, after_succ]
    exact this
  have h00 : st 0 = s := by rw [hst]; simp only [chAfter]
  obtain ⟨m, hm⟩ : ∃ m, m + n = 18446744073709551616 := ⟨18446744073709551616 - n, by omega⟩
  obtain ⟨rest, hrest⟩ : ∃ z, m % n = z := ⟨_, rfl⟩
  have hlt := Nat.mod_lt m h1
  rw [hrest] at hlt
  obtain ⟨lim, hl⟩ : ∃ lim, lim + rest = 18446744073709551615 := ⟨18446744073709551615 - rest, by omega⟩
  obtain ⟨q, hq⟩ := Int.eq_ofNat_of_zero_le (Int.emod_nonneg (-(rest : Int)) (show (18446744073709551616 : Int) ≠ 0 by decide))
  have hB := belN h1 h2 hm hrest hq.symm hl
  have hO := chOk_eq hm hrest
  clear hm hrest hq h1
  refine (below_in b s n _ _ _ _ hB st xs h00 hN (chOk n) (fun j h => ?_) (fun j h => ?_) w hb).mono ?_
  · have := hx j
    rw [hO, decide_eq_true_eq] at h
    omega
  · rw [hO, decide_eq_false_iff_not] at h
    omega
  · simp only [hst, hxs]
    rintro e w' (⟨j, hj, hn, hok, hp⟩ | ⟨hn, hp⟩)
    · have ht : chBel s n = some (chNext (chAfter chNext j s)) := by
        unfold chBel
        exact chTry_take (draw := chNext) (ok := chOk n) (f := 200) (j := j) (s := s) hj (fun i hi => by rw [next_fst]; exact hn i hi) (by rw [next_fst]; exact hok)
      have e1 : belR s n = (chMix (chStep (chAfter chNext j s)) : Int) % (n : Int) := by rw [belR, ht, optR, next_fst]; exact Int.natCast_emod _ _
      have e2 : belEn s n = 0 := by rw [belEn, ht, optE]
      have e3 : belT s n = chAfter chNext (j + 1) s := by rw [belT, ht, optT, after_succ, next_snd]
      rw [e1, e2, e3]
      exact hp
    · have ht : chBel s n = none := by
        unfold chBel
        exact chTry_none (draw := chNext) (ok := chOk n) (f := 200) (s := s) (fun i hi => by rw [next_fst]; exact hn i hi)
      have e1 : belR s n = 0 := by rw [belR, ht, optR]
      have e2 : belEn s n = 9 := by rw [belEn, ht, optE]
      have e3 : belT s n = chAfter chNext 200 s := by rw [belT, ht, optT]
      rw [e1, e2, e3]
      exact hp
end Go.Proofs.YtogkkhaepfablaaGreat
