
/- Chance: a shuffled list: what it is. -/
import Derived.Test.YtogkkhaepfablaaChV
namespace Go.Proofs.Ytogkkhaepfablaa
open Go.RowKit

/-- The first k places hold their own number, the others 0. -/
def fillTo (n k : Nat) : List Int := (List.range n).map (fun j => if j < k then (j : Int) else 0)
def idL (n : Nat) : List Int := fillTo n n
theorem fillTo_len (n k : Nat) : (fillTo n k).length = n := by unfold fillTo; rw [List.length_map, List.length_range]
theorem fillTo_get (n k j : Nat) : (fillTo n k)[j]? = if j < n then some (if j < k then (j : Int) else 0) else none := by
  unfold fillTo
  rw [List.getElem?_map]
  by_cases h : j < n
  · rw [List.getElem?_range h, if_pos h]; rfl
  · rw [List.getElem?_eq_none (by rw [List.length_range]; omega), if_neg h]; rfl
theorem fillTo_zero (n : Nat) : fillTo n 0 = List.replicate n 0 := by
  apply List.ext_getElem?
  intro j
  rw [fillTo_get, List.getElem?_replicate]
  simp
theorem fillTo_set {n k : Nat} (h : k < n) : (fillTo n k).set k (k : Int) = fillTo n (k + 1) := by
  apply List.ext_getElem?
  intro j
  rw [List.getElem?_set, fillTo_get, fillTo_get, fillTo_len]
  by_cases hj : k = j
  · subst hj
    simp [h]
  · rw [if_neg hj]
    by_cases h1 : j < n
    · rw [if_pos h1, if_pos h1]
      by_cases h2 : j < k
      · rw [if_pos h2, if_pos (by omega)]
      · rw [if_neg h2, if_neg (by omega)]
    · rw [if_neg h1, if_neg h1]
theorem int_succ (k : Nat) : Value.int .i64 ((k : Int) + 1) = .int .i64 ((k + 1 : Nat) : Int) := by simp
theorem meas_up {b k : Nat} (h : k < b) : b - (intOf (.int .i64 ((k : Int) + 1))).toNat < b - (intOf (.int .i64 (k : Int))).toNat := by
  show b - ((k : Int) + 1).toNat < b - ((k : Int)).toNat
  omega
/-- Two places exchanged. -/
def swapL (l : List Int) (i j : Nat) : List Int := (l.set i ((l[j]?).getD 0)).set j ((l[i]?).getD 0)
theorem swapL_len (l : List Int) (i j : Nat) : (swapL l i j).length = l.length := by unfold swapL; rw [List.length_set, List.length_set]
/-- The places k down to 1 are exchanged with drawn ones. -/
def shufGo : Nat → List Int → Nat → Option (List Int × Nat)
  | 0, l, s => some (l, s)
  | k + 1, l, s => (chBel s (k + 2)).bind (fun p => shufGo k (swapL l (k + 1) (p.1 % (k + 2))) p.2)
theorem shufGo_none {k s : Nat} {l : List Int} (h : chBel s (k + 2) = none) : shufGo (k + 1) l s = none := by rw [shufGo, h]; rfl
theorem shufGo_some {k s : Nat} {l : List Int} {p : Nat × Nat} (h : chBel s (k + 2) = some p) : shufGo (k + 1) l s = shufGo k (swapL l (k + 1) (p.1 % (k + 2))) p.2 := by rw [shufGo, h]; rfl
theorem shufGo_no {i m s : Nat} {l : List Int} (hi : 1 ≤ i) (hm : m = i + 1) (h : chBel s m = none) : shufGo i l s = none := by
  obtain ⟨k, rfl⟩ : ∃ k, i = k + 1 := ⟨i - 1, by omega⟩
  subst hm
  exact shufGo_none h
theorem shufGo_yes {i m s : Nat} {l : List Int} {p : Nat × Nat} (hi : 1 ≤ i) (hm : m = i + 1) (h : chBel s m = some p) : shufGo i l s = shufGo (i - 1) (swapL l i (p.1 % m)) p.2 := by
  obtain ⟨k, rfl⟩ : ∃ k, i = k + 1 := ⟨i - 1, by omega⟩
  subst hm
  exact shufGo_some h
theorem chTry_lt {ok : Nat → Bool} : ∀ {f s : Nat} {p : Nat × Nat}, chTry chNext ok f s = some p → p.2 < 18446744073709551616
  | 0, s, p, h => by rw [chTry] at h; exact absurd h (by simp)
  | f + 1, s, p, h => by
    rw [chTry] at h
    by_cases hk : ok (chNext s).1 = true
    · rw [if_pos hk, Option.some.injEq] at h
      rw [← h, next_snd]
      exact chStep_lt s
    · rw [if_neg hk] at h; exact chTry_lt h
theorem chBel_lt {s n : Nat} {p : Nat × Nat} (h : chBel s n = some p) : p.2 < 18446744073709551616 := chTry_lt h
/-- What Shuffle returns for a number of places that is in order. -/
def shufOpt (s n : Nat) : Option (List Int × Nat) := shufGo (n - 1) (idL n) s
end Go.Proofs.Ytogkkhaepfablaa
