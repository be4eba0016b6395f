/- Several texts in one: WeE, WeF. -/
import Derived.Test.YtogkkhaepfablaaGreatK37
import Derived.Test.YtogkkhaepfablaaGreatK29
import Derived.Test.YtogkkhaepfablaaGreatK01
import Derived.Test.YtogkkhaepfablaaGreatK34
import Derived.Test.YtogkkhaepfablaaGreatCwC
import Derived.Test.YtogkkhaepfablaaGreatWeB
import Derived.Test.YtogkkhaepfablaaGreatCwD
namespace Go.Proofs.YtogkkhaepfablaaGreat
open Go.RowKit Go.Shelf
set_option linter.unusedSimpArgs false
set_option linter.unusedVariables false
theorem wr_succ {ns : List Int} {j : Nat} {x : Int} (h : ns[j]? = some x) : wRows ((ns.take (j + 1)).map W8.of) = wRows ((ns.take j).map W8.of) ++ [wRow (W8.of x)] := by
 obtain ⟨hlt, e⟩ := List.getElem?_eq_some_iff.1 h
 rw [List.take_succ_eq_append_getElem hlt, e]
 simp [wRows]
end Go.Proofs.YtogkkhaepfablaaGreat
namespace Go.Proofs.YtogkkhaepfablaaGreat
open Go.RowKit Go.Shelf
set_option linter.unusedSimpArgs false
theorem chTryD_ltF {k : Nat} {ok : Int → Bool} : ∀ {f s : Nat} {p : Int × Nat}, s < 18446744073709551616 → chTry (chDraw k) ok f s = some p → p.2 < 18446744073709551616
 | 0, s, p, _, h => by rw [chTry] at h; exact absurd h (by simp)
 | f + 1, s, p, hs, h => by
   rw [chTry] at h
   by_cases hk : ok (chDraw k s).1 = true
   ·rw [if_pos hk, Option.some.injEq] at h
    rw [← h]
    exact chSt_lt _ s hs
   ·rw [if_neg hk] at h; exact chTryD_ltF (chSt_lt _ s hs) h
theorem wid_ltF {s : Nat} (hs : s < 18446744073709551616) (N : Int) : widS s N < 18446744073709551616 := by
 unfold widS
 split
 ·decide
 ·unfold chWid
  split
  ·rw [optT]; exact hs
  ·cases h : chTry (chDraw (blen (N - 1))) (fun x => decide (x < N)) 200 s with
   | none => rw [optT]; decide
   | some p => rw [optT]; exact chTryD_ltF hs h
theorem chance_sameF (t : Nat) (ht : t < 18446744073709551616) (w : World) : (Op.equalIn 10000 24 (.agg #[.int .u64 (t : Nat)]) (.agg #[.int .u64 (t : Nat)])).run Tryz.prog w = .ok true w := by
 have h := chance_in (s := (t : Int)) (t := (t : Int)) ⟨by omega, by unfold W64; omega⟩ ⟨by omega, by unfold W64; omega⟩ w
 rwa [decide_eq_true rfl] at h
theorem pickIs_nat {s : Nat} {ns : List Int} {k : Int} {t : Nat} {en : Int} (hs : s < 18446744073709551616) (h : PickIs s ns k t en) : (∃ K : Nat, k = (K : Int)) ∧ t < 18446744073709551616 := by
 rcases h with ⟨_, rfl, rfl, _⟩ | ⟨_, _, rfl, rfl, _⟩ | ⟨_, _, _, rfl, K, rfl, _⟩
 ·exact ⟨⟨0, rfl⟩, by decide⟩
 ·exact ⟨⟨0, rfl⟩, by decide⟩
 ·exact ⟨⟨K, rfl⟩, wid_ltF hs _⟩
end Go.Proofs.YtogkkhaepfablaaGreat
