/- Several texts in one: Cells, Award, Best. -/
import Derived.Test.YtbgngmamnonlbaaGreatH01
import Derived.Deep.AppendLies
import Derived.Test.YtbgngmamnonlbaaGreatProg
namespace Go.Proofs.YtbgngmamnonlbaaGreat
open Go.RowKit
section
variable {w W : World} {A : Option Addr} {n : Nat} {xs : List Value}
end
section
variable {w w' : World} {B : Nat} {E : TypeId} {v : Value} {xs : List Value}
end
end Go.Proofs.YtbgngmamnonlbaaGreat
namespace Go.Proofs.YtbgngmamnonlbaaGreat
def atI (l : List Int) (i : Nat) : Int := l[i]?.getD 0
theorem atI_of {l : List Int} {i : Nat} {x : Int} (h : l[i]? = some x) : atI l i = x := by rw [atI, h]; rfl
theorem atI_set_same {l : List Int} {i : Nat} {x : Int} (h : i < l.length) : atI (l.set i x) i = x := by simp [atI, h]
theorem atI_set_ne {l : List Int} {i j : Nat} {x : Int} (h : i ≠ j) : atI (l.set i x) j = atI l j := by simp [atI, h]
def pick (c : Nat → Nat → Int) (out : List Nat) (x : Nat) : List Nat :=
 match out with
 | [] => [x]
 | y :: r => if 0 < c x y then [x] else if c x y < 0 then y :: r else (y :: r) ++ [x]
def bestL (c : Nat → Nat → Int) (l : List Nat) : List Nat := l.foldl (pick c) []
def bump (S : List Int) (l : List Nat) : List Int := l.foldl (fun s i => s.set i (atI s i + 1)) S
theorem bump_snoc (S : List Int) (l : List Nat) (i : Nat) : bump S (l ++ [i]) = (bump S l).set i (atI (bump S l) i + 1) := by simp [bump]
theorem bump_length (l : List Nat) : ∀ S : List Int, (bump S l).length = S.length := by
 induction l with
 | nil => exact fun S => rfl
 | cons x r ih => exact fun S => by rw [bump, List.foldl_cons, ← bump, ih]; simp
theorem bump_take {S : List Int} {l : List Nat} {k i : Nat} (h : l[k]? = some i) : bump S (l.take (k + 1)) = (bump S (l.take k)).set i (atI (bump S (l.take k)) i + 1) := by
 obtain ⟨hl, rfl⟩ := List.getElem?_eq_some_iff.1 h
 rw [List.take_succ_eq_append_getElem hl, bump_snoc]
theorem bump_other {l : List Nat} : ∀ {S : List Int} {j : Nat}, j ∉ l → atI (bump S l) j = atI S j := by
 induction l with
 | nil => exact fun _ => rfl
 | cons x r ih =>
   intro S j h
   rw [bump, List.foldl_cons, ← bump, ih (fun hm => h (List.mem_cons_of_mem _ hm)), atI_set_ne (fun e => h (by simp [e]))]
structure Aw where
 seats : List Int
 tied : List Nat
 left : Int
 order : List Nat
def vs (f : Int → Int → Int → Int → Int) (P S : List Int) (i j : Nat) : Int := f (atI P i) (atI S i) (atI P j) (atI S j)
def award (f : Int → Int → Int → Int → Int) (P : List Int) (C : List Nat) : Nat → List Int → Int → List Nat → Aw
 | 0, S, _, o => ⟨S, [], 0, o⟩
 | k + 1, S, left, o =>
   if left ≤ 0 then ⟨S, [], 0, o⟩
   else if left < (bestL (vs f P S) C).length then ⟨S, bestL (vs f P S) C, left, o⟩
   else award f P C k (bump S (bestL (vs f P S) C)) (left - (bestL (vs f P S) C).length) (o ++ bestL (vs f P S) C)
section
variable {f : Int → Int → Int → Int → Int} {P : List Int} {C : List Nat}
end
def full (P : List Int) : List Nat := (List.range P.length).filter fun i => decide (0 < atI P i)
end Go.Proofs.YtbgngmamnonlbaaGreat
namespace Go.Proofs.YtbgngmamnonlbaaGreat
open Go.RowKit
end Go.Proofs.YtbgngmamnonlbaaGreat
