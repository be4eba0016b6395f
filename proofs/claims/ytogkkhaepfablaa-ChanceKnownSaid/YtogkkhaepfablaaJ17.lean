/- Several texts in one: RefD, RefE, RefF, RefG. -/
import Derived.Test.YtogkkhaepfablaaJ16

/- The reference's numbers: twice, less, more. -/
namespace Go.Proofs.Ytogkkhaepfablaa
open Go.RowKit

end Go.Proofs.Ytogkkhaepfablaa

/- The reference's numbers: less, more. -/
namespace Go.Proofs.Ytogkkhaepfablaa
open Go.RowKit

end Go.Proofs.Ytogkkhaepfablaa

/- The reference's numbers: more. -/
namespace Go.Proofs.Ytogkkhaepfablaa
open Go.RowKit

/-- A digit that may be lacking: what is read at k. -/
theorem Sl.digit {w : World} {A : Option Addr} {n : Nat} {xs : List Int} (h : Sl w .i64 A n xs) (hr : InR B32 xs) (k : Nat) :
    (k < n ∧ ∃ a x, A = some a ∧ Hid (xs.getD k 0 = x) ∧ 0 ≤ x ∧ x < 4294967296 ∧ w.cell? (a.add k) = some (.int .i64 x)) ∨ (n ≤ k ∧ Hid (xs.getD k 0 = 0)) := by
  rcases Nat.lt_or_ge k n with hlt | hge
  · obtain ⟨a, x, e, ha, hxk, hcell⟩ := h.at hlt
    have hrx := hr.at hxk
    exact .inl ⟨hlt, a, x, e, by show _ = _; rw [List.getD_eq_getElem?_getD, hxk]; rfl, hrx.1, hrx.2, hcell⟩
  · exact .inr ⟨hge, by show _ = _; rw [List.getD_eq_getElem?_getD, List.getElem?_eq_none (by have := h.1; omega)]; rfl⟩

end Go.Proofs.Ytogkkhaepfablaa

/- The reference's numbers: product. -/
namespace Go.Proofs.Ytogkkhaepfablaa
open Go.RowKit

end Go.Proofs.Ytogkkhaepfablaa
