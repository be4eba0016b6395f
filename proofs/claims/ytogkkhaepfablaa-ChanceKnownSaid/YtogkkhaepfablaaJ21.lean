/- Several texts in one: RefP, RefQ. -/
import Derived.Test.YtogkkhaepfablaaJ20
import Derived.Test.YtogkkhaepfablaaJ11

/- The reference's numbers: In. -/
namespace Go.Proofs.Ytogkkhaepfablaa
open Go.RowKit

end Go.Proofs.Ytogkkhaepfablaa

/- The reference's numbers: Out. -/
namespace Go.Proofs.Ytogkkhaepfablaa
open Go.RowKit

/-- After k digits: the words so far. -/
def OutInv (ds : List Int) (k : Nat) (os : List Int) : Prop :=
  os.length = 8 ∧ InR W64 os ∧ val W64 os = val B32 (ds.take k) ∧ (∀ j, (k + 1) / 2 ≤ j → os.getD j 0 = 0) ∧ (k % 2 = 1 → os.getD (k / 2) 0 < 4294967296)
theorem OutInv.start (ds : List Int) : OutInv ds 0 (List.replicate 8 0) := by
  refine ⟨rfl, InR.zeros W64_pos _, by rw [val_zeros]; rfl, fun j _ => ?_, fun h => by omega⟩
  rw [List.getD_eq_getElem?_getD, List.getElem?_replicate]
  split <;> rfl
theorem OutInv.done {ds os : List Int} {n : Nat} (h : OutInv ds n os) (hn : ds.length ≤ n) : ∃ u : W8, u.ok ∧ u.list = os ∧ u.mag = val B32 ds := by
  obtain ⟨hl, hr, hv, _, _⟩ := h
  rw [List.take_of_length_le hn] at hv
  have e : (W8.ofList os).list = os := by rw [W8.ofList_list (by omega), hl]; simp
  exact ⟨W8.ofList os, W8.ofList_ok (by omega) hr, e, by rw [W8.ofList_mag (by omega), hv]⟩
end Go.Proofs.Ytogkkhaepfablaa
