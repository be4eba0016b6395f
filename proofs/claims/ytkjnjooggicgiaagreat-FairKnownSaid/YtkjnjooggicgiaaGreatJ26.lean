/- Several texts in one: RefZ. -/
import Derived.Test.YtkjnjooggicgiaaGreatJ24
import Derived.Test.YtkjnjooggicgiaaGreatJ25
import Derived.Test.YtkjnjooggicgiaaGreatJ28
import Derived.Deep.DeepCutAuto

/- The reference's shares: Div, of valid shares. The shares' cells stand as lists under a name. -/
namespace Go.Proofs.YtkjnjooggicgiaaGreat
open Go.RowKit
set_option linter.unusedSimpArgs false
attribute [local go_sem ↓] Go.wp_at_zero Go.wp_at_succ

theorem shareInfoS : (Tryz.prog.info? 35).map (·.size) = some 16 := by kernel_rfl
theorem Blk.rangeAll {w : World} {g : Nat} {t : TypeId} {l : List Value} (h : Blk w g t l.toArray) : w.rangeAt g 0 l := fun j v hj => by rw [Nat.zero_add, h.cell j]; simpa using hj
theorem Blk.thereAll {w : World} {g : Nat} {t : TypeId} {cs : Array Value} (h : Blk w g t cs) (n : Nat) (hn : cs.size = n) : w.there g 0 n := fun j hj => by
  rw [Nat.zero_add]
  exact ⟨by rw [h.cell j, Array.getElem?_eq_getElem (by omega)]; rfl, h.frozen j⟩

theorem Blk.keepS {W w : World} {g : Nat} {t : TypeId} {cs : Array Value} {gs : List Nat} (h : Blk W g t cs) (hg : g ∉ gs) (hl : LatS W gs w) : Blk w g t cs := (hl.2 g h.lt hg).trans h

theorem LatS.setCells {w0 : World} {gs : List Nat} {g : Nat} (hg : g ∈ gs) (vs : List Value) : ∀ (w : World) (o : Nat), LatS w0 gs w → LatS w0 gs (w.setCells g o vs) := by
  induction vs with
  | nil => exact fun w o h => h
  | cons x r ih => exact fun w o h => ih _ _ (h.set (p := ⟨g, o, none⟩) hg x)

/-- The share that Out hands back, its cells under a name. -/
def OutC (w : World) (N D : Int) (e : Ending) (w' : World) : Prop :=
  ∃ (C : List Value) (r : Int), e = .returned (.tuple #[.agg C.toArray, .int .i64 r]) ∧ Hid (∃ u v : W8, C = [.int .u64 u.a0, .int .u64 u.a1, .int .u64 u.a2, .int .u64 u.a3, .int .u64 u.a4, .int .u64 u.a5, .int .u64 u.a6, .int .u64 u.a7, .int .u64 v.a0, .int .u64 v.a1, .int .u64 v.a2, .int .u64 v.a3, .int .u64 v.a4, .int .u64 v.a5, .int .u64 v.a6, .int .u64 v.a7] ∧ ShareIs N D u v r) ∧ C.length = 16 ∧ (∀ v ∈ C, v.oneCell' = true) ∧ Lat w w'
theorem SharePost.outC {w w' : World} {N D : Int} {e : Ending} (h : SharePost w N D e w') : OutC w N D e w' := by
  obtain ⟨u, v, r, h1, h2, h3⟩ := h
  exact ⟨[.int .u64 u.a0, .int .u64 u.a1, .int .u64 u.a2, .int .u64 u.a3, .int .u64 u.a4, .int .u64 u.a5, .int .u64 u.a6, .int .u64 u.a7, .int .u64 v.a0, .int .u64 v.a1, .int .u64 v.a2, .int .u64 v.a3, .int .u64 v.a4, .int .u64 v.a5, .int .u64 v.a6, .int .u64 v.a7], r, h1, ⟨u, v, rfl, h2⟩, rfl, by simp [Value.oneCell'], h3⟩

end Go.Proofs.YtkjnjooggicgiaaGreat
