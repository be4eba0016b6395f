/- Several texts in one: RefH, RefI, RefJ, RefK. -/
import Derived.Test.YtogkkhaepfablaaJ17

/- The reference's numbers: what 'parts' does to slices. -/
namespace Go.Proofs.Ytogkkhaepfablaa
open Go.RowKit

theorem Own.made {w : World} {g : Nat} {E : TypeId} {k : IntKind} {B : Nat} (h : Blk w g E #[]) (hB : B ≤ g) : Own w B E k (.slice (some ⟨g, 0, none⟩) 0 0) [] :=
  ⟨rfl, .inr ⟨g, 0, #[], rfl, hB, h, Nat.le_refl _, by simp [maxLen], rfl, rfl⟩⟩

/-- A number's digits. -/
def Dg (w : World) (A : Option Addr) (n c : Nat) (z : Int) : Prop := n ≤ c ∧ ∃ xs, Sl w .i64 A n xs ∧ InR B32 xs ∧ Nz xs ∧ val B32 xs = z
theorem Dg.later {W w : World} {A : Option Addr} {n c : Nat} {z : Int} (h : Dg W A n c z) (hl : Lat W w) : Dg w A n c z := by
  obtain ⟨hn, xs, hs, r⟩ := h
  exact ⟨hn, xs, hs.later hl, r⟩
theorem Dg.off {w : World} {A : Option Addr} {n c : Nat} {z : Int} (h : Dg w A n c z) {p : Addr} (hp : ∀ a, A = some a → a.block ≠ p.block) (u : Value) : Dg (w.setCell p u) A n c z := by
  obtain ⟨hn, xs, hs, r⟩ := h
  exact ⟨hn, xs, hs.off' (fun _ => hp) u, r⟩
end Go.Proofs.Ytogkkhaepfablaa

/- The reference's numbers: parts. -/
namespace Go.Proofs.Ytogkkhaepfablaa
open Go.RowKit

end Go.Proofs.Ytogkkhaepfablaa

/- The reference's numbers: parts, bit by bit. -/
namespace Go.Proofs.Ytogkkhaepfablaa
open Go.RowKit

end Go.Proofs.Ytogkkhaepfablaa

/- The reference's numbers: Turn, Times, Plus, Minus. -/
namespace Go.Proofs.Ytogkkhaepfablaa
open Go.RowKit

end Go.Proofs.Ytogkkhaepfablaa
