/- Several texts in one: QuS, QuC. -/
import Derived.Test.YteocdndanehpnaaGreatH20
import Derived.Test.YteocdndanehpnaaGreatH31
import Derived.Test.YteocdndanehpnaaGreatH27
namespace Go.Proofs.YteocdndanehpnaaGreat
open Go.RowKit
set_option linter.unusedSimpArgs false
set_option linter.unusedVariables false
end Go.Proofs.YteocdndanehpnaaGreat
namespace Go.Proofs.YteocdndanehpnaaGreat
open Go.RowKit Go.Shelf
set_option linter.unusedSimpArgs false
set_option linter.unusedVariables false
theorem cloneOwn_any (A : Option Addr) (n c : Nat) (xs : List Int) (w : World) (hs : Sl w .i64 A n xs) (hn : 0 < n) (hn2 : n ≤ 17000000000000) :
  Calls Tryz.prog 22 #[.slice A n c] w (fun e w' => ∃ v, e = .returned v ∧ Own w' w.heap.size 3 .i64 v xs ∧ Lat w w') := by
 obtain ⟨b, o, rfl, hc⟩ := hs.plain hn
 have hl := hs.1
 refine (Tryz.slices_Clone_int b o n c xs w (by omega) (by omega) hc).mono ?_
 rintro e w' ⟨v, rfl, h1, _, hb⟩
 rw [List.take_of_length_le (by omega)] at h1
 rw [← hl] at h1
 exact ⟨v, rfl, h1, hb⟩
section
open Go.Sort
end
end Go.Proofs.YteocdndanehpnaaGreat
