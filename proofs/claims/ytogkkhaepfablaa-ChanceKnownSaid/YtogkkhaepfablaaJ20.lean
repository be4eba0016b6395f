/- Several texts in one: RefN, RefO. -/
import Derived.Test.YtogkkhaepfablaaJ19
import Derived.Test.YtogkkhaepfablaaJ08
import Derived.Deep.DeepCutAuto
import Derived.Deep.DrawnRows
import Derived.Test.YtogkkhaepfablaaJ10

/- The reference's numbers: Parts, where the remainder is not below 0 by itself. -/
namespace Go.Proofs.Ytogkkhaepfablaa
open Go.RowKit
attribute [local go_sem ↓] Go.wp_at_zero Go.wp_at_succ

def RPartsPost (w : World) (q r : Int) (N M : Nat) (e : Ending) (w' : World) : Prop :=
  ∃ b A n c b' A' n' c', e = .returned (.tuple #[.agg #[.bool b, .slice A n c], .agg #[.bool b', .slice A' n' c']]) ∧ Rg w' b A n c q ∧ n ≤ N ∧ Rg w' b' A' n' c' r ∧ n' ≤ M ∧ Lat w w'

/-- .. and the world is later than W, too. -/
def RefPost2 (W w : World) (z : Int) (N : Nat) (e : Ending) (w' : World) : Prop :=
  ∃ b A n c, e = .returned (.agg #[.bool b, .slice A n c]) ∧ Rg w' b A n c z ∧ n ≤ N ∧ Lat w w' ∧ Lat W w' ∧ w.heap.size ≤ w'.heap.size
theorem RefPost.two {W w w' : World} {z : Int} {N : Nat} {e : Ending} (hx : Lat W w) (h : RefPost w z N e w') : RefPost2 W w z N e w' := by
  obtain ⟨b, A, n, c, h1, h2, h3, h4⟩ := h
  exact ⟨b, A, n, c, h1, h2, h3, h4, hx.trans h4, h4.size⟩
/-- What the two variables hold. -/
def TwoVars (W1 : World) (q r : Int) (N M : Nat) (s8 s9 : Value) (wx : World) : Prop :=
  ∃ g8 g9 b A n c b' A' n' c', s8 = .pointer (some ⟨g8, 0, none⟩) ∧ s9 = .pointer (some ⟨g9, 0, none⟩) ∧ W1.heap.size ≤ g8 ∧ W1.heap.size ≤ g9 ∧ Blk wx g8 91 #[.bool b, .slice A n c] ∧ Blk wx g9 91 #[.bool b', .slice A' n' c'] ∧
    Rg wx b A n c q ∧ n ≤ N ∧ Rg wx b' A' n' c' r ∧ n' ≤ M ∧ Lat W1 wx
theorem TwoVars.of {W1 w2 : World} {q r : Int} {N M g8 g9 : Nat} {b b' : Bool} {A A' : Option Addr} {n c n' c' : Nat} (h8 : Blk w2 g8 91 #[.bool false, .slice none 0 0]) (h9 : Blk w2 g9 91 #[.bool false, .slice none 0 0]) (hne : g8 ≠ g9)
    (hq : Rg w2 b A n c q) (hn : n ≤ N) (hr : Rg w2 b' A' n' c' r) (hm : n' ≤ M) (hL : Lat W1 w2) (l8 : W1.heap.size ≤ g8) (l9 : W1.heap.size ≤ g9) :
    TwoVars W1 q r N M (.pointer (some ⟨g8, 0, none⟩)) (.pointer (some ⟨g9, 0, none⟩)) ((((w2.setCell ⟨g8, 0, none⟩ (.bool b)).setCell ⟨g8, 1, none⟩ (.slice A n c)).setCell ⟨g9, 0, none⟩ (.bool b')).setCell ⟨g9, 1, none⟩ (.slice A' n' c')) := by
  have a1 := hq.apart h8 (no_i64 _ _ _ _)
  have a2 := hq.apart h9 (no_i64 _ _ _ _)
  have a3 := hr.apart h8 (no_i64 _ _ _ _)
  have a4 := hr.apart h9 (no_i64 _ _ _ _)
  refine ⟨g8, g9, b, A, n, c, b', A', n', c', rfl, rfl, l8, l9, ?_, ?_, ?_, hn, ?_, hm, ?_⟩
  · have := (((h8.set 0 (.bool b)).set 1 (.slice A n c)).far (p := ⟨g9, 0, none⟩) hne (.bool b')).far (p := ⟨g9, 1, none⟩) hne (.slice A' n' c')
    simpa using this
  · have := (((h9.far (p := ⟨g8, 0, none⟩) hne.symm (.bool b)).far (p := ⟨g8, 1, none⟩) hne.symm (.slice A n c)).set 0 (.bool b')).set 1 (.slice A' n' c')
    simpa using this
  · exact (((hq.far (p := ⟨g8, 0, none⟩) a1 _).far (p := ⟨g8, 1, none⟩) a1 _).far (p := ⟨g9, 0, none⟩) a2 _).far (p := ⟨g9, 1, none⟩) a2 _
  · exact (((hr.far (p := ⟨g8, 0, none⟩) a3 _).far (p := ⟨g8, 1, none⟩) a3 _).far (p := ⟨g9, 0, none⟩) a4 _).far (p := ⟨g9, 1, none⟩) a4 _
  · exact (((hL.setCell (p := ⟨g8, 0, none⟩) l8 _).setCell (p := ⟨g8, 1, none⟩) l8 _).setCell (p := ⟨g9, 0, none⟩) l9 _).setCell (p := ⟨g9, 1, none⟩) l9 _

theorem RPartsPost.close {w w2 : World} {g g' t t' : Nat} {b b0 b' b0' : Bool} {A A0 A' A0' : Option Addr} {n c n0 c0 n' c' n0' c0' N M : Nat} {q r : Int} (hk : Blk w2 g t #[.bool b0, .slice A0 n0 c0]) (hk' : Blk w2 g' t' #[.bool b0', .slice A0' n0' c0']) (hlg : Rg w2 b A n c q) (hlg' : Rg w2 b' A' n' c' r) (hL : Lat w w2) (hg : w.heap.size ≤ g) (hg' : w.heap.size ≤ g') (hn : n ≤ N) (hm : n' ≤ M) :
    RPartsPost w q r N M (.returned (.tuple #[.agg #[.bool b, .slice A n c], .agg #[.bool b', .slice A' n' c']])) ((((w2.setCell ⟨g, 0, none⟩ (.bool b)).setCell ⟨g, 1, none⟩ (.slice A n c)).setCell ⟨g', 0, none⟩ (.bool b')).setCell ⟨g', 1, none⟩ (.slice A' n' c')) := by
  have a1 := hlg.apart hk (no_i64 _ _ _ _)
  have a2 := hlg.apart hk' (no_i64 _ _ _ _)
  have a3 := hlg'.apart hk (no_i64 _ _ _ _)
  have a4 := hlg'.apart hk' (no_i64 _ _ _ _)
  exact ⟨_, _, _, _, _, _, _, _, rfl, (((hlg.far (p := ⟨g, 0, none⟩) a1 _).far (p := ⟨g, 1, none⟩) a1 _).far (p := ⟨g', 0, none⟩) a2 _).far (p := ⟨g', 1, none⟩) a2 _, hn,
    (((hlg'.far (p := ⟨g, 0, none⟩) a3 _).far (p := ⟨g, 1, none⟩) a3 _).far (p := ⟨g', 0, none⟩) a4 _).far (p := ⟨g', 1, none⟩) a4 _, hm,
    (((hL.setCell (p := ⟨g, 0, none⟩) hg _).setCell (p := ⟨g, 1, none⟩) hg _).setCell (p := ⟨g', 0, none⟩) hg' _).setCell (p := ⟨g', 1, none⟩) hg' _⟩
theorem RPartsPost.drew {w w' : World} {q r : Int} {N M : Nat} {e : Ending} (h : RPartsPost w q r N M e w') : RPartsPost w q r N M e w'.drew := by
  obtain ⟨b, A, n, c, b', A', n', c', h1, h2, h3, h4, h5, h6⟩ := h
  exact ⟨b, A, n, c, b', A', n', c', h1, h2.later (Lat.drew _), h3, h4.later (Lat.drew _), h5, h6.trans (Lat.drew _)⟩
end Go.Proofs.Ytogkkhaepfablaa

/- The reference's numbers: halves, In. -/
namespace Go.Proofs.Ytogkkhaepfablaa
open Go.RowKit

end Go.Proofs.Ytogkkhaepfablaa
