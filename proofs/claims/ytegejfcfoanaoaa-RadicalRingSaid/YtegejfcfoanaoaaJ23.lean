/- Several texts in one: RefT. -/
import Derived.Test.YtegejfcfoanaoaaJ22
import Derived.Test.YtegejfcfoanaoaaJ12

/- The reference's fractions: Lowest. -/
namespace Go.Proofs.Ytegejfcfoanaoaa
open Go.RowKit

/-- What a call leaves that returns a fraction of the reference. -/
def RratPost (w : World) (x y : Int) (N : Nat) (e : Ending) (w' : World) : Prop :=
  ∃ b A n c b' A' n' c', e = .returned (.agg #[.bool b, .slice A n c, .bool b', .slice A' n' c']) ∧ Rg w' b A n c x ∧ n ≤ N ∧ Rg w' b' A' n' c' y ∧ n' ≤ N ∧ Lat w w'
theorem no_i64_4 (b : Bool) (A : Option Addr) (n c : Nat) (b' : Bool) (A' : Option Addr) (n' c' : Nat) : ∀ (j : Nat) (x : Int), (#[.bool b, .slice A n c, .bool b', .slice A' n' c'] : Array Value)[j]? ≠ some (.int .i64 x) := by
  intro j x
  match j with
  | 0 => simp
  | 1 => simp
  | 2 => simp
  | 3 => simp
  | j + 4 => simp
theorem RratPost.close {w w2 : World} {g t : Nat} {b b' b0 b0' : Bool} {A A' A0 A0' : Option Addr} {n c n' c' n0 c0 n0' c0' N : Nat} {x y : Int} (hk : Blk w2 g t #[.bool b0, .slice A0 n0 c0, .bool b0', .slice A0' n0' c0'])
    (h1 : Rg w2 b A n c x) (h2 : Rg w2 b' A' n' c' y) (hL : Lat w w2) (hg : w.heap.size ≤ g) (hn : n ≤ N) (hn' : n' ≤ N) :
    RratPost w x y N (.returned (.agg #[.bool b, .slice A n c, .bool b', .slice A' n' c'])) ((((w2.setCell ⟨g, 0, none⟩ (.bool b)).setCell ⟨g, 1, none⟩ (.slice A n c)).setCell ⟨g, 2, none⟩ (.bool b')).setCell ⟨g, 3, none⟩ (.slice A' n' c')) := by
  have ha := h1.apart hk (no_i64_4 _ _ _ _ _ _ _ _)
  have hb := h2.apart hk (no_i64_4 _ _ _ _ _ _ _ _)
  exact ⟨_, _, _, _, _, _, _, _, rfl, (((h1.far (p := ⟨g, 0, none⟩) ha _).far (p := ⟨g, 1, none⟩) ha _).far (p := ⟨g, 2, none⟩) ha _).far (p := ⟨g, 3, none⟩) ha _, hn,
    (((h2.far (p := ⟨g, 0, none⟩) hb _).far (p := ⟨g, 1, none⟩) hb _).far (p := ⟨g, 2, none⟩) hb _).far (p := ⟨g, 3, none⟩) hb _, hn',
    (((hL.setCell (p := ⟨g, 0, none⟩) hg _).setCell (p := ⟨g, 1, none⟩) hg _).setCell (p := ⟨g, 2, none⟩) hg _).setCell (p := ⟨g, 3, none⟩) hg _⟩
theorem Rg.neg_of {w : World} {A : Option Addr} {n c : Nat} {z : Int} (h : Rg w true A n c z) : z < 0 := by
  obtain ⟨_, xs, _, r, nz, hne, hv⟩ := h
  have := val_pos B32_pos r nz (hne rfl)
  rw [hv]; simp only [sgn, if_true]; omega
theorem Rg.nonneg_of {w : World} {A : Option Addr} {n c : Nat} {z : Int} (h : Rg w false A n c z) : 0 ≤ z := by
  obtain ⟨_, xs, _, r, nz, hne, hv⟩ := h
  have := val_nonneg B32_pos r
  rw [hv]; exact this

end Go.Proofs.Ytegejfcfoanaoaa
