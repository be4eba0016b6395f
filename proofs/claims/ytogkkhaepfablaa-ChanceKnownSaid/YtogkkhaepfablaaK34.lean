/- Several texts in one: Frac, RgD, DwA, DwF, Lv, DwW, DrI, Win, Off. -/
import Derived.Test.YtogkkhaepfablaaJ13
import Derived.Test.YtogkkhaepfablaaJ19
import Derived.Test.YtogkkhaepfablaaK02
import Derived.Deep.DeepCutAuto
import Derived.Test.YtogkkhaepfablaaJ22
import Derived.Test.YtogkkhaepfablaaK04
import Derived.Test.YtogkkhaepfablaaJ18
import Derived.Test.YtogkkhaepfablaaJ23
import Derived.Test.YtogkkhaepfablaaK29

/- Fractions in lowest terms, and the shares that hold them; no program is in sight. -/
namespace Go.Proofs.Ytogkkhaepfablaa
open Go.RowKit

theorem low_pos {x y : Int} (hy : 0 < y) : lowN x y = x / Int.gcd x y ∧ lowD x y = y / Int.gcd x y := by
  rw [lowN, lowD, if_neg (by omega), if_neg (by omega)]; exact ⟨rfl, rfl⟩
theorem gcd_pos' {x y : Int} (hy : 0 < y) : (0 : Int) < Int.gcd x y := by
  have := Int.gcd_pos_of_ne_zero_right x (show y ≠ 0 by omega)
  omega
theorem low_mul {x y : Int} (hy : 0 < y) : lowN x y * Int.gcd x y = x ∧ lowD x y * Int.gcd x y = y := by
  obtain ⟨h1, h2⟩ := low_pos (x := x) hy
  rw [h1, h2]
  exact ⟨Int.ediv_mul_cancel (Int.gcd_dvd_left ..), Int.ediv_mul_cancel (Int.gcd_dvd_right ..)⟩
theorem lowD_pos {x y : Int} (hy : 0 < y) : 0 < lowD x y := by
  have h := (low_mul (x := x) hy).2
  have hg := gcd_pos' (x := x) hy
  rcases Int.lt_or_le 0 (lowD x y) with h1 | h1
  · exact h1
  · have := Int.mul_le_mul_of_nonneg_right h1 (Int.le_of_lt hg)
    omega
theorem low_ok {x y : Int} (hy : 0 < y) : ShOk (lowN x y) (lowD x y) := by
  refine ⟨lowD_pos hy, ?_⟩
  obtain ⟨h1, h2⟩ := low_pos (x := x) hy
  rw [h1, h2]
  exact Int.gcd_ediv_gcd_ediv_gcd (by have := gcd_pos' (x := x) hy; omega)
theorem low_cross {x y : Int} (hy : 0 < y) : lowN x y * y = x * lowD x y := by
  obtain ⟨h1, h2⟩ := low_mul (x := x) hy
  have e : lowN x y * y = lowN x y * (lowD x y * Int.gcd x y) := by rw [h2]
  have e' : x * lowD x y = lowN x y * Int.gcd x y * lowD x y := by rw [h1]
  rw [e, e']
  grind
theorem cop_dvd {a b c : Int} (h : Int.gcd a b = 1) (hd : a ∣ b * c) : a ∣ c := by
  have h1 : a.natAbs ∣ b.natAbs * c.natAbs := by rw [← Int.natAbs_mul]; exact Int.natAbs_dvd_natAbs.2 hd
  exact Int.natAbs_dvd_natAbs.1 (Nat.Coprime.dvd_of_dvd_mul_left h h1)
theorem frac_unique {n1 d1 n2 d2 : Int} (h1 : ShOk n1 d1) (h2 : ShOk n2 d2) (h : n1 * d2 = n2 * d1) : n1 = n2 ∧ d1 = d2 := by
  have e1 : d1 ∣ d2 := by
    refine cop_dvd (b := n1) (by rw [Int.gcd_comm]; exact h1.2) ?_
    rw [h]; exact Int.dvd_mul_left ..
  have e2 : d2 ∣ d1 := by
    refine cop_dvd (b := n2) (by rw [Int.gcd_comm]; exact h2.2) ?_
    rw [← h]; exact Int.dvd_mul_left ..
  have e : d1 = d2 := Int.dvd_antisymm (Int.le_of_lt h1.1) (Int.le_of_lt h2.1) e1 e2
  subst e
  refine ⟨?_, rfl⟩
  exact Int.eq_of_mul_eq_mul_right (by have := h1.1; omega) h
/-- The same number, the same lowest terms. -/
theorem low_congr {a b c d : Int} (hb : 0 < b) (hd : 0 < d) (h : a * d = c * b) : lowN a b = lowN c d ∧ lowD a b = lowD c d := by
  refine frac_unique (low_ok hb) (low_ok hd) ?_
  have h1 := low_cross (x := a) hb
  have h2 := low_cross (x := c) hd
  have e : (lowN a b * lowD c d) * (b * d) = (lowN c d * lowD a b) * (b * d) := by
    have e1 : (lowN a b * lowD c d) * (b * d) = (lowN a b * b) * (lowD c d * d) := by grind
    have e2 : (lowN c d * lowD a b) * (b * d) = (lowN c d * d) * (lowD a b * b) := by grind
    rw [e1, e2, h1, h2]
    have e3 : a * lowD a b * (lowD c d * d) = (a * d) * (lowD a b * lowD c d) := by grind
    have e4 : c * lowD c d * (lowD a b * b) = (c * b) * (lowD a b * lowD c d) := by grind
    rw [e3, e4, h]
  exact Int.eq_of_mul_eq_mul_right (by have := Int.mul_pos hb hd; omega) e
theorem low_abs {x y : Int} (hy : 0 < y) : (lowN x y).natAbs ≤ x.natAbs ∧ lowD x y ≤ y := by
  obtain ⟨h1, h2⟩ := low_mul (x := x) hy
  have hg := gcd_pos' (x := x) hy
  constructor
  · have : x.natAbs = (lowN x y).natAbs * (Int.gcd x y) := by
      conv => lhs; rw [← h1]
      rw [Int.natAbs_mul]; simp
    rw [this]
    exact Nat.le_mul_of_pos_right _ (by omega)
  · have := Int.mul_le_mul_of_nonneg_left (show (1 : Int) ≤ Int.gcd x y by omega) (Int.le_of_lt (lowD_pos (x := x) hy))
    omega
/-- The share of N / D. -/
def ShV (u v : W8) (N D : Int) : Prop := u = W8.of (lowN N D) ∧ v = W8.of (lowD N D)
/-- A fraction that is not too great. -/
def Fits (N D : Int) : Prop := 0 < D ∧ -P511 < N ∧ N < P511 ∧ D < P511
theorem Fits.low {N D : Int} (h : Fits N D) : -P511 ≤ lowN N D ∧ lowN N D < P511 ∧ -P511 ≤ lowD N D ∧ lowD N D < P511 := by
  obtain ⟨h0, h1, h2, h3⟩ := h
  obtain ⟨a1, a2⟩ := low_abs (x := N) h0
  have := lowD_pos (x := N) h0
  have := P511_pos
  omega
theorem ShV.facts {u v : W8} {N D : Int} (h : ShV u v N D) (hf : Fits N D) : u.ok ∧ v.ok ∧ u.toInt = lowN N D ∧ v.toInt = lowD N D ∧ ShOk u.toInt v.toInt := by
  obtain ⟨rfl, rfl⟩ := h
  obtain ⟨h1, h2, h3, h4⟩ := hf.low
  refine ⟨W8.of_ok _, W8.of_ok _, W8.of_toInt h1 h2, W8.of_toInt h3 h4, ?_⟩
  rw [W8.of_toInt h1 h2, W8.of_toInt h3 h4]
  exact low_ok hf.1
theorem ShV.congr {u v : W8} {a b c d : Int} (h : ShV u v a b) (hb : 0 < b) (hd : 0 < d) (he : a * d = c * b) : ShV u v c d := by
  obtain ⟨e1, e2⟩ := low_congr hb hd he
  unfold ShV at h ⊢
  rw [← e1, ← e2]
  exact h
end Go.Proofs.Ytogkkhaepfablaa

/- Chance: the reference's powers. -/
namespace Go.Proofs.Ytogkkhaepfablaa
open Go.RowKit
set_option linter.unusedSimpArgs false

end Go.Proofs.Ytogkkhaepfablaa

/- The reference's drafts of numbers: Small, and Of. -/
namespace Go.Proofs.Ytogkkhaepfablaa
open Go.RowKit
set_option linter.unusedSimpArgs false

end Go.Proofs.Ytogkkhaepfablaa

/- The reference's sums, with what is known of where they lie. -/
namespace Go.Proofs.Ytogkkhaepfablaa
open Go.RowKit

/-- What made leaves: its digits are those that came in. -/
def MadeF (w : World) (A : Option Addr) (z : Int) (N : Nat) (e : Ending) (w' : World) : Prop :=
  ∃ b n c, e = .returned (.agg #[.bool b, .slice A n c]) ∧ Rg w' b A n c z ∧ n ≤ N ∧ Lat w w'
/-- A number in new memory. -/
def RefF (w : World) (z : Int) (N : Nat) (e : Ending) (w' : World) : Prop :=
  ∃ b A n c, e = .returned (.agg #[.bool b, .slice A n c]) ∧ Rg w' b A n c z ∧ n ≤ N ∧ Lat w w' ∧ ∀ a, A = some a → w.heap.size ≤ a.block
theorem MadeF.close {w w2 : World} {g t : Nat} {b b0 : Bool} {A A0 : Option Addr} {n c n0 c0 N : Nat} {z : Int} (hk : Blk w2 g t #[.bool b0, .slice A0 n0 c0]) (hlg : Rg w2 b A n c z) (hL : Lat w w2) (hg : w.heap.size ≤ g) (hn : n ≤ N) :
    MadeF w A z N (.returned (.agg #[.bool b, .slice A n c])) ((w2.setCell ⟨g, 0, none⟩ (.bool b)).setCell ⟨g, 1, none⟩ (.slice A n c)) := by
  have ha := hlg.apart hk (no_i64 _ _ _ _)
  exact ⟨_, _, _, rfl, (hlg.far (p := ⟨g, 0, none⟩) ha _).far (p := ⟨g, 1, none⟩) ha _, hn, (hL.setCell (p := ⟨g, 0, none⟩) hg _).setCell (p := ⟨g, 1, none⟩) hg _⟩
theorem RefF.of {w w' : World} {b : Bool} {A : Option Addr} {n c N : Nat} {z : Int} (h : RefPost w z N (.returned (.agg #[.bool b, .slice A n c])) w') (hf : ∀ a, A = some a → w.heap.size ≤ a.block) : RefF w z N (.returned (.agg #[.bool b, .slice A n c])) w' := by
  obtain ⟨b', A', n', c', e, h1, h2, h3⟩ := h
  cases e
  exact ⟨_, _, _, _, rfl, h1, h2, h3, hf⟩

theorem Sl.kept' {w W : World} {k : IntKind} {A : Option Addr} {n : Nat} {xs : List Int} (h : Sl W k A n xs) (hs : W.heap.size ≤ w.heap.size) (hk : ∀ a, A = some a → a.block < W.heap.size → w.heap[a.block]? = W.heap[a.block]?) : Sl w k A n xs := by
  refine ⟨h.1, fun hn => ?_⟩
  obtain ⟨a, e, hlt, hc⟩ := h.2 hn
  refine ⟨a, e, Nat.lt_of_lt_of_le hlt hs, fun j x hx => ?_⟩
  rw [← hc j x hx]
  exact World.cell?_of_block (by rw [block_add]; exact hk a e hlt)
theorem Rg.kept {w W : World} {b : Bool} {A : Option Addr} {n c : Nat} {z : Int} (h : Rg W b A n c z) (hs : W.heap.size ≤ w.heap.size) (hk : ∀ a, A = some a → a.block < W.heap.size → w.heap[a.block]? = W.heap[a.block]?) : Rg w b A n c z := by
  obtain ⟨hn, xs, h1, r⟩ := h
  exact ⟨hn, xs, h1.kept' hs hk, r⟩
theorem Own.kept {w w' : World} {B : Nat} {E : TypeId} {k : IntKind} {v : Value} {xs : List Int} (h : Own w B E k v xs) (hk : ∀ g, B ≤ g → v.ownBlock = some g → w'.heap[g]? = w.heap[g]?) : Own w' B E k v xs := by
  obtain ⟨h1, h2⟩ := h
  refine ⟨h1, ?_⟩
  rcases h2 with h2 | ⟨g, cap, cur, a1, a2, a3, a4⟩
  · exact .inl h2
  · refine .inr ⟨g, cap, cur, a1, a2, ?_, a4⟩
    rw [hk g a2 (by rw [a1]; rfl)]; exact a3
theorem Own.at_ {w : World} {B : Nat} {E : TypeId} {k : IntKind} {v : Value} {xs : List Int} (h : Own w B E k v xs) : ∀ q, v.ownBlock = some q → B ≤ q ∧ q < w.heap.size := by
  intro q hq
  obtain ⟨h1, h2⟩ := h
  rcases h2 with ⟨rfl, _⟩ | ⟨g, cap, cur, rfl, hb, hg, _⟩
  · cases hq
  · have e : g = q := by simpa [Value.ownBlock] using hq
    subst e
    refine ⟨hb, ?_⟩
    rcases Nat.lt_or_ge g w.heap.size with hlt | hge
    · exact hlt
    · rw [Array.getElem?_eq_none hge] at hg; cases hg
/-- A number that is not negative. -/
def RefN (w : World) (z : Int) (N : Nat) (e : Ending) (w' : World) : Prop :=
  ∃ A n c, e = .returned (.agg #[.bool false, .slice A n c]) ∧ Rg w' false A n c z ∧ n ≤ N ∧ Lat w w'
theorem RefPost.nonneg {w w' : World} {z : Int} {N : Nat} {e : Ending} (h : RefPost w z N e w') (hz : 0 ≤ z) : RefN w z N e w' := by
  obtain ⟨b, A, n, c, rfl, h1, h2, h3⟩ := h
  cases b with
  | false => exact ⟨_, _, _, rfl, h1, h2, h3⟩
  | true => have := h1.neg_of; omega
def RefFN (w : World) (z : Int) (N : Nat) (e : Ending) (w' : World) : Prop :=
  ∃ A n c, e = .returned (.agg #[.bool false, .slice A n c]) ∧ Rg w' false A n c z ∧ n ≤ N ∧ Lat w w' ∧ ∀ a, A = some a → w.heap.size ≤ a.block
theorem RefF.nonneg {w w' : World} {z : Int} {N : Nat} {e : Ending} (h : RefF w z N e w') (hz : 0 ≤ z) : RefFN w z N e w' := by
  obtain ⟨b, A, n, c, rfl, h1, h2, h3, h4⟩ := h
  cases b with
  | false => exact ⟨_, _, _, rfl, h1, h2, h3, h4⟩
  | true => have := h1.neg_of; omega
end Go.Proofs.Ytogkkhaepfablaa

/- Numbers of any length of the reference in the slots of a drawn region. -/
namespace Go.Proofs.Ytogkkhaepfablaa
open Go.RowKit

/-- A number in a slot. -/
def LV (z : Int) (N : Nat) (v : Value) (w : World) : Prop := ∃ b A n c, v = .agg #[.bool b, .slice A n c] ∧ Rg w b A n c z ∧ n ≤ N
def LN (z : Int) (N : Nat) (v : Value) (w : World) : Prop := ∃ A n c, v = .agg #[.bool false, .slice A n c] ∧ Rg w false A n c z ∧ n ≤ N
def LNF (z : Int) (N B : Nat) (v : Value) (w : World) : Prop := ∃ A n c, v = .agg #[.bool false, .slice A n c] ∧ Rg w false A n c z ∧ n ≤ N ∧ ∀ a, A = some a → B ≤ a.block
section
variable {z : Int} {N B : Nat} {v : Value} {w w' : World} {e : Ending} {d : Prop}
theorem LV.mono (h : LV z N v w) (hl : Lat w w') : LV z N v w' := by
  obtain ⟨b, A, n, c, e, hr, hn⟩ := h
  exact ⟨b, A, n, c, e, hr.later hl, hn⟩
theorem LN.mono (h : LN z N v w) (hl : Lat w w') : LN z N v w' := by
  obtain ⟨A, n, c, e, hr, hn⟩ := h
  exact ⟨A, n, c, e, hr.later hl, hn⟩
theorem LNF.mono (h : LNF z N B v w) (hl : Lat w w') : LNF z N B v w' := by
  obtain ⟨A, n, c, e, hr, hn⟩ := h
  exact ⟨A, n, c, e, hr.later hl, hn⟩
theorem RefPost.run (h : RefPost w z N e w') : ∃ v, e = .returned v ∧ (Lat w w' ∧ (d → LV z N v w')) := by
  obtain ⟨b, A, n, c, e, hr, hn, hl⟩ := h
  exact ⟨_, e, hl, fun _ => ⟨b, A, n, c, rfl, hr, hn⟩⟩
theorem RefN.run (h : RefN w z N e w') : ∃ v, e = .returned v ∧ (Lat w w' ∧ (d → LN z N v w')) := by
  obtain ⟨A, n, c, e, hr, hn, hl⟩ := h
  exact ⟨_, e, hl, fun _ => ⟨A, n, c, rfl, hr, hn⟩⟩
theorem RefFN.run (h : RefFN w z N e w') (hB : B ≤ w.heap.size) : ∃ v, e = .returned v ∧ (Lat w w' ∧ (d → LNF z N B v w')) := by
  obtain ⟨A, n, c, e, hr, hn, hl, hf⟩ := h
  exact ⟨_, e, hl, fun _ => ⟨A, n, c, rfl, hr, hn, fun a ha => Nat.le_trans hB (hf a ha)⟩⟩
end
end Go.Proofs.Ytogkkhaepfablaa

/- The reference's drafts of wide numbers: Within. -/
namespace Go.Proofs.Ytogkkhaepfablaa
open Go.RowKit
set_option linter.unusedSimpArgs false
set_option linter.unusedVariables false

end Go.Proofs.Ytogkkhaepfablaa

/- A draft of a number that came in. -/
namespace Go.Proofs.Ytogkkhaepfablaa
open Go.RowKit

/-- A draft of a number that came in. -/
structure DrIn (w : World) (A : Option Addr) (n : Nat) (less : Int) : Prop where
  l0 : 0 ≤ less ∧ less < 4294967296
  s : ∃ xs, Sl w .u16 A n xs ∧ ∀ x ∈ xs, 0 ≤ x ∧ x ≤ 65535
theorem DrIn.later {W w : World} {A : Option Addr} {n : Nat} {less : Int} (h : DrIn W A n less) (hl : Lat W w) : DrIn w A n less := by
  obtain ⟨h1, xs, h2, h3⟩ := h
  exact ⟨h1, xs, h2.later hl, h3⟩
end Go.Proofs.Ytogkkhaepfablaa

/- Equality of wide numbers, as the walk meets it. -/
namespace Go.Proofs.Ytogkkhaepfablaa
open Go.RowKit

end Go.Proofs.Ytogkkhaepfablaa

/- Loads of a struct at an offset of a block. -/
namespace Go.Proofs.Ytogkkhaepfablaa
open Go.RowKit
set_option linter.unusedSimpArgs false

theorem yv_loadO {P : Program} {S : World → Prop} {a : Act} {ty : TypeId} {x : Operand} {b o : Nat} {cs : List Value} {d : TypeDesc} (hx : a.eval x = .pointer (some ⟨b, o, none⟩)) (hR : ∀ w, S w → w.rangeAt b o cs) (hu : P.underlying ty = some d) (hd : d.isRow = true) (hi : (P.info? ty).map (·.size) = some cs.length) :
    ∀ (op : Oper) (w : World), op.op = .load ty x → S w → (execOp a.eval op).run P w = .ok (.value (.agg cs.toArray)) w := by
  intro op w ho hS
  unfold execOp
  simp only [ho, hx, Instr.loadAt, Instr.sureAddr, Sem.run_bind, Sem.run_pure, Result.andThen_ok, run_loadVar_mid w b o ty cs d (hR w hS) hu hd hi]
theorem rangeO {w : World} {g : Nat} {t : TypeId} {cs : Array Value} (h : Blk w g t cs) (o : Nat) (l : List Value) (hl : ∀ j v, l[j]? = some v → cs[o + j]? = some v) : w.rangeAt g o l := fun j v hj => by rw [h.cell]; exact hl j v hj
end Go.Proofs.Ytogkkhaepfablaa
