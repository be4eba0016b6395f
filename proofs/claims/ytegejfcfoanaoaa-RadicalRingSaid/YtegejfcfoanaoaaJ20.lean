/- Several texts in one: RefN, RefO. -/
import Derived.Test.YtegejfcfoanaoaaJ19
import Derived.Test.YtegejfcfoanaoaaJ08
import Derived.Deep.DeepCutAuto
import Derived.Deep.DrawnRows
import Derived.Test.YtegejfcfoanaoaaJ10

/- The reference's numbers: Parts, where the remainder is not below 0 by itself. -/
namespace Go.Proofs.Ytegejfcfoanaoaa
open Go.RowKit
attribute [local go_sem ↓] Go.wp_at_zero Go.wp_at_succ

def RPartsPost (w : World) (q r : Int) (N M : Nat) (e : Ending) (w' : World) : Prop :=
  ∃ b A n c b' A' n' c', e = .returned (.tuple #[.agg #[.bool b, .slice A n c], .agg #[.bool b', .slice A' n' c']]) ∧ Rg w' b A n c q ∧ n ≤ N ∧ Rg w' b' A' n' c' r ∧ n' ≤ M ∧ Lat w w'

/-- .. and the world is later than W, too. -/
def RefPost2 (W w : World) (z : Int) (N : Nat) (e : Ending) (w' : World) : Prop :=
  ∃ b A n c, e = .returned (.agg #[.bool b, .slice A n c]) ∧ Rg w' b A n c z ∧ n ≤ N ∧ Lat w w' ∧ Lat W w' ∧ w.heap.size ≤ w'.heap.size
theorem RefPost.two {W w w' : World} {z : Int} {N : Nat} {e : Ending} (hx : Lat W w) (h : RefPost w z N e w') : RefPost2 W w z N e w' := by
  obtain ⟨b, A, n, c, h1, h2, h3, h4⟩ := h
  exact ⟨b, A, n, c, h1, h2, h3, h4, hx.trans h4, h4.size⟩
/-- What the two variables hold. -/
def TwoVars (W1 : World) (q r : Int) (N M : Nat) (s8 s9 : Value) (wx : World) : Prop :=
  ∃ g8 g9 b A n c b' A' n' c', s8 = .pointer (some ⟨g8, 0, none⟩) ∧ s9 = .pointer (some ⟨g9, 0, none⟩) ∧ W1.heap.size ≤ g8 ∧ W1.heap.size ≤ g9 ∧ Blk wx g8 86 #[.bool b, .slice A n c] ∧ Blk wx g9 86 #[.bool b', .slice A' n' c'] ∧
    Rg wx b A n c q ∧ n ≤ N ∧ Rg wx b' A' n' c' r ∧ n' ≤ M ∧ Lat W1 wx
theorem TwoVars.of {W1 w2 : World} {q r : Int} {N M g8 g9 : Nat} {b b' : Bool} {A A' : Option Addr} {n c n' c' : Nat} (h8 : Blk w2 g8 86 #[.bool false, .slice none 0 0]) (h9 : Blk w2 g9 86 #[.bool false, .slice none 0 0]) (hne : g8 ≠ g9)
    (hq : Rg w2 b A n c q) (hn : n ≤ N) (hr : Rg w2 b' A' n' c' r) (hm : n' ≤ M) (hL : Lat W1 w2) (l8 : W1.heap.size ≤ g8) (l9 : W1.heap.size ≤ g9) :
    TwoVars W1 q r N M (.pointer (some ⟨g8, 0, none⟩)) (.pointer (some ⟨g9, 0, none⟩)) ((((w2.setCell ⟨g8, 0, none⟩ (.bool b)).setCell ⟨g8, 1, none⟩ (.slice A n c)).setCell ⟨g9, 0, none⟩ (.bool b')).setCell ⟨g9, 1, none⟩ (.slice A' n' c')) := by
  have a1 := hq.apart h8 (no_i64 _ _ _ _)
  have a2 := hq.apart h9 (no_i64 _ _ _ _)
  have a3 := hr.apart h8 (no_i64 _ _ _ _)
  have a4 := hr.apart h9 (no_i64 _ _ _ _)
  refine ⟨g8, g9, b, A, n, c, b', A', n', c', rfl, rfl, l8, l9, ?_, ?_, ?_, hn, ?_, hm, ?_⟩
  · have := (((h8.set 0 (.bool b)).set 1 (.slice A n c)).far (p := ⟨g9, 0, none⟩) hne (.bool b')).far (p := ⟨g9, 1, none⟩) hne (.slice A' n' c')
    simpa using this
  · have := (((h9.far (p := ⟨g8, 0, none⟩) hne.symm (.bool b)).far (p := ⟨g8, 1, none⟩) hne.symm (.slice A n c)).set 0 (.bool b')).set 1 (.slice A' n' c')
    simpa using this
  · exact (((hq.far (p := ⟨g8, 0, none⟩) a1 _).far (p := ⟨g8, 1, none⟩) a1 _).far (p := ⟨g9, 0, none⟩) a2 _).far (p := ⟨g9, 1, none⟩) a2 _
  · exact (((hr.far (p := ⟨g8, 0, none⟩) a3 _).far (p := ⟨g8, 1, none⟩) a3 _).far (p := ⟨g9, 0, none⟩) a4 _).far (p := ⟨g9, 1, none⟩) a4 _
  · exact (((hL.setCell (p := ⟨g8, 0, none⟩) l8 _).setCell (p := ⟨g8, 1, none⟩) l8 _).setCell (p := ⟨g9, 0, none⟩) l9 _).setCell (p := ⟨g9, 1, none⟩) l9 _

/-- .. both made last. -/
theorem TwoVars.ff {W1 w3 : World} {q r : Int} {N M : Nat} {b b' : Bool} {A A' : Option Addr} {n c n' c' : Nat} (hq : Rg w3 b A n c q) (hn : n ≤ N) (hr : Rg w3 b' A' n' c' r) (hm : n' ≤ M) (hL : Lat W1 w3) :
    TwoVars W1 q r N M (.pointer (some ⟨w3.heap.size, 0, none⟩)) (.pointer (some ⟨w3.heap.size + 1, 0, none⟩)) ((w3.alloc (.cells #[.bool b, .slice A n c] 86)).alloc (.cells #[.bool b', .slice A' n' c'] 86)) := by
  have l2 : Lat w3 ((w3.alloc (.cells #[.bool b, .slice A n c] 86)).alloc (.cells #[.bool b', .slice A' n' c'] 86)) := (Lat.alloc _ _).trans (Lat.alloc _ _)
  have hz := hL.size
  refine ⟨_, _, b, A, n, c, b', A', n', c', rfl, rfl, hz, by omega, (Blk.new _ _ _).alloc _, ?_, hq.later l2, hn, hr.later l2, hm, hL.trans l2⟩
  have := Blk.new (w3.alloc (.cells #[.bool b, .slice A n c] 86)) 86 #[.bool b', .slice A' n' c']
  simpa using this
theorem TwoVars.ff' {W1 w3 : World} {q r : Int} {N M : Nat} {b b' : Bool} {A A' : Option Addr} {n c n' c' : Nat} (hq : Rg w3 b A n c q) (hn : n ≤ N) (hr : Rg w3 b' A' n' c' r) (hm : n' ≤ M) (hL : Lat W1 w3) :
    TwoVars W1 q r N M (.pointer (some ⟨w3.heap.size + 1, 0, none⟩)) (.pointer (some ⟨w3.heap.size, 0, none⟩)) ((w3.alloc (.cells #[.bool b', .slice A' n' c'] 86)).alloc (.cells #[.bool b, .slice A n c] 86)) := by
  have l2 : Lat w3 ((w3.alloc (.cells #[.bool b', .slice A' n' c'] 86)).alloc (.cells #[.bool b, .slice A n c] 86)) := (Lat.alloc _ _).trans (Lat.alloc _ _)
  have hz := hL.size
  refine ⟨_, _, b, A, n, c, b', A', n', c', rfl, rfl, by omega, hz, ?_, (Blk.new _ _ _).alloc _, hq.later l2, hn, hr.later l2, hm, hL.trans l2⟩
  have := Blk.new (w3.alloc (.cells #[.bool b', .slice A' n' c'] 86)) 86 #[.bool b, .slice A n c]
  simpa using this
/-- .. one of them. -/
theorem TwoVars.pf {W1 w3 : World} {q r : Int} {N M g8 : Nat} {b b' : Bool} {A A' : Option Addr} {n c n' c' : Nat} (h8 : Blk w3 g8 86 #[.bool false, .slice none 0 0]) (hq : Rg w3 b A n c q) (hn : n ≤ N) (hr : Rg w3 b' A' n' c' r) (hm : n' ≤ M) (hL : Lat W1 w3) (l8 : W1.heap.size ≤ g8) :
    TwoVars W1 q r N M (.pointer (some ⟨g8, 0, none⟩)) (.pointer (some ⟨w3.heap.size, 0, none⟩)) (((w3.setCell ⟨g8, 0, none⟩ (.bool b)).setCell ⟨g8, 1, none⟩ (.slice A n c)).alloc (.cells #[.bool b', .slice A' n' c'] 86)) := by
  have a1 := hq.apart h8 (no_i64 _ _ _ _)
  have a3 := hr.apart h8 (no_i64 _ _ _ _)
  have hz := hL.size
  refine ⟨g8, w3.heap.size, b, A, n, c, b', A', n', c', rfl, rfl, l8, hz, ?_, ?_, ?_, hn, ?_, hm, ?_⟩
  · have := ((h8.set 0 (.bool b)).set 1 (.slice A n c)).alloc (.cells #[.bool b', .slice A' n' c'] 86)
    simpa using this
  · have := Blk.new ((w3.setCell ⟨g8, 0, none⟩ (.bool b)).setCell ⟨g8, 1, none⟩ (.slice A n c)) 86 #[.bool b', .slice A' n' c']
    simpa [World.setCell] using this
  · exact ((hq.far (p := ⟨g8, 0, none⟩) a1 _).far (p := ⟨g8, 1, none⟩) a1 _).later (Lat.alloc _ _)
  · exact ((hr.far (p := ⟨g8, 0, none⟩) a3 _).far (p := ⟨g8, 1, none⟩) a3 _).later (Lat.alloc _ _)
  · exact ((hL.setCell (p := ⟨g8, 0, none⟩) l8 _).setCell (p := ⟨g8, 1, none⟩) l8 _).trans (Lat.alloc _ _)
theorem TwoVars.fp {W1 w3 : World} {q r : Int} {N M g9 : Nat} {b b' : Bool} {A A' : Option Addr} {n c n' c' : Nat} (h9 : Blk w3 g9 86 #[.bool false, .slice none 0 0]) (hq : Rg w3 b A n c q) (hn : n ≤ N) (hr : Rg w3 b' A' n' c' r) (hm : n' ≤ M) (hL : Lat W1 w3) (l9 : W1.heap.size ≤ g9) :
    TwoVars W1 q r N M (.pointer (some ⟨w3.heap.size, 0, none⟩)) (.pointer (some ⟨g9, 0, none⟩)) (((w3.setCell ⟨g9, 0, none⟩ (.bool b')).setCell ⟨g9, 1, none⟩ (.slice A' n' c')).alloc (.cells #[.bool b, .slice A n c] 86)) := by
  obtain ⟨k8, k9, b1, A1, n1, c1, b2, A2, n2, c2, e1, e2, i1, i2, i3, i4, i5, i6, i7, i8, i9⟩ := TwoVars.pf h9 hr hm hq hn hL l9
  exact ⟨k9, k8, b2, A2, n2, c2, b1, A1, n1, c1, e2, e1, i2, i1, i4, i3, i7, i8, i5, i6, i9⟩
theorem RPartsPost.close {w w2 : World} {g g' t t' : Nat} {b b0 b' b0' : Bool} {A A0 A' A0' : Option Addr} {n c n0 c0 n' c' n0' c0' N M : Nat} {q r : Int} (hk : Blk w2 g t #[.bool b0, .slice A0 n0 c0]) (hk' : Blk w2 g' t' #[.bool b0', .slice A0' n0' c0']) (hlg : Rg w2 b A n c q) (hlg' : Rg w2 b' A' n' c' r) (hL : Lat w w2) (hg : w.heap.size ≤ g) (hg' : w.heap.size ≤ g') (hn : n ≤ N) (hm : n' ≤ M) :
    RPartsPost w q r N M (.returned (.tuple #[.agg #[.bool b, .slice A n c], .agg #[.bool b', .slice A' n' c']])) ((((w2.setCell ⟨g, 0, none⟩ (.bool b)).setCell ⟨g, 1, none⟩ (.slice A n c)).setCell ⟨g', 0, none⟩ (.bool b')).setCell ⟨g', 1, none⟩ (.slice A' n' c')) := by
  have a1 := hlg.apart hk (no_i64 _ _ _ _)
  have a2 := hlg.apart hk' (no_i64 _ _ _ _)
  have a3 := hlg'.apart hk (no_i64 _ _ _ _)
  have a4 := hlg'.apart hk' (no_i64 _ _ _ _)
  exact ⟨_, _, _, _, _, _, _, _, rfl, (((hlg.far (p := ⟨g, 0, none⟩) a1 _).far (p := ⟨g, 1, none⟩) a1 _).far (p := ⟨g', 0, none⟩) a2 _).far (p := ⟨g', 1, none⟩) a2 _, hn,
    (((hlg'.far (p := ⟨g, 0, none⟩) a3 _).far (p := ⟨g, 1, none⟩) a3 _).far (p := ⟨g', 0, none⟩) a4 _).far (p := ⟨g', 1, none⟩) a4 _, hm,
    (((hL.setCell (p := ⟨g, 0, none⟩) hg _).setCell (p := ⟨g, 1, none⟩) hg _).setCell (p := ⟨g', 0, none⟩) hg' _).setCell (p := ⟨g', 1, none⟩) hg' _⟩
theorem RPartsPost.drew {w w' : World} {q r : Int} {N M : Nat} {e : Ending} (h : RPartsPost w q r N M e w') : RPartsPost w q r N M e w'.drew := by
  obtain ⟨b, A, n, c, b', A', n', c', h1, h2, h3, h4, h5, h6⟩ := h
  exact ⟨b, A, n, c, b', A', n', c', h1, h2.later (Lat.drew _), h3, h4.later (Lat.drew _), h5, h6.trans (Lat.drew _)⟩
/-- The quotient and the remainder, by signs and magnitudes. -/
theorem parts_ok {b1 b2 : Bool} {vx vy x y : Int} (h1 : x = sgn b1 vx) (h2 : y = sgn b2 vy) (hvx : 0 ≤ vx) (hvy : 0 < vy) (hok : 0 ≤ x ∨ x % y = 0) :
    0 ≤ sgn b1 (vx % vy) ∧ x / y = sgn (b1 != b2) (vx / vy) ∧ x % y = sgn b1 (vx % vy) := by
  have h0 : 0 ≤ sgn b1 (vx % vy) := by
    have m0 := Int.emod_nonneg vx (show vy ≠ 0 by omega)
    cases b1 with
    | false => exact m0
    | true =>
      have hz : vx % vy = 0 := by
        rcases hok with h | h
        · have : vx = 0 := by simp [sgn] at h1; omega
          rw [this]; simp
        · have hd : y ∣ x := Int.dvd_of_emod_eq_zero h
          rw [h1, h2] at hd
          have : vy ∣ vx := by
            cases b2 <;> simpa [sgn] using hd
          exact Int.emod_eq_zero_of_dvd this
      rw [hz]; simp [sgn]
  have := (parts_math (b1 := b1) (b2 := b2) (vx := vx) (vy := vy) hvy).1 h0
  rw [h1, h2]
  exact ⟨h0, this⟩

end Go.Proofs.Ytegejfcfoanaoaa

/- The reference's numbers: halves, In. -/
namespace Go.Proofs.Ytegejfcfoanaoaa
open Go.RowKit

/-- 'append(out, y, ..)' at a step of a region that draws its order. -/
theorem step_push {P : Program} {ops : Array Oper} {o : Oper} {a : Act} {K : Act → World → Prop} {Q : Exit → Act → World → Prop} {E0 : Prop} (hgd : o.guard = none) (s x : Operand) (t : TypeId)
    (ho : o.op = .call { callee := .builtin .append, args := #[s, x], argTypes := #[t, t] })
    (B : Nat) (E T : TypeId) (k : IntKind) (by_ : Nat) (ht : P.underlying t = some (.slice E)) (hinfo : (P.info? E).map (fun i => (i.zero, i.size, i.bytes)) = some (some (.int k 0), 1, by_)) (hby : by_ ≤ 8)
    (v : Value) (xs ys : List Int) (w : World) (g : Nat) (hs : a.eval s = v) (hown : Own w B E k v xs) (hb : Blk w g T (nums k ys))
    (m : Nat) (hm : ys.length = m) (hm0 : 0 < m) (hx : a.eval x = .slice (some ⟨g, 0, none⟩) m m) (hlen : xs.length + m ≤ 17000000000000) (hB : B ≤ w.heap.size)
    (h : ∀ v' w', Own w' B E k v' (xs ++ ys) → (∀ W0, Lat W0 w → W0.heap.size ≤ B → Lat W0 w') → K (a.put o.dst v') w') :
    if Region.wanted o (yielded ops a.tmps) = true then Oper.wp P o a w K Q else E0 := by
  obtain ⟨i0, hi, hz0, hz1, hz2⟩ := info_parts hinfo
  subst hm
  have hw : Region.wanted o (yielded ops a.tmps) = true := by simp [Region.wanted, hgd]
  rw [if_pos hw]
  refine wp_append_own w s x t ho B E i0 (.int k 0) 1 by_ ht hi hz0 hz1 hz2 rfl (by decide) v xs.length _ hs hown ⟨g, 0, none⟩ ys.length ys.length (ys.map (Value.int k)) hx (by simp) ?_ ?_ ?_ ?_ hB ?_
  · intro j u hu
    have e : (⟨g, 0, none⟩ : Addr).add j = ⟨g, j, none⟩ := by unfold Addr.add; split <;> simp_all
    rw [e, hb.cell j]
    simpa [nums] using hu
  · exact ints_oneCell _ _
  · unfold maxLen; omega
  · have := Nat.mul_le_mul_left (xs.length + ys.length) hby; omega
  · intro v' w' h1 h2 _
    refine h v' w' ?_ (fun W0 hl hle => Own.lat hown hl hle h2)
    unfold Own
    rw [List.length_append, List.map_append]
    exact h1

/-- The digits of words. -/
def halL : List Int → List Int
  | [] => []
  | x :: r => (x % 4294967296) :: (x / 4294967296) :: halL r
theorem halL_snoc (l : List Int) (x : Int) : halL (l ++ [x]) = halL l ++ [x % 4294967296, x / 4294967296] := by
  induction l with
  | nil => rfl
  | cons y r ih => simp only [List.cons_append, halL, ih]
theorem halL_length (l : List Int) : (halL l).length = 2 * l.length := by
  induction l with
  | nil => rfl
  | cons y r ih => simp only [halL, List.length_cons, ih]; omega
theorem halL_val (l : List Int) : val B32 (halL l) = val W64 l := by
  induction l with
  | nil => rfl
  | cons y r ih =>
    simp only [halL, val, ih]
    have : W64 = B32 * B32 := by decide
    rw [this]
    have e : y % 4294967296 + 4294967296 * (y / 4294967296) = y := by omega
    have hB : B32 = 4294967296 := rfl
    rw [hB]
    generalize val (4294967296 * 4294967296) r = p
    grind
theorem halL_inr {l : List Int} (h : InR W64 l) : InR B32 (halL l) := by
  induction l with
  | nil => exact InR.nil _
  | cons y r ih =>
    have h1 := h.head
    unfold W64 at h1
    exact InR.cons (by unfold B32; omega) (InR.cons (by unfold B32; omega) (ih h.tail))
theorem halL_take {l : List Int} {k : Nat} {x : Int} (h : l[k]? = some x) : halL (l.take (k + 1)) = halL (l.take k) ++ [x % 4294967296, x / 4294967296] := by
  obtain ⟨hl, rfl⟩ := List.getElem?_eq_some_iff.1 h
  rw [List.take_succ_eq_append_getElem hl, halL_snoc]

end Go.Proofs.Ytegejfcfoanaoaa
