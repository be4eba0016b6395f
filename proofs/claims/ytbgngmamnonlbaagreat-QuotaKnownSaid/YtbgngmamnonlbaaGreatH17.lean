/- Several texts in one: RefN, RefO. -/
import Derived.Test.YtbgngmamnonlbaaGreatH16
import Derived.Test.YtbgngmamnonlbaaGreatH07
import Derived.Deep.DeepCutAuto
import Derived.Deep.DrawnRows
import Derived.Test.YtbgngmamnonlbaaGreatH09
namespace Go.Proofs.YtbgngmamnonlbaaGreat
open Go.RowKit
attribute [local go_sem ↓] Go.wp_at_zero Go.wp_at_succ
def RPartsPost (w : World) (q r : Int) (N M : Nat) (e : Ending) (w' : World) : Prop :=
 ∃ b A n c b' A' n' c', e = .returned (.tuple #[.agg #[.bool b, .slice A n c], .agg #[.bool b', .slice A' n' c']]) ∧ Rg w' b A n c q ∧ n ≤ N ∧ Rg w' b' A' n' c' r ∧ n' ≤ M ∧ Lat w w'
def RefPost2 (W w : World) (z : Int) (N : Nat) (e : Ending) (w' : World) : Prop :=
 ∃ b A n c, e = .returned (.agg #[.bool b, .slice A n c]) ∧ Rg w' b A n c z ∧ n ≤ N ∧ Lat w w' ∧ Lat W w' ∧ w.heap.size ≤ w'.heap.size
theorem RefPost.two {W w w' : World} {z : Int} {N : Nat} {e : Ending} (hx : Lat W w) (h : RefPost w z N e w') : RefPost2 W w z N e w' := by
 obtain ⟨b, A, n, c, h1, h2, h3, h4⟩ := h
 exact ⟨b, A, n, c, h1, h2, h3, h4, hx.trans h4, h4.size⟩
def TwoVars (W1 : World) (q r : Int) (N M : Nat) (s8 s9 : Value) (wx : World) : Prop :=
 ∃ g8 g9 b A n c b' A' n' c', s8 = .pointer (some ⟨g8, 0, none⟩) ∧ s9 = .pointer (some ⟨g9, 0, none⟩) ∧ W1.heap.size ≤ g8 ∧ W1.heap.size ≤ g9 ∧ Blk wx g8 116 #[.bool b, .slice A n c] ∧ Blk wx g9 116 #[.bool b', .slice A' n' c'] ∧
  Rg wx b A n c q ∧ n ≤ N ∧ Rg wx b' A' n' c' r ∧ n' ≤ M ∧ Lat W1 wx
theorem TwoVars.of {W1 w2 : World} {q r : Int} {N M g8 g9 : Nat} {b b' : Bool} {A A' : Option Addr} {n c n' c' : Nat} (h8 : Blk w2 g8 116 #[.bool false, .slice none 0 0]) (h9 : Blk w2 g9 116 #[.bool false, .slice none 0 0]) (hne : g8 ≠ g9)
  (hq : Rg w2 b A n c q) (hn : n ≤ N) (hr : Rg w2 b' A' n' c' r) (hm : n' ≤ M) (hL : Lat W1 w2) (l8 : W1.heap.size ≤ g8) (l9 : W1.heap.size ≤ g9) :
  TwoVars W1 q r N M (.pointer (some ⟨g8, 0, none⟩)) (.pointer (some ⟨g9, 0, none⟩)) ((((w2.setCell ⟨g8, 0, none⟩ (.bool b)).setCell ⟨g8, 1, none⟩ (.slice A n c)).setCell ⟨g9, 0, none⟩ (.bool b')).setCell ⟨g9, 1, none⟩ (.slice A' n' c')) := by
 have a1 := hq.apart h8 (no_i64 _ _ _ _)
 have a2 := hq.apart h9 (no_i64 _ _ _ _)
 have a3 := hr.apart h8 (no_i64 _ _ _ _)
 have a4 := hr.apart h9 (no_i64 _ _ _ _)
 refine ⟨g8, g9, b, A, n, c, b', A', n', c', rfl, rfl, l8, l9, ?_, ?_, ?_, hn, ?_, hm, ?_⟩
 ·have := (((h8.set 0 (.bool b)).set 1 (.slice A n c)).far (p := ⟨g9, 0, none⟩) hne (.bool b')).far (p := ⟨g9, 1, none⟩) hne (.slice A' n' c')
  simpa using this
 ·have := (((h9.far (p := ⟨g8, 0, none⟩) hne.symm (.bool b)).far (p := ⟨g8, 1, none⟩) hne.symm (.slice A n c)).set 0 (.bool b')).set 1 (.slice A' n' c')
  simpa using this
 ·exact (((hq.far (p := ⟨g8, 0, none⟩) a1 _).far (p := ⟨g8, 1, none⟩) a1 _).far (p := ⟨g9, 0, none⟩) a2 _).far (p := ⟨g9, 1, none⟩) a2 _
 ·exact (((hr.far (p := ⟨g8, 0, none⟩) a3 _).far (p := ⟨g8, 1, none⟩) a3 _).far (p := ⟨g9, 0, none⟩) a4 _).far (p := ⟨g9, 1, none⟩) a4 _
 ·exact (((hL.setCell (p := ⟨g8, 0, none⟩) l8 _).setCell (p := ⟨g8, 1, none⟩) l8 _).setCell (p := ⟨g9, 0, none⟩) l9 _).setCell (p := ⟨g9, 1, none⟩) l9 _
theorem TwoVars.ff {W1 w3 : World} {q r : Int} {N M : Nat} {b b' : Bool} {A A' : Option Addr} {n c n' c' : Nat} (hq : Rg w3 b A n c q) (hn : n ≤ N) (hr : Rg w3 b' A' n' c' r) (hm : n' ≤ M) (hL : Lat W1 w3) :
  TwoVars W1 q r N M (.pointer (some ⟨w3.heap.size, 0, none⟩)) (.pointer (some ⟨w3.heap.size + 1, 0, none⟩)) ((w3.alloc (.cells #[.bool b, .slice A n c] 116)).alloc (.cells #[.bool b', .slice A' n' c'] 116)) := by
 have l2 : Lat w3 ((w3.alloc (.cells #[.bool b, .slice A n c] 116)).alloc (.cells #[.bool b', .slice A' n' c'] 116)) := (Lat.alloc _ _).trans (Lat.alloc _ _)
 have hz := hL.size
 refine ⟨_, _, b, A, n, c, b', A', n', c', rfl, rfl, hz, by omega, (Blk.new _ _ _).alloc _, ?_, hq.later l2, hn, hr.later l2, hm, hL.trans l2⟩
 have := Blk.new (w3.alloc (.cells #[.bool b, .slice A n c] 116)) 116 #[.bool b', .slice A' n' c']
 simpa using this
theorem TwoVars.ff' {W1 w3 : World} {q r : Int} {N M : Nat} {b b' : Bool} {A A' : Option Addr} {n c n' c' : Nat} (hq : Rg w3 b A n c q) (hn : n ≤ N) (hr : Rg w3 b' A' n' c' r) (hm : n' ≤ M) (hL : Lat W1 w3) :
  TwoVars W1 q r N M (.pointer (some ⟨w3.heap.size + 1, 0, none⟩)) (.pointer (some ⟨w3.heap.size, 0, none⟩)) ((w3.alloc (.cells #[.bool b', .slice A' n' c'] 116)).alloc (.cells #[.bool b, .slice A n c] 116)) := by
 have l2 : Lat w3 ((w3.alloc (.cells #[.bool b', .slice A' n' c'] 116)).alloc (.cells #[.bool b, .slice A n c] 116)) := (Lat.alloc _ _).trans (Lat.alloc _ _)
 have hz := hL.size
 refine ⟨_, _, b, A, n, c, b', A', n', c', rfl, rfl, by omega, hz, ?_, (Blk.new _ _ _).alloc _, hq.later l2, hn, hr.later l2, hm, hL.trans l2⟩
 have := Blk.new (w3.alloc (.cells #[.bool b', .slice A' n' c'] 116)) 116 #[.bool b, .slice A n c]
 simpa using this
theorem TwoVars.pf {W1 w3 : World} {q r : Int} {N M g8 : Nat} {b b' : Bool} {A A' : Option Addr} {n c n' c' : Nat} (h8 : Blk w3 g8 116 #[.bool false, .slice none 0 0]) (hq : Rg w3 b A n c q) (hn : n ≤ N) (hr : Rg w3 b' A' n' c' r) (hm : n' ≤ M) (hL : Lat W1 w3) (l8 : W1.heap.size ≤ g8) :
  TwoVars W1 q r N M (.pointer (some ⟨g8, 0, none⟩)) (.pointer (some ⟨w3.heap.size, 0, none⟩)) (((w3.setCell ⟨g8, 0, none⟩ (.bool b)).setCell ⟨g8, 1, none⟩ (.slice A n c)).alloc (.cells #[.bool b', .slice A' n' c'] 116)) := by
 have a1 := hq.apart h8 (no_i64 _ _ _ _)
 have a3 := hr.apart h8 (no_i64 _ _ _ _)
 have hz := hL.size
 refine ⟨g8, w3.heap.size, b, A, n, c, b', A', n', c', rfl, rfl, l8, hz, ?_, ?_, ?_, hn, ?_, hm, ?_⟩
 ·have := ((h8.set 0 (.bool b)).set 1 (.slice A n c)).alloc (.cells #[.bool b', .slice A' n' c'] 116)
  simpa using this
 ·have := Blk.new ((w3.setCell ⟨g8, 0, none⟩ (.bool b)).setCell ⟨g8, 1, none⟩ (.slice A n c)) 116 #[.bool b', .slice A' n' c']
  simpa [World.setCell] using this
 ·exact ((hq.far (p := ⟨g8, 0, none⟩) a1 _).far (p := ⟨g8, 1, none⟩) a1 _).later (Lat.alloc _ _)
 ·exact ((hr.far (p := ⟨g8, 0, none⟩) a3 _).far (p := ⟨g8, 1, none⟩) a3 _).later (Lat.alloc _ _)
 ·exact ((hL.setCell (p := ⟨g8, 0, none⟩) l8 _).setCell (p := ⟨g8, 1, none⟩) l8 _).trans (Lat.alloc _ _)
theorem TwoVars.fp {W1 w3 : World} {q r : Int} {N M g9 : Nat} {b b' : Bool} {A A' : Option Addr} {n c n' c' : Nat} (h9 : Blk w3 g9 116 #[.bool false, .slice none 0 0]) (hq : Rg w3 b A n c q) (hn : n ≤ N) (hr : Rg w3 b' A' n' c' r) (hm : n' ≤ M) (hL : Lat W1 w3) (l9 : W1.heap.size ≤ g9) :
  TwoVars W1 q r N M (.pointer (some ⟨w3.heap.size, 0, none⟩)) (.pointer (some ⟨g9, 0, none⟩)) (((w3.setCell ⟨g9, 0, none⟩ (.bool b')).setCell ⟨g9, 1, none⟩ (.slice A' n' c')).alloc (.cells #[.bool b, .slice A n c] 116)) := by
 obtain ⟨k8, k9, b1, A1, n1, c1, b2, A2, n2, c2, e1, e2, i1, i2, i3, i4, i5, i6, i7, i8, i9⟩ := TwoVars.pf h9 hr hm hq hn hL l9
 exact ⟨k9, k8, b2, A2, n2, c2, b1, A1, n1, c1, e2, e1, i2, i1, i4, i3, i7, i8, i5, i6, i9⟩
theorem RPartsPost.close {w w2 : World} {g g' t t' : Nat} {b b0 b' b0' : Bool} {A A0 A' A0' : Option Addr} {n c n0 c0 n' c' n0' c0' N M : Nat} {q r : Int} (hk : Blk w2 g t #[.bool b0, .slice A0 n0 c0]) (hk' : Blk w2 g' t' #[.bool b0', .slice A0' n0' c0']) (hlg : Rg w2 b A n c q) (hlg' : Rg w2 b' A' n' c' r) (hL : Lat w w2) (hg : w.heap.size ≤ g) (hg' : w.heap.size ≤ g') (hn : n ≤ N) (hm : n' ≤ M) :
  RPartsPost w q r N M (.returned (.tuple #[.agg #[.bool b, .slice A n c], .agg #[.bool b', .slice A' n' c']])) ((((w2.setCell ⟨g, 0, none⟩ (.bool b)).setCell ⟨g, 1, none⟩ (.slice A n c)).setCell ⟨g', 0, none⟩ (.bool b')).setCell ⟨g', 1, none⟩ (.slice A' n' c')) := by
 have a1 := hlg.apart hk (no_i64 _ _ _ _)
 have a2 := hlg.apart hk' (no_i64 _ _ _ _)
 have a3 := hlg'.apart hk (no_i64 _ _ _ _)
 have a4 := hlg'.apart hk' (no_i64 _ _ _ _)
 exact ⟨_, _, _, _, _, _, _, _, rfl, (((hlg.far (p := ⟨g, 0, none⟩) a1 _).far (p := ⟨g, 1, none⟩) a1 _).far (p := ⟨g', 0, none⟩) a2 _).far (p := ⟨g', 1, none⟩) a2 _, hn,
  (((hlg'.far (p := ⟨g, 0, none⟩) a3 _).far (p := ⟨g, 1, none⟩) a3 _).far (p := ⟨g', 0, none⟩) a4 _).far (p := ⟨g', 1, none⟩) a4 _, hm,
  (((hL.setCell (p := ⟨g, 0, none⟩) hg _).setCell (p := ⟨g, 1, none⟩) hg _).setCell (p := ⟨g', 0, none⟩) hg' _).setCell (p := ⟨g', 1, none⟩) hg' _⟩
theorem RPartsPost.drew {w w' : World} {q r : Int} {N M : Nat} {e : Ending} (h : RPartsPost w q r N M e w') : RPartsPost w q r N M e w'.drew := by
 obtain ⟨b, A, n, c, b', A', n', c', h1, h2, h3, h4, h5, h6⟩ := h
 exact ⟨b, A, n, c, b', A', n', c', h1, h2.later (Lat.drew _), h3, h4.later (Lat.drew _), h5, h6.trans (Lat.drew _)⟩
theorem parts_ok {b1 b2 : Bool} {vx vy x y : Int} (h1 : x = sgn b1 vx) (h2 : y = sgn b2 vy) (hvx : 0 ≤ vx) (hvy : 0 < vy) (hok : 0 ≤ x ∨ x % y = 0) :
  0 ≤ sgn b1 (vx % vy) ∧ x / y = sgn (b1 != b2) (vx / vy) ∧ x % y = sgn b1 (vx % vy) := by
 have h0 : 0 ≤ sgn b1 (vx % vy) := by
  have m0 := Int.emod_nonneg vx (show vy ≠ 0 by omega)
  cases b1 with
  | false => exact m0
  | true =>
    have hz : vx % vy = 0 := by
     rcases hok with h | h
     ·have : vx = 0 := by simp [sgn] at h1; omega
      rw [this]; simp
     ·have hd : y ∣ x := Int.dvd_of_emod_eq_zero h
      rw [h1, h2] at hd
      have : vy ∣ vx := by
       cases b2 <;> simpa [sgn] using hd
      exact Int.emod_eq_zero_of_dvd this
    rw [hz]; simp [sgn]
 have := (parts_math (b1 := b1) (b2 := b2) (vx := vx) (vy := vy) hvy).1 h0
 rw [h1, h2]
 exact ⟨h0, this⟩
set_option maxRecDepth 100000 in
set_option maxHeartbeats 8000000 in
theorem rParts_any (b1 : Bool) (A1 : Option Addr) (n1 c1 : Nat) (x : Int) (b2 : Bool) (A2 : Option Addr) (n2 c2 : Nat) (y : Int) (w : World) (h1 : Rg w b1 A1 n1 c1 x) (h2 : Rg w b2 A2 n2 c2 y) (hy0 : y ≠ 0) (hok : 0 ≤ x ∨ x % y = 0) (hn : n1 ≤ 100000) (hm : n2 ≤ 100000) :
  Calls Tryz.prog 109 #[.agg #[.bool b1, .slice A1 n1 c1], .agg #[.bool b2, .slice A2 n2 c2]] w (RPartsPost w (x / y) (x % y) (n1 + 1) n2) := by
 obtain ⟨hc1, xs, s1, r1, z1, e1, v1⟩ := h1
 obtain ⟨hc2, ys, s2, r2, z2, e2, v2⟩ := h2
 have V1 := Lib.hid v1
 have V2 := Lib.hid v2
 clear v1 v2
 go_enter Tryz.func109, Tryz.ntmps109
 go_wp2_with fail
 refine name4 (Q := fun W => Calls _ _ _ W _) ?_
 intro W hl hs k1 k2 k3 k4
 have hne : ys ≠ [] := by
  intro e
  apply hy0
  rw [V2.out, e, val_nil]
  cases b2 <;> rfl
 refine (parts_dig A1 n1 c1 xs A2 n2 c2 ys W (s1.later hl) (s2.later hl) r1 r2 z1 z2 hc1 hne hn hm).mono ?_
 rintro e W1 ⟨Aq, nq, cq, Ar, nr, cr, rfl, ⟨q5, qs, q1, q2, q3, q4⟩, q6, ⟨r5, rs, t1, t2, t3, t4⟩, t6, hl1⟩
 have Q4 := Lib.hid q4
 have T4 := Lib.hid t4
 clear q4 t4
 have hlw := hl.trans hl1
 have hk1 := k1.later hl1
 have hk2 := k2.later hl1
 have hk3 := k3.later hl1
 have hk4 := k4.later hl1
 clear k1 k2 k3 k4 hl1 hl hs
 go_upto_region 2 with (fail)
 have HQ : ∀ wx, Lat W1 wx → Calls Tryz.prog 110 #[.bool (!(b1 == b2)), .slice Aq nq cq] wx (RefPost2 W1 wx (sgn (b1 != b2) (val B32 qs)) nq) := fun wx hx => (made_any _ Aq nq cq wx qs (q1.later hx) q2 q5 (by omega)).mono fun _ _ => RefPost.two hx
 have HR : ∀ wx, Lat W1 wx → Calls Tryz.prog 110 #[.bool b1, .slice Ar nr cr] wx (RefPost2 W1 wx (sgn b1 (val B32 rs)) nr) := fun wx hx => (made_any _ Ar nr cr wx rs (t1.later hx) t2 r5 (by omega)).mono fun _ _ => RefPost.two hx
 have a1 := hk1.ever 0 rfl
 have a3 := hk2.ever 0 rfl
 go_cut [8, 9] (fun s8 s9 wx => TwoVars W1 (sgn (b1 != b2) (val B32 qs)) (sgn b1 (val B32 rs)) nq nr s8 s9 wx)
 case first =>
  have L0 := Lat.drew W1
  go_region_held3 (fun w' => Lat W1 w') (first | (with_reducible assumption) | ((repeat (first | (with_reducible assumption) | (with_reducible exact Lat.refl _) | (with_reducible refine Lat.trans ?_ (Lat.alloc _ _)) | (with_reducible refine Lat.trans ?_ (Lat.drew _)) | ((with_reducible refine Lat.setCell ?_ ?_ _); rotate_left; (focus (first | omega | (simp; done) | (simp; omega))))))))
   (first
     | (have _h := HQ; go_at_call 110; (with_reducible refine (HQ _ ?_).mono ?_); (repeat (first | assumption | exact Lat.refl _ | refine Lat.trans ?_ (Lat.alloc _ _) | refine Lat.trans ?_ (Lat.drew _))); rintro e w2 ⟨b, A, n, c, rfl, p1, p2, p3, p4, p5⟩; have HQ' := Lib.hid p1; have Z2 := p4.size; clear HQ _h p1; (try (have kA := Blk.later (g := W1.heap.size) (t := 116) (cs := #[.bool false, .slice none 0 0]) (by first | exact Blk.new _ _ _ | exact (Blk.new _ _ _).alloc _ | exact (show Blk (W1.alloc (.cells #[.bool false, .slice none 0 0] 116)) W1.heap.size 116 #[.bool false, .slice none 0 0] from Blk.new _ _ _) | exact (show Blk ((W1.alloc (.cells #[.bool false, .slice none 0 0] 116)).alloc (.cells #[.bool false, .slice none 0 0] 116)) W1.heap.size 116 #[.bool false, .slice none 0 0] from (Blk.new _ _ _).alloc _) ) p3; have kAlt := kA.lt; have kAc0 := kA.cell 0; have kAc1 := kA.cell 1; have kAf0 := kA.frozen 0; have kAf1 := kA.frozen 1)); (try (have kB := Blk.later (g := W1.heap.size + 1) (t := 116) (cs := #[.bool false, .slice none 0 0]) (by first | exact (show Blk ((W1.alloc (.cells #[.bool false, .slice none 0 0] 116)).alloc (.cells #[.bool false, .slice none 0 0] 116)) (W1.heap.size + 1) 116 #[.bool false, .slice none 0 0] from by have hh := Blk.new (W1.alloc (.cells #[.bool false, .slice none 0 0] 116)) 116 #[.bool false, .slice none 0 0]; simpa using hh) | exact Blk.new _ _ _ | (have hh := Blk.new (W1.drew.alloc (.cells #[.bool false, .slice none 0 0] 116)) 116 #[.bool false, .slice none 0 0]; simpa using hh) | exact (Blk.new _ _ _).alloc _ ) p3; have kBlt := kB.lt; have kBc0 := kB.cell 0; have kBc1 := kB.cell 1; have kBf0 := kB.frozen 0; have kBf1 := kB.frozen 1)))
     | (have _h := HR; go_at_call 110; (with_reducible refine (HR _ ?_).mono ?_); (repeat (first | assumption | exact Lat.refl _ | refine Lat.trans ?_ (Lat.alloc _ _) | refine Lat.trans ?_ (Lat.drew _))); rintro e w3 ⟨b', A', n', c', rfl, u1, u2, u3, u4, u5⟩; have HR' := Lib.hid u1; have Z3 := u4.size; have PQ := Lib.hid (HQ'.out.later (w := w3) (by first | exact u3 | exact (Lat.alloc _ _).trans u3 | exact ((Lat.alloc _ _).trans (Lat.alloc _ _)).trans u3)); clear HR _h u1; (try (have mA := Blk.later (g := W1.heap.size) (t := 116) (cs := #[.bool false, .slice none 0 0]) (by first | exact Blk.new _ _ _ | exact (Blk.new _ _ _).alloc _ | exact kA | exact kB | exact kA.alloc _ | exact kB.alloc _ | exact (kA.alloc _).alloc _ ) u3; have mAlt := mA.lt; have mAc0 := mA.cell 0; have mAc1 := mA.cell 1; have mAf0 := mA.frozen 0; have mAf1 := mA.frozen 1)); (try (have mB := Blk.later (g := W1.heap.size + 1) (t := 116) (cs := #[.bool false, .slice none 0 0]) (by first | exact Blk.new _ _ _ | exact (Blk.new _ _ _).alloc _ | exact kA | exact kB | exact kA.alloc _ | exact kB.alloc _ | exact (kA.alloc _).alloc _ ) u3; have mBlt := mB.lt; have mBc0 := mB.cell 0; have mBc1 := mB.cell 1; have mBf0 := mB.frozen 0; have mBf1 := mB.frozen 1)); (try (have mC := Blk.later (g := w2.heap.size) (t := 116) (cs := #[.bool false, .slice none 0 0]) (by first | exact Blk.new _ _ _ | exact (Blk.new _ _ _).alloc _ | exact kA | exact kB | exact kA.alloc _ | exact kB.alloc _ | exact (kA.alloc _).alloc _ ) u3; have mClt := mC.lt; have mCc0 := mC.cell 0; have mCc1 := mC.cell 1; have mCf0 := mC.frozen 0; have mCf1 := mC.frozen 1)); (try (have mD := Blk.later (g := w2.heap.size + 1) (t := 116) (cs := #[.bool false, .slice none 0 0]) (by first | exact Blk.new _ _ _ | (have hh := Blk.new (w2.alloc (.cells #[.bool false, .slice none 0 0] 116)) 116 #[.bool false, .slice none 0 0]; simpa using hh) | exact (Blk.new _ _ _).alloc _ | exact kA | exact kB | exact kA.alloc _ | exact kB.alloc _ | exact (kA.alloc _).alloc _ ) u3; have mDlt := mD.lt; have mDc0 := mD.cell 0; have mDc1 := mD.cell 1; have mDf0 := mD.frozen 0; have mDf1 := mD.frozen 1))))
  all_goals
   go_wp2_with fail
   go_meet
   have P1 := PQ.out
   have P2 := HR'.out
   first
    | (with_reducible exact TwoVars.ff P1 p2 P2 u2 u4)
    | (with_reducible exact TwoVars.ff' P1 p2 P2 u2 u4)
    | ((with_reducible refine TwoVars.pf ?_ P1 p2 P2 u2 u4 ?_) <;> first | (with_reducible exact mA) | (with_reducible exact mB) | (with_reducible exact mC) | (with_reducible exact mD) | omega)
    | ((with_reducible refine TwoVars.fp ?_ P1 p2 P2 u2 u4 ?_) <;> first | (with_reducible exact mA) | (with_reducible exact mB) | (with_reducible exact mC) | (with_reducible exact mD) | omega)
    | ((with_reducible refine TwoVars.of ?_ ?_ ?_ P1 p2 P2 u2 u4 ?_ ?_) <;> first | (with_reducible exact mA) | (with_reducible exact mB) | (with_reducible exact mC) | (with_reducible exact mD) | omega)
 case rest =>
  obtain ⟨g8, g9, b, A, n, c, b', A', n', c', rfl, rfl, l8, l9, B8, B9, hq, hn8, hr, hn9, hL⟩ := hcut
  obtain ⟨f0, f1, f2⟩ := parts_ok V1.out V2.out (val_nonneg B32_pos r1) (val_pos B32_pos r2 z2 hne) hok
  have F1 := Lib.hid f1
  have F2 := Lib.hid f2
  have hb' : b' = false := by
   cases b' with
   | false => rfl
   | true =>
     exfalso
     obtain ⟨_, zs, _, zr, zz, zn, zv⟩ := hr
     have := val_pos B32_pos zr zz (zn rfl)
     rw [T4.out] at zv
     simp only [sgn, if_true] at zv f0
     omega
  subst hb'
  have hq' := Lib.hid hq
  have hr' := Lib.hid hr
  have K3 := hk3.later hL
  have K4 := hk4.later hL
  have LL := hlw.trans hL
  have hlt4 := hk4.lt
  have n1' : g8 ≠ w.heap.size + 1 + 1 := by omega
  have n2' : g8 ≠ w.heap.size + 1 + 1 + 1 := by omega
  have n3' : g9 ≠ w.heap.size + 1 + 1 := by omega
  have n4' : g9 ≠ w.heap.size + 1 + 1 + 1 := by omega
  have n5' := n1'.symm
  have n6' := n2'.symm
  have n7' := n3'.symm
  have n8' := n4'.symm
  clear f0 f1 f2 hk1 hk2 hk3 hk4 hq hr a1 a3 HQ HR
  have d0 := B8.cell 0
  have d1 := B8.cell (0 + 1)
  have d2 := B9.cell 0
  have d3 := B9.cell (0 + 1)
  have c0 := K3.cell 0
  have c1' := K3.cell (0 + 1)
  have c2' := K4.cell 0
  have c3' := K4.cell (0 + 1)
  have g0 := K3.frozen 0
  have g1 := K3.frozen (0 + 1)
  have g2 := K4.frozen 0
  have g3 := K4.frozen (0 + 1)
  go_wp2
  go_region
  all_goals
   go_wp2
   refine bodyPost_ret (v := .tuple #[.agg #[.bool b, .slice A n c], .agg #[.bool false, .slice A' n' c']]) (by simp [results, Tryz.results109, go_sem, c0, c1', c2', c3']) rfl ?_
   have := (RPartsPost.close (N := n1 + 1) (M := n2) K3 K4 hq'.out hr'.out LL (by omega) (by omega) (by omega) (by omega)).drew
   rw [Q4.out, T4.out, ← F1.out, ← F2.out] at this
   exact this
end Go.Proofs.YtbgngmamnonlbaaGreat
namespace Go.Proofs.YtbgngmamnonlbaaGreat
open Go.RowKit
end Go.Proofs.YtbgngmamnonlbaaGreat
