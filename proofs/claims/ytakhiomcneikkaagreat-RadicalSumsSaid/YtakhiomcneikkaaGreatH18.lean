/- Several texts in one: RefL, RefM, RefN, RefO, RefP, RefQ, RefR, RefS. -/
import Derived.Test.YtakhiomcneikkaaGreatH17
import Derived.Deep.LoopGhost
import Derived.Deep.DeepCutAuto
import Derived.Deep.DrawnRows
import Derived.Test.YtakhiomcneikkaaGreatH11
namespace Go.Proofs.YtakhiomcneikkaaGreat
open Go.RowKit
def ordR (x : Int) : Int := if x < 0 then -1 else if x = 0 then 0 else 1
set_option maxHeartbeats 1000000 in
theorem rOrder_any (b1 : Bool) (A1 : Option Addr) (n1 c1 : Nat) (x : Int) (b2 : Bool) (A2 : Option Addr) (n2 c2 : Nat) (y : Int) (w : World) (h1 : Rg w b1 A1 n1 c1 x) (h2 : Rg w b2 A2 n2 c2 y) (hn : n1 ≤ 1000000) (hm : n2 ≤ 1000000) :
  Calls Tryz.prog 80 #[.agg #[.bool b1, .slice A1 n1 c1], .agg #[.bool b2, .slice A2 n2 c2]] w (fun e w' => e = .returned (.int .i64 (ordR (x - y))) ∧ Lat w w') := by
 go_enter Tryz.func80, Tryz.ntmps80
 go_wp2_with fail
 refine name2 (Q := fun W => Calls _ _ _ W _) ?_
 intro W hl hs k1 k2
 refine (rMinus_any b1 A1 n1 c1 x b2 A2 n2 c2 y W (h1.later hl) (h2.later hl) hn hm).mono ?_
 rintro e w1 ⟨b, A, n, c, rfl, ⟨hnc, xs, s1, r1, z1, hne, v1⟩, p2, p3⟩
 cases b with
 | true =>
   have hx : Hid (ordR (x - y) = -1) := by
    have := val_pos B32_pos r1 z1 (hne rfl)
    simp only [sgn, if_true] at v1
    show _ = _
    rw [ordR, if_pos (by omega)]
   clear v1
   go_wp2
   go_ret
   exact ⟨by simp [hx.out], (hl.trans p3).trans (Lat.alloc _ _)⟩
 | false =>
   rcases Nat.eq_zero_or_pos n with rfl | hp
   ·have hx : Hid (ordR (x - y) = 0) := by
     have := List.eq_nil_of_length_eq_zero s1.1
     subst this
     have e : x - y = 0 := by simpa [sgn, val] using v1
     show _ = _
     rw [e]; rfl
    clear v1
    go_wp2
    go_ret
    exact ⟨by simp [hx.out], (hl.trans p3).trans (Lat.alloc _ _)⟩
   ·have hx : Hid (ordR (x - y) = 1) := by
     have hxs : xs ≠ [] := by intro e; have := s1.1; simp [e] at this; omega
     have := val_pos B32_pos r1 z1 hxs
     simp only [sgn, if_false, Bool.false_eq_true] at v1
     show _ = _
     rw [ordR, if_neg (by omega), if_neg (by omega)]
    clear v1
    have hn0 : decide ((0 : Int) < (n : Int)) = true := by simp; omega
    go_wp2
    go_ret
    exact ⟨by simp [hx.out], (hl.trans p3).trans (Lat.alloc _ _)⟩
theorem val_two (u : Int) : val B32 [u % 4294967296, u / 4294967296] = u := by
 simp only [val, B32]; omega
theorem inr_two {u : Int} (h0 : 0 ≤ u) (h1 : u ≤ 9223372036854775808) : InR B32 [u % 4294967296, u / 4294967296] :=
 InR.cons (by unfold B32; omega) (InR.cons (by unfold B32; omega) (InR.nil _))
theorem neg_wraps (m : Int) (h0 : 0 < m) (h1 : m ≤ 9223372036854775808) : ∃ M, IntKind.u64.wrap (-m) = M ∧ 0 ≤ M ∧ IntKind.u64.wrap (-M) = m := by
 refine ⟨_, rfl, ?_, ?_⟩
 ·rw [IntKind.wrap_u64]; omega
 ·rw [IntKind.wrap_u64, IntKind.wrap_u64]; omega
set_option maxRecDepth 100000 in
set_option maxHeartbeats 1000000 in
theorem rLong1_pos (n : Int) (w : World) (h0 : 0 ≤ n) (h1 : n ≤ 9223372036854775807) :
  Calls Tryz.prog 43 #[.int .i64 n] w (RefPost w n 2) := by
 have hlt : decide (n < 0) = false := by simp; omega
 have HV := Lib.hid (val_two n)
 have HR := inr_two h0 (by omega)
 obtain ⟨a, ha⟩ : ∃ a, n % 4294967296 = a := ⟨_, rfl⟩
 obtain ⟨b, hb⟩ : ∃ b, n / 4294967296 = b := ⟨_, rfl⟩
 rw [ha, hb] at HR
 have HV' : Hid (val B32 [a, b] = n) := by show _ = _; rw [← ha, ← hb]; exact HV.out
 have ha0 : 0 ≤ a := by omega
 have ha1 : a < 4294967296 := by omega
 have hb0 : 0 ≤ b := by omega
 have hb1 : b < 4294967296 := by omega
 clear HV
 go_enter Tryz.func43, Tryz.ntmps43
 go_wp2_with fail
 refine name2 (Q := fun W => Calls _ _ _ W _) ?_
 intro W hl hs k1 k2
 refine (made_any false (some ⟨w.heap.size + 1, 0, none⟩) 2 2 W [a, b] (Sl.of_blk' (t := 3) k2 rfl) HR (Nat.le_refl _) (by omega)).mono ?_
 rintro e w1 ⟨b', A, m, c, rfl, hlg, hnn, hl1⟩
 have hk1 := k1.later hl1
 have c0 := hk1.cell 0
 have c1 := hk1.cell 1
 have f0 := hk1.frozen 0
 have f1 := hk1.frozen 1
 clear ha hb
 go_wp2
 refine bodyPost_ret (v := .agg #[.bool b', .slice A m c]) (by simp [results, Tryz.results43, go_sem, c0, c1]) rfl ?_
 have := RefPost.close hk1 hlg (hl.trans hl1) (by omega) hnn
 rw [HV'.out] at this
 exact this
set_option maxRecDepth 100000 in
set_option maxHeartbeats 1000000 in
theorem rLong1_neg (m : Int) (w : World) (h0 : 0 < m) (h1 : m ≤ 9223372036854775808) :
  Calls Tryz.prog 43 #[.int .i64 (-m)] w (RefPost w (-m) 2) := by
 have hlt : decide (-m < 0) = true := by simp; omega
 obtain ⟨M, e1, hM0, e2⟩ := neg_wraps m h0 h1
 have HV := Lib.hid (val_two m)
 have HR := inr_two (u := m) (by omega) (by omega)
 obtain ⟨a, ha⟩ : ∃ a, m % 4294967296 = a := ⟨_, rfl⟩
 obtain ⟨b, hb⟩ : ∃ b, m / 4294967296 = b := ⟨_, rfl⟩
 rw [ha, hb] at HR
 have HV' : Hid (val B32 [a, b] = m) := by show _ = _; rw [← ha, ← hb]; exact HV.out
 have ha0 : 0 ≤ a := by omega
 have ha1 : a < 4294967296 := by omega
 have hb0 : 0 ≤ b := by omega
 have hb1 : b < 4294967296 := by omega
 clear HV
 go_enter Tryz.func43, Tryz.ntmps43
 go_wp2_with fail
 refine name2 (Q := fun W => Calls _ _ _ W _) ?_
 intro W hl hs k1 k2
 refine (made_any true (some ⟨w.heap.size + 1, 0, none⟩) 2 2 W [a, b] (Sl.of_blk' (t := 3) k2 rfl) HR (Nat.le_refl _) (by omega)).mono ?_
 rintro e w1 ⟨b', A, n, c, rfl, hlg, hnn, hl1⟩
 have hk1 := k1.later hl1
 have c0 := hk1.cell 0
 have c1 := hk1.cell 1
 have f0 := hk1.frozen 0
 have f1 := hk1.frozen 1
 clear ha hb e1 e2
 go_wp2
 refine bodyPost_ret (v := .agg #[.bool b', .slice A n c]) (by simp [results, Tryz.results43, go_sem, c0, c1]) rfl ?_
 have := RefPost.close hk1 hlg (hl.trans hl1) (by omega) hnn
 rw [HV'.out] at this
 exact this
theorem rLong1_any (n : Int) (w : World) (h0 : -9223372036854775808 ≤ n) (h1 : n < 9223372036854775808) :
  Calls Tryz.prog 43 #[.int .i64 n] w (RefPost w n 2) := by
 rcases Int.lt_or_le n 0 with h | h
 ·have := rLong1_neg (-n) w (by omega) (by omega)
  rwa [Int.neg_neg] at this
 ·exact rLong1_pos n w h (by omega)
attribute [local go_sem ↓] Go.wp_at_zero Go.wp_at_succ
end Go.Proofs.YtakhiomcneikkaaGreat
namespace Go.Proofs.YtakhiomcneikkaaGreat
open Go.RowKit
end Go.Proofs.YtakhiomcneikkaaGreat
