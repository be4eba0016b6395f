/- Several texts in one: PxS. -/
import Derived.Test.YteocdndanehpnaaGreatH47
import Derived.Test.YteocdndanehpnaaGreatH20
import Derived.Laws.EntriesVeiled
namespace Go.Proofs.YteocdndanehpnaaGreat
open Go.RowKit
set_option linter.unusedSimpArgs false
set_option linter.unusedVariables false
def spanE (P : List Int) (k a z : Int) : Int := if censusB P = false then 60 else if famB k = true ∧ 1 ≤ a ∧ z ≤ 1000 ∧ a ≤ z ∧ z - a ≤ 100 then 0 else 2
set_option maxRecDepth 100000 in
set_option maxHeartbeats 4000000 in
theorem spanned_any (A : Option Addr) (n c : Nat) (P : List Int) (k a z : Int) (w : World) (hs : Sl w .i64 A n P) (hn : n ≤ 1000) :
  Calls Tryz.prog 26 #[.slice A n c, .int .i64 k, .int .i64 a, .int .i64 z] w (fun e w' => e = .returned (.int .i64 (spanE P k a z)) ∧ Lat w w') := by
 have HC := qCheck_any A n c P w hs (by omega)
 have HO := pof_any k
 cases hc : censusB P with
 | false =>
   rw [cenE_no hc] at HC
   rw [spanE, if_pos hc]
   clear hc HO
   go_enter Tryz.func26, Tryz.ntmps26
   go_wp2_with fail
   refine HC.mono ?_
   rintro e w0 ⟨rfl, rfl⟩
   clear HC
   go_wp2
   go_ret
   exact ⟨rfl, Lat.refl _⟩
 | true =>
   rw [cenE_yes hc] at HC
   have hE : spanE P k a z = if famB k = true ∧ 1 ≤ a ∧ z ≤ 1000 ∧ a ≤ z ∧ z - a ≤ 100 then 0 else 2 := by rw [spanE, if_neg (by simp [hc])]
   rw [hE]
   clear hE hc
   obtain ⟨fb, hfb⟩ : ∃ fb, famB k = fb := ⟨_, rfl⟩
   rw [hfb] at HO ⊢
   obtain ⟨er, her⟩ : ∃ er : Int, (if fb = true ∧ 1 ≤ a ∧ z ≤ 1000 ∧ a ≤ z ∧ z - a ≤ 100 then (0 : Int) else 2) = er := ⟨_, rfl⟩
   rw [her]
   have HE := Lib.hid her
   clear her
   rcases famV_cases k with ⟨hb, lo, hi, f, hv⟩ | ⟨hb, hv⟩
   all_goals
    rw [hfb] at hb
    subst hb
    rw [hv] at HO
    clear hfb hv
    try simp only [famOf] at HO
    go_enter Tryz.func26, Tryz.ntmps26
    go_wp2_with fail
    refine HC.mono ?_
    rintro e w0 ⟨rfl, rfl⟩
    clear HC
    go_wp2_with fail
    refine (HO w).mono ?_
    rintro e w1 ⟨rfl, l1⟩
    clear HO hs
    go_upto_region 5 with (fail)
    generalize hV : w1.alloc _ = V
    have LV : Lat w V := by rw [← hV]; exact l1.trans (Lat.alloc _ _)
    clear hV l1
   ·by_cases h1 : a < 1
    ·obtain rfl : 2 = er := by rw [← HE.out, if_neg (by omega)]
     go_wp2
     go_ret
     exact ⟨rfl, LV⟩
    ·have h1b : decide (a < 1) = false := by simp; omega
     by_cases h2 : 1000 < z
     ·obtain rfl : 2 = er := by rw [← HE.out, if_neg (by omega)]
      go_wp2
      go_ret
      exact ⟨rfl, LV⟩
     ·have h2b : decide (1000 < z) = false := by simp; omega
      by_cases h3 : z < a
      ·obtain rfl : 2 = er := by rw [← HE.out, if_neg (by omega)]
       go_wp2
       go_ret
       exact ⟨rfl, LV⟩
      ·have h3b : decide (z < a) = false := by simp; omega
       have e1 : wrap64 (z - a) = z - a := IntWalk.wrap64_in _ (by omega)
       have e2 : IntKind.i64.wrap (z - a) = z - a := IntWalk.i64_in _ (by omega)
       by_cases h4 : 100 < z - a
       ·obtain rfl : 2 = er := by rw [← HE.out, if_neg (by omega)]
        go_wp2
        go_ret
        exact ⟨rfl, LV⟩
       ·have h4b : decide (100 < z - a) = false := by simp; omega
        obtain rfl : 0 = er := by rw [← HE.out, if_pos ⟨by trivial, by omega, by omega, by omega, by omega⟩]
        go_wp2
        go_ret
        exact ⟨rfl, LV⟩
   ·obtain rfl : 2 = er := by rw [← HE.out, if_neg (by simp)]
    go_wp2
    go_ret
    exact ⟨rfl, LV⟩
end Go.Proofs.YteocdndanehpnaaGreat
