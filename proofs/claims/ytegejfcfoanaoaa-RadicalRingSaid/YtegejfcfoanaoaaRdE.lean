
/- Radical: Same. -/
import Derived.Deep.DeepCutAuto
import Derived.Test.YtegejfcfoanaoaaRdK
namespace Go.Proofs.Ytegejfcfoanaoaa
open Go.RowKit
set_option linter.unusedSimpArgs false
set_option linter.unusedVariables false
set_option maxRecDepth 100000

theorem same1_any (a b c d : Int) (w : World) : Calls Try.prog 25 #[.agg #[.int .i64 a, .int .i64 b], .agg #[.int .i64 c, .int .i64 d]] w (fun e w' => e = .returned (.bool (decide ((a, b) = (c, d)))) ∧ Lat w w') := by
  by_cases h1 : a = c
  · subst h1
    by_cases h2 : b = d
    · subst h2
      rw [decide_eq_true rfl]
      go_enter Try.func25, Try.ntmps25
      go_upto_region 1 with (fail)
      refine name2 (Q := fun W => Code.wp _ _ _ _ W) ?_
      intro W hl hs k1 k2
      have c0 := k1.cell 0
      have c1 := k1.cell 1
      have d0 := k2.cell 0
      have d1 := k2.cell 1
      go_wp2
      go_ret
      exact ⟨rfl, hl⟩
    · rw [decide_eq_false (fun h => h2 (Prod.mk.inj h).2)]
      have h3 : ((b : Int) == d) = false := by simpa using h2
      go_enter Try.func25, Try.ntmps25
      go_upto_region 1 with (fail)
      refine name2 (Q := fun W => Code.wp _ _ _ _ W) ?_
      intro W hl hs k1 k2
      have c0 := k1.cell 0
      have c1 := k1.cell 1
      have d0 := k2.cell 0
      have d1 := k2.cell 1
      go_wp2
      go_ret
      exact ⟨rfl, hl⟩
  · rw [decide_eq_false (fun h => h1 (Prod.mk.inj h).1)]
    have h3 : ((a : Int) == c) = false := by simpa using h1
    go_enter Try.func25, Try.ntmps25
    go_upto_region 1 with (fail)
    refine name2 (Q := fun W => Code.wp _ _ _ _ W) ?_
    intro W hl hs k1 k2
    have c0 := k1.cell 0
    have c1 := k1.cell 1
    have d0 := k2.cell 0
    have d1 := k2.cell 1
    go_wp2
    go_ret
    exact ⟨rfl, hl⟩
set_option maxHeartbeats 4000000 in
theorem same_rad (A : Option Addr) (n c : Nat) (a : List (Int × Int)) (A' : Option Addr) (m c' : Nat) (b : List (Int × Int)) (w : World) (hs : RowM w A 2 n (tRows a)) (ks : RowM w A' 2 m (tRows b)) (hn : n ≤ 1000000) :
    Calls Try.prog 8 #[.slice A n c, .slice A' m c'] w (fun e w' => e = .returned (.bool (decide (a = b))) ∧ Lat w w') := by
  have hln := hs.1
  have hlm := ks.1
  rw [tRows_len] at hln hlm
  obtain ⟨v, hv⟩ : ∃ v, decide (a = b) = v := ⟨_, rfl⟩
  rw [hv]
  have HV := Lib.hid hv
  have HS := Lib.hid hs
  have KS := Lib.hid ks
  have HLN := Lib.hid hln
  have HLM := Lib.hid hlm
  clear hv hs ks hln hlm
  suffices H : Calls Try.prog 24 #[.slice A n c, .slice A' m c', .func (.func 25) #[] #[]] w (fun e w' => e = .returned (.bool v) ∧ Lat w w') by
    go_enter Try.func8, Try.ntmps8
    go_wp2_with fail
    refine H.mono ?_
    rintro e w' ⟨rfl, hl⟩
    go_wp2
    go_ret
    exact ⟨rfl, hl⟩
  by_cases hnm : n = m
  · subst hnm
    go_enter Try.func24, Try.ntmps24
    go_wp2
    go_loopw [17] (fun iv wr => ∃ k : Nat, k ≤ n ∧ iv = .int .i64 (k : Nat) ∧ Hid (a.take k = b.take k) ∧ Lat w wr) (fun iv _ => n - (intOf iv).toNat)
    case atStart => exact ⟨0, Nat.zero_le _, rfl, rfl, Lat.refl _⟩
    case round =>
      obtain ⟨k, hk, rfl, hI, hl⟩ := hrel
      by_cases hkn : k < n
      · obtain ⟨g, o, x, rfl, hg, hx, c0, c1⟩ := row_term (HS.out.later hl) hkn
        obtain ⟨g', o', y, rfl, hg', hy, d0, d1⟩ := row_term (KS.out.later hl) hkn
        obtain ⟨t, u⟩ := x
        obtain ⟨t', u'⟩ := y
        simp only at c0 c1 d0 d1
        have hkI : (k : Int) < (n : Int) := by omega
        have hk0 : (0 : Int) ≤ (k : Int) := by omega
        have wk : wrap64 ((k : Int) + 1) = (k : Int) + 1 := IntWalk.wrap64_in _ (by omega)
        have HX := Lib.hid hx
        have HY := Lib.hid hy
        have HKN := Lib.hid hkn
        have HC := fun w => same1_any t u t' u' w
        have hcell := (rfl : wr = wr)
        have e0 := fun w' (hl' : Lat wr w') => hl'.cell (p := ⟨g', o' + k * 2, none⟩) hg' d0
        have e1 := fun w' (hl' : Lat wr w') => hl'.cell (p := ⟨g', o' + k * 2 + 1, none⟩) hg' d1
        have L1 := Lat.alloc wr (.cells #[.int .i64 t, .int .i64 u] 40)
        clear hx hy hg hg' hk hkn hcell
        go_upto_region 7 with (fail)
        refine name2 (Q := fun W => Code.wp _ _ _ _ W) ?_
        intro W5 l5 s5 k5 k6
        have L5 := hl.trans l5
        have f0 := k5.cell 0
        have f1 := k5.cell 1
        have f2 := k6.cell 0
        have f3 := k6.cell 1
        clear c0 c1 d0 d1 e0 e1 L1 s5
        go_wp2_with fail
        refine (HC W5).mono ?_
        rintro e w6 ⟨rfl, l6⟩
        have L6 := L5.trans l6
        clear HC
        by_cases he : (t, u) = (t', u')
        · rw [decide_eq_true he]
          have hI2 : Hid (a.take (k + 1) = b.take (k + 1)) := by
            obtain ⟨h1, h2⟩ := List.getElem?_eq_some_iff.1 HX.out
            obtain ⟨h3, h4⟩ := List.getElem?_eq_some_iff.1 HY.out
            show _ = _
            rw [List.take_succ_eq_append_getElem h1, List.take_succ_eq_append_getElem h3, h2, h4, hI.out, he]
          clear he
          go_wp2
          go_roundw
          case rel => exact ⟨k + 1, HKN.out, me_succ k, hI2, L6⟩
          case measure => exact me_up HKN.out
        · rw [decide_eq_false he]
          have hv : v = false := by
            rw [← HV.out]
            refine decide_eq_false fun h => he ?_
            have h1 := HX.out
            rw [h, HY.out] at h1
            cases h1; rfl
          clear he
          go_wp2
          go_ret
          exact ⟨by first | rfl | (rw [hv]; rfl), L6⟩
      · obtain rfl : k = n := by omega
        have hv : v = true := by
          rw [← HV.out]
          refine decide_eq_true ?_
          have := hI.out
          rwa [List.take_of_length_le (by have := HLN.out; omega), List.take_of_length_le (by have := HLM.out; omega)] at this
        have hge : ¬ (k : Int) < (k : Int) := by omega
        clear hkn hI
        go_wp2
        go_ret
        exact ⟨by first | rfl | (rw [hv]; rfl), hl⟩
  · have hv : v = false := by
      rw [← HV.out]
      refine decide_eq_false fun h => hnm ?_
      have := HLN.out
      have := HLM.out
      rw [h] at *
      omega
    have hne : (((n : Nat) : Int) != ((m : Nat) : Int)) = true := by simp; omega
    clear hnm
    go_enter Try.func24, Try.ntmps24
    go_wp2
    go_ret
    exact ⟨by first | rfl | (rw [hv]; rfl), Lat.refl _⟩
end Go.Proofs.Ytegejfcfoanaoaa
