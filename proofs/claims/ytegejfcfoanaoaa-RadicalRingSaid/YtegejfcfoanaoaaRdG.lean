
/- Radical: are the terms such as Make takes? -/
import Derived.Deep.DeepCutAuto
import Derived.Test.YtegejfcfoanaoaaRdE
namespace Go.Proofs.Ytegejfcfoanaoaa
open Go.RowKit
set_option linter.unusedSimpArgs false
set_option linter.unusedVariables false
set_option maxRecDepth 100000

set_option maxHeartbeats 4000000 in
theorem make1_any (t u : Int) (w : World) : Calls Try.prog 17 #[.agg #[.int .i64 t, .int .i64 u]] w (fun e w' => e = .returned (.bool (!decide (okT (t, u)))) ∧ Lat w w') := by
  obtain ⟨v, hv⟩ : ∃ v, (!decide (okT (t, u))) = v := ⟨_, rfl⟩
  rw [hv]
  have HW := Lib.hid (fun w => within_any t w)
  by_cases h1 : u < 0
  · have hE : Hid (v = true) := by
      show v = true
      rw [← hv, decide_eq_false (fun h => by have := h.1; simp only at this; omega)]; rfl
    clear hv
    go_enter Try.func17, Try.ntmps17
    go_upto_region 1 with (fail)
    refine name1 (Q := fun W => Code.wp _ _ _ _ W) ?_
    intro W hl hs k1
    have c0 := k1.cell 0
    have c1 := k1.cell 1
    go_wp2
    go_ret
    exact ⟨by rw [hE.out]; rfl, hl⟩
  by_cases h2 : 10000000000000 < u
  · have hE : Hid (v = true) := by
      show v = true
      rw [← hv, decide_eq_false (fun h => by have := h.2.1; simp only at this; omega)]; rfl
    clear hv
    go_enter Try.func17, Try.ntmps17
    go_upto_region 1 with (fail)
    refine name1 (Q := fun W => Code.wp _ _ _ _ W) ?_
    intro W hl hs k1
    have c0 := k1.cell 0
    have c1 := k1.cell 1
    go_wp2
    go_ret
    exact ⟨by rw [hE.out]; rfl, hl⟩
  have HV : Hid (v = !decide (inRT t)) := by
    show v = _
    rw [← hv]
    congr 1
    rw [decide_eq_decide]
    exact ⟨fun h => h.2.2, fun h => ⟨by simp only; omega, by simp only; omega, h⟩⟩
  obtain ⟨b, hb⟩ : ∃ b, decide (inRT t) = b := ⟨_, rfl⟩
  rw [hb] at HW HV
  clear hv hb
  go_enter Try.func17, Try.ntmps17
  go_upto_region 1 with (fail)
  refine name1 (Q := fun W => Code.wp _ _ _ _ W) ?_
  intro W hl hs k1
  have c0 := k1.cell 0
  have c1 := k1.cell 1
  go_wp2_with fail
  refine (HW.out W).mono ?_
  rintro e w' ⟨rfl, rfl⟩
  go_wp2
  go_ret
  exact ⟨by rw [HV.out]; rfl, hl⟩
def okB (l : List (Int × Int)) : Bool := decide (∀ x ∈ l, okT x)
set_option maxHeartbeats 4000000 in
theorem containsT (A : Option Addr) (n c : Nat) (l : List (Int × Int)) (w : World) (hs : RowM w A 2 n (tRows l)) (hn : n ≤ 1000000) :
    Calls Try.prog 16 #[.slice A n c, .func (.func 17) #[] #[]] w (fun e w' => e = .returned (.bool (!okB l)) ∧ Lat w w') := by
  have hln := hs.1
  rw [tRows_len] at hln
  have HS := Lib.hid hs
  have HLN := Lib.hid hln
  have HN := Lib.hid hn
  clear hs hln hn
  suffices H : Calls Try.prog 29 #[.slice A n c, .func (.func 17) #[] #[]] w (fun e w' => ∃ z : Int, e = .returned (.int .i64 z) ∧ ((!okB l) = decide (0 ≤ z)) ∧ Lat w w') by
    obtain ⟨v, hv⟩ : ∃ v, (!okB l) = v := ⟨_, rfl⟩
    rw [hv] at H ⊢
    clear hv
    go_enter Try.func16, Try.ntmps16
    go_wp2_with fail
    refine H.mono ?_
    rintro e w' ⟨z, rfl, hz, hl⟩
    clear H
    have HZ := Lib.hid hz
    clear hz
    go_wp2
    go_ret
    exact ⟨by rw [HZ.out]; rfl, hl⟩
  have hok : Hid (okB l = decide (∀ x ∈ l, okT x)) := rfl
  obtain ⟨v, hv⟩ : ∃ v, okB l = v := ⟨_, rfl⟩
  rw [hv] at hok ⊢
  clear hv
  go_enter Try.func29, Try.ntmps29
  go_wp2
  go_loopw [8] (fun iv wr => ∃ k : Nat, k ≤ n ∧ iv = .int .i64 (k : Nat) ∧ Hid (∀ x ∈ l.take k, okT x) ∧ Lat w wr) (fun iv _ => n - (intOf iv).toNat)
  case atStart => exact ⟨0, Nat.zero_le _, rfl, (fun x hx => by simp at hx), Lat.refl _⟩
  case round =>
    obtain ⟨k, hk, rfl, hI, hl⟩ := hrel
    by_cases hkn : k < n
    · obtain ⟨g, o, x, rfl, hg, hx, c0, c1⟩ := row_term (HS.out.later hl) hkn
      obtain ⟨t, u⟩ := x
      simp only at c0 c1
      have hkI : (k : Int) < (n : Int) := by omega
      have hk0 : (0 : Int) ≤ (k : Int) := by omega
      have wk : wrap64 ((k : Int) + 1) = (k : Int) + 1 := IntWalk.wrap64_in _ (by have := HN.out; omega)
      have HX := Lib.hid hx
      have HKN := Lib.hid hkn
      have HC := Lib.hid (fun w => make1_any t u w)
      clear hx hg hk hkn
      by_cases he : okT (t, u)
      · have HC2 := HC.out
        rw [decide_eq_true he] at HC2
        have hI2 : Hid (∀ x ∈ l.take (k + 1), okT x) := fun x hx => by
          obtain ⟨h1, h2⟩ := List.getElem?_eq_some_iff.1 HX.out
          rw [List.take_succ_eq_append_getElem h1, h2] at hx
          rcases List.mem_append.1 hx with h | h
          · exact hI.out x h
          · rw [List.mem_singleton] at h; rw [h]; exact he
        clear he HC
        go_wp2_with fail
        refine (HC2 wr).mono ?_
        rintro e w6 ⟨rfl, l6⟩
        have L6 := hl.trans l6
        clear HC2 c0 c1
        go_wp2
        go_roundw
        case rel => exact ⟨k + 1, HKN.out, by first | exact me_succ k | (rw [wk]; exact me_succ k), hI2, L6⟩
        case measure => first | exact me_up HKN.out | (rw [wk]; exact me_up HKN.out)
      · have HC2 := HC.out
        rw [decide_eq_false he] at HC2
        have hv : Hid (v = false) := by
          show v = false
          rw [hok.out]
          exact decide_eq_false fun h => he (h _ (List.mem_of_getElem? HX.out))
        clear he HC
        go_wp2_with fail
        refine (HC2 wr).mono ?_
        rintro e w6 ⟨rfl, l6⟩
        have L6 := hl.trans l6
        clear HC2 c0 c1
        go_wp2
        go_ret
        exact ⟨(k : Int), rfl, by rw [hv.out]; simp, L6⟩
    · obtain rfl : k = n := by omega
      have hv : Hid (v = true) := by
        show v = true
        rw [hok.out]
        refine decide_eq_true ?_
        have := hI.out
        rwa [List.take_of_length_le (by have := HLN.out; omega)] at this
      have hge : ¬ (k : Int) < (k : Int) := by omega
      clear hkn hI
      go_wp2
      go_ret
      exact ⟨-1, rfl, by rw [hv.out]; decide, hl⟩
end Go.Proofs.Ytegejfcfoanaoaa
