
/- Chance: the candidates. -/
import Derived.Test.YtogkkhaepfablaaGreatChB
import Derived.RangeFuncGives
import Derived.LoopNIn
import Derived.LoopIn
import Derived.TacticsInMore
import Derived.WalkMore
namespace Go.Proofs.YtogkkhaepfablaaGreat
open Go.RowKit
set_option linter.unusedSimpArgs false

/-- A round of the range over the candidates, as the iterator sees it. -/
def YieldsC (l : Nat) (n : Nat) (I : Nat → World → Prop) (J : Nat → Value → World → Prop) (D : World → Prop) : Prop :=
  ∀ (j : Nat) (v : Value) (W : World), j < n → J j v W → YieldAt Fence.wide 2 Tryz.prog l #[v] W (fun e W' => ∃ b, e = .returned (.bool b) ∧ ((b = true ∧ I (j + 1) W') ∨ (b = false ∧ D W')))

set_option maxRecDepth 100000 in
set_option maxHeartbeats 4000000 in
/-- The candidates: the function is called 200 times, each answer handed to the body, until it says no. -/
theorem candU_iter (l bt b : Nat) (I : Nat → World → Prop) (J : Nat → Value → World → Prop) (D : World → Prop)
    (hB : ∀ j W, I j W → Blk W bt 109 #[.func (.func 61) #[.pointer (some ⟨b, 0, none⟩)] #[]])
    (hO : ∀ j W, j < 200 → I j W → Calls Tryz.prog 61 #[.pointer (some ⟨b, 0, none⟩)] W (fun e W' => ∃ v, e = .returned v ∧ J j v W'))
    (hY : YieldsC l 200 I J D) (W0 : World) (hI0 : I 0 W0) :
    Calls Tryz.prog 91 #[.func (.yield l) #[] #[], .pointer (some ⟨bt, 0, none⟩)] W0 (fun e W' => ∃ v, e = .returned v ∧ (I 200 W' ∨ D W')) := by
  have HB := Lib.hid hB
  have HO := Lib.hid hO
  clear hB hO
  go_enter Tryz.func91, Tryz.ntmps91
  go_wp2
  go_loopw [3] (fun t wr => ∃ (i : Nat), i ≤ 200 ∧ t = .int .i64 i ∧ I i wr) (fun t _ => 200 - (intOf t).toNat)
  case atStart => exact ⟨0, by omega, rfl, hI0⟩
  case round =>
    obtain ⟨i, hi, rfl, hIi⟩ := hrel
    clear hI0
    by_cases hlt : i < 200
    · have hltI : (i : Int) < 200 := by omega
      have kb := HB.out _ _ hIi
      have c0 := kb.cell 0
      have HC := HO.out i wr hlt hIi
      have HYY := fun v W h => hY i v W hlt h
      go_upto_region 2 with fail
      refine (wpIn_wide (n := 3)).1 ?_
      gi_wp2_with fail
      refine ⟨trivial, (callsIn_wide.2 HC).mono ?_⟩
      rintro e W1 ⟨v, rfl, hJ⟩
      obtain ⟨fn, tmps, assign, body, hy', hR⟩ := HYY v W1 hJ
      have hy : (Instr.yield l #[v]).run Tryz.prog W1 = .ok (.round l fn tmps assign body) W1 := hy'
      clear hy' HYY HC hJ c0 kb
      gi_wp2
      refine hR.mono ?_
      clear hR hy
      rintro e w6 ⟨bb, rfl, hq⟩
      rcases hq with ⟨rfl, hI6⟩ | ⟨rfl, hD6⟩
      · gi_wp2
        go_wp2
        go_roundw
        case rel => exact ⟨i + 1, by omega, by go_num, hI6⟩
        case measure => simp [intOf]; omega
      · gi_wp2
        go_wp2
        refine bodyPost_ret (results_none rfl _ _ _) rfl ?_
        exact ⟨_, rfl, .inr hD6⟩
    · obtain rfl : i = 200 := by omega
      go_wp2
      refine bodyPost_end (results_none rfl _ _ _) rfl ?_
      exact ⟨_, rfl, .inl hIi⟩

set_option maxRecDepth 100000 in
set_option maxHeartbeats 4000000 in
/-- .. of wide numbers. -/
theorem candW_iter (l bt b1 b2 : Nat) (I : Nat → World → Prop) (J : Nat → Value → World → Prop) (D : World → Prop)
    (hB : ∀ j W, I j W → Blk W bt 37 #[.func (.func 75) #[] #[.pointer (some ⟨b1, 0, none⟩), .pointer (some ⟨b2, 0, none⟩)]])
    (hO : ∀ j W, j < 200 → I j W → Calls Tryz.prog 75 #[.pointer (some ⟨b1, 0, none⟩), .pointer (some ⟨b2, 0, none⟩)] W (fun e W' => ∃ v, e = .returned v ∧ J j v W'))
    (hY : YieldsC l 200 I J D) (W0 : World) (hI0 : I 0 W0) :
    Calls Tryz.prog 94 #[.func (.yield l) #[] #[], .pointer (some ⟨bt, 0, none⟩)] W0 (fun e W' => ∃ v, e = .returned v ∧ (I 200 W' ∨ D W')) := by
  have HB := Lib.hid hB
  have HO := Lib.hid hO
  clear hB hO
  go_enter Tryz.func94, Tryz.ntmps94
  go_wp2
  go_loopw [3] (fun t wr => ∃ (i : Nat), i ≤ 200 ∧ t = .int .i64 i ∧ I i wr) (fun t _ => 200 - (intOf t).toNat)
  case atStart => exact ⟨0, by omega, rfl, hI0⟩
  case round =>
    obtain ⟨i, hi, rfl, hIi⟩ := hrel
    clear hI0
    by_cases hlt : i < 200
    · have hltI : (i : Int) < 200 := by omega
      have kb := HB.out _ _ hIi
      have c0 := kb.cell 0
      have HC := HO.out i wr hlt hIi
      have HYY := fun v W h => hY i v W hlt h
      go_upto_region 2 with fail
      refine (wpIn_wide (n := 3)).1 ?_
      gi_wp2_with fail
      refine ⟨trivial, (callsIn_wide.2 HC).mono ?_⟩
      rintro e W1 ⟨v, rfl, hJ⟩
      obtain ⟨fn, tmps, assign, body, hy', hR⟩ := HYY v W1 hJ
      have hy : (Instr.yield l #[v]).run Tryz.prog W1 = .ok (.round l fn tmps assign body) W1 := hy'
      clear hy' HYY HC hJ c0 kb
      gi_wp2
      refine hR.mono ?_
      clear hR hy
      rintro e w6 ⟨bb, rfl, hq⟩
      rcases hq with ⟨rfl, hI6⟩ | ⟨rfl, hD6⟩
      · gi_wp2
        go_wp2
        go_roundw
        case rel => exact ⟨i + 1, by omega, by go_num, hI6⟩
        case measure => simp [intOf]; omega
      · gi_wp2
        go_wp2
        refine bodyPost_ret (results_none rfl _ _ _) rfl ?_
        exact ⟨_, rfl, .inr hD6⟩
    · obtain rfl : i = 200 := by omega
      go_wp2
      refine bodyPost_end (results_none rfl _ _ _) rfl ?_
      exact ⟨_, rfl, .inl hIi⟩
end Go.Proofs.YtogkkhaepfablaaGreat
