/- PROVED: the statement ChanceWeights answers true at every input, and the input reads as it did: whatever state, list of small numbers and draft are handed in, weights and coins are picked as the chapter says. No condition beyond the types of the arguments. -/
import Derived.Test.YtogkkhaepfablaaGreatRows
import Derived.WalkKit
import Derived.ProofKit
import Derived.OpenShut
import Derived.Test.YtogkkhaepfablaaGreatWeF
import Derived.Test.YtogkkhaepfablaaGreatK35

namespace Go.Proofs.YtogkkhaepfablaaGreat.chanceWeights
open Go.ChangeShapes Go.WideShapes Go.ChangeAt Go.RowKit
set_option linter.unusedVariables false

theorem own : ownKnob Tryz.prog.godebug = none := by kernel_rfl

/-! ### THE ROW's STEP: WRITTEN OUT: LEAVE IT -/
set_option maxRecDepth 100000 in
theorem lifted (os : Os) (started : os.Started) (H : Type) (enc : TypeId × Value → H) :
    ReturnsInHanded {} Tryz.checked os 4 .any (Rows.chanceWeightsSpec.pre6 enc Tryz.prog Tryz.f4 Rows.chanceWeightsRow.domain false) (Rows.chanceWeightsSpec.post enc Tryz.prog Tryz.f4 false true false false) := by
  refine returnsInHanded_of_change (C := Tryz.checked) own started (by kernel_rfl) Tryz.func4
    (ChangeSpec.witness6 (enc := enc) (C := Tryz.checked) false ⟨#[], #[.agg #[.int .u64 0], .slice none 0 0, .agg #[.bool false, .slice none 0 0, .int .u32 0, .bool false, .slice none 0 0, .int .u32 0]], []⟩ 8 (by kernel_rfl) (by kernel_rfl) (by kernel_rfl) (by kernel_rfl)) ?_
  intro W base args ds gs before hval0 hW hcnd _
  have hval : ∀ (j : Nat) t v, Tryz.f4.params[j]? = some t → args[j]? = some v → Value.okWide Tryz.prog W .any base t v := hval0
  have hW' := hW
  obtain ⟨p, q, hA0, hV, rfl, hfz, hnd⟩ := hW
  have hA : DataW.TrodAll enc Tryz.prog W 0 (fun _ => true) true Tryz.f4.params.toList args.toList ds p := hA0
  have hAk := hA
  rw [Tryz.params4] at hA hval
  obtain ⟨v0, vs0, d0, ds0, p0, q0, hargs, rfl, rfl, h0, r0⟩ := trodAll_cons hA
  obtain ⟨v1, vs1, d1, ds1, p1, q1, rfl, rfl, rfl, h1, r1⟩ := trodAll_cons r0
  obtain ⟨v2, vs2, d2, ds2, p2, q2, rfl, rfl, rfl, h2, r2⟩ := trodAll_cons r1
  obtain ⟨rfl, rfl, rfl⟩ := trodAll_nil r2
  obtain rfl : args = #[v0, v1, v2] := by cases args; simp_all
  obtain ⟨rfl, rfl⟩ := trodVars_none hV
  obtain ⟨a0, rfl, w0⟩ := open_chance (hval 0 24 v0 rfl rfl) h0
  obtain ⟨x10, x11, x12, x13, rfl, w1, w1c, w1n, w1w⟩ := open_sl Tryz.underlying27 Tryz.underlying46 (by kernel_rfl) (hval 1 27 v1 rfl rfl) h1
  obtain ⟨x20, x21, x22, x23, x24, x25, x26, x27, x28, x29, rfl, w2a, w2b⟩ := open_draft2 (hval 2 44 v2 rfl rfl) h2
  clear hA0 hval0
  simp only [List.append_nil] at hW'
  refine (cWeights_any a0 x10 x11 x12 x13 x20 x25 x21 x26 x22 x23 x27 x28 x24 x29 W (wf_u64' w0) w1 w1c (fun x h => wf_u16d (w1w x h)) w2a w2b).mono fun e W' ⟨he, hg⟩ => ?_
  subst he
  exact ⟨_, rfl, post_true (tb := 4) kidsA fullA (by rw [Tryz.params4]; decide) hAk (by simp) hW' hg rfl rfl rfl rfl (by kernel_rfl) Tryz.underlying4⟩

theorem t1 : Tryz.prog.funcNamed Rows.chanceWeightsRow.func = some 4 := by kernel_rfl
theorem t2 : joinedFacts Tryz.prog 4 Tryz.f4 Rows.chanceWeightsSpec Rows.chanceWeightsRow = true := by kernel_rfl
theorem t3 : Tryz.f4.isInstance Tryz.prog Rows.chanceWeightsRow.origin Rows.chanceWeightsRow.targs := of_decide_eq_true (by kernel_rfl)
theorem t4 : Tryz.f4.isWrapper Tryz.prog Rows.chanceWeightsRow.wrapper Rows.chanceWeightsRow.mainSum := by unfold Func.isWrapper; first | (rw [if_pos (by decide +kernel)]; kernel_rfl) | (rw [if_neg (by decide +kernel)]; exact ⟨rfl, rfl⟩)
theorem over : Rows.chanceWeightsRow.holds Tryz.pinned (OpenSpec.ofChange Rows.chanceWeightsSpec) :=
  OpenClaim.holds_of_wide 4 Tryz.f4 rfl rfl rfl rfl rfl rfl rfl ⟨rfl, rfl, rfl, rfl, rfl⟩ rfl rfl rfl rfl rfl t1 Tryz.func4 t2 t3 t4
    (fun os started H enc _ => lifted os started H enc)

/-- ████ THE STATEMENT ████ -/
theorem proved : Rows.ChanceWeightsSaid :=
  over
#print axioms proved
end Go.Proofs.YtogkkhaepfablaaGreat.chanceWeights
