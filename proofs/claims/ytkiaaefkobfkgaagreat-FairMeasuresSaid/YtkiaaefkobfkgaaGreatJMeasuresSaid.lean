/- PROVED: the statement FairMeasures answers true at every input, and the input reads as it did: whatever method and numbers are handed in, Measure and Helps of the program and of the reference answer the same words, for all methods, small numbers, such up to the limits, and any ones. No condition beyond the types of the arguments. -/
import Derived.Test.YtkiaaefkobfkgaaGreatRows
import Derived.WalkKit
import Derived.ProofKit
import Derived.OpenShut
import Derived.Test.YtkiaaefkobfkgaaGreatF07

namespace Go.Proofs.YtkiaaefkobfkgaaGreat.fairMeasures
open Go.ChangeShapes Go.WideShapes Go.ChangeAt Go.RowKit
set_option linter.unusedVariables false

theorem own : ownKnob Tryz.prog.godebug = none := by kernel_rfl

/-! ### THE ROW's STEP: WRITTEN OUT: LEAVE IT -/
set_option maxRecDepth 100000 in
theorem lifted (os : Os) (started : os.Started) (H : Type) (enc : TypeId × Value → H) :
    ReturnsInHanded {} Tryz.checked os 3 .any (Rows.fairMeasuresSpec.pre6 enc Tryz.prog Tryz.f3 Rows.fairMeasuresRow.domain false) (Rows.fairMeasuresSpec.post enc Tryz.prog Tryz.f3 false true false false) := by
  refine returnsInHanded_of_change (C := Tryz.checked) own started (by kernel_rfl) Tryz.func3
    (ChangeSpec.witness6 (enc := enc) (C := Tryz.checked) false ⟨#[], #[.int .i64 0, .agg #[.int .i64 0, .int .i64 0, .int .i64 0, .int .i64 0], .agg #[.int .u8 0, .int .u8 0, .int .u8 0, .int .u8 0], .agg #[.int .u32 0, .int .u32 0], .agg #[.int .u16 0, .int .u16 0]], []⟩ 8 (by kernel_rfl) (by kernel_rfl) (by kernel_rfl) (by kernel_rfl)) ?_
  intro W base args ds gs before hval0 hW hcnd _
  have hval : ∀ (j : Nat) t v, Tryz.f3.params[j]? = some t → args[j]? = some v → Value.okWide Tryz.prog W .any base t v := hval0
  have hW' := hW
  obtain ⟨p, q, hA0, hV, rfl, hfz, hnd⟩ := hW
  have hA : DataW.TrodAll enc Tryz.prog W 0 (fun _ => true) true Tryz.f3.params.toList args.toList ds p := hA0
  have hAk := hA
  rw [Tryz.params3] at hA hval
  obtain ⟨v0, vs0, d0, ds0, p0, q0, hargs, rfl, rfl, h0, r0⟩ := trodAll_cons hA
  obtain ⟨v1, vs1, d1, ds1, p1, q1, rfl, rfl, rfl, h1, r1⟩ := trodAll_cons r0
  obtain ⟨v2, vs2, d2, ds2, p2, q2, rfl, rfl, rfl, h2, r2⟩ := trodAll_cons r1
  obtain ⟨v3, vs3, d3, ds3, p3, q3, rfl, rfl, rfl, h3, r3⟩ := trodAll_cons r2
  obtain ⟨v4, vs4, d4, ds4, p4, q4, rfl, rfl, rfl, h4, r4⟩ := trodAll_cons r3
  obtain ⟨rfl, rfl, rfl⟩ := trodAll_nil r4
  obtain rfl : args = #[v0, v1, v2, v3, v4] := by cases args; simp_all
  obtain ⟨rfl, rfl⟩ := trodVars_none hV
  obtain ⟨a0, rfl, rfl, rfl, w0⟩ := open_int Tryz.underlying3 (hval 0 3 v0 rfl rfl) h0
  obtain ⟨l0, l1, l2, l3, rfl, _⟩ := open_four Tryz.underlying22 Tryz.underlying3 (by kernel_rfl) (by kernel_rfl) (hval 1 22 v1 rfl rfl) h1
  obtain ⟨b0, b1, b2, b3, rfl, u0, u1, u2, u3⟩ := open_four Tryz.underlying23 Tryz.underlying5 (by kernel_rfl) (by kernel_rfl) (hval 2 23 v2 rfl rfl) h2
  obtain ⟨g0, g1, rfl, u4, u5⟩ := open_two Tryz.underlying25 Tryz.underlying24 (by kernel_rfl) (by kernel_rfl) (hval 3 25 v3 rfl rfl) h3
  obtain ⟨s0, s1, rfl, u6, u7⟩ := open_two Tryz.underlying27 Tryz.underlying26 (by kernel_rfl) (by kernel_rfl) (hval 4 27 v4 rfl rfl) h4
  clear hA0 hval0
  simp only [List.append_nil] at hW'
  refine (dMeasures_any a0 l0 l1 l2 l3 b0 b1 b2 b3 g0 g1 s0 s1 W (wf_u8' u0) (wf_u8' u1) (wf_u8' u2) (wf_u8' u3) (wf_u32' u4) (wf_u32' u5) (wf_u16' u6) (wf_u16' u7)).mono fun e W' ⟨he, hg⟩ => ?_
  subst he
  exact ⟨_, rfl, post_true (tb := 4) kidsA fullA (by rw [Tryz.params3]; decide) hAk (by simp) hW' hg rfl rfl rfl rfl (by kernel_rfl) Tryz.underlying4⟩

theorem t1 : Tryz.prog.funcNamed Rows.fairMeasuresRow.func = some 3 := by kernel_rfl
theorem t2 : joinedFacts Tryz.prog 3 Tryz.f3 Rows.fairMeasuresSpec Rows.fairMeasuresRow = true := by kernel_rfl
theorem t3 : Tryz.f3.isInstance Tryz.prog Rows.fairMeasuresRow.origin Rows.fairMeasuresRow.targs := of_decide_eq_true (by kernel_rfl)
theorem t4 : Tryz.f3.isWrapper Tryz.prog Rows.fairMeasuresRow.wrapper Rows.fairMeasuresRow.mainSum := by unfold Func.isWrapper; first | (rw [if_pos (by decide +kernel)]; kernel_rfl) | (rw [if_neg (by decide +kernel)]; exact ⟨rfl, rfl⟩)
theorem over : Rows.fairMeasuresRow.holds Tryz.pinned (OpenSpec.ofChange Rows.fairMeasuresSpec) :=
  OpenClaim.holds_of_wide 3 Tryz.f3 rfl rfl rfl rfl rfl rfl rfl ⟨rfl, rfl, rfl, rfl, rfl⟩ rfl rfl rfl rfl rfl t1 Tryz.func3 t2 t3 t4
    (fun os started H enc _ => lifted os started H enc)

/-- ████ THE STATEMENT ████ -/
theorem proved : Rows.FairMeasuresSaid :=
  over
#print axioms proved
end Go.Proofs.YtkiaaefkobfkgaaGreat.fairMeasures
