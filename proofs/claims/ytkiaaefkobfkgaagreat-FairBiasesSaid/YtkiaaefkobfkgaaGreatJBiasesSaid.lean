/- PROVED: the statement FairBiases answers true at every input, and the input reads as it did: whatever people and method are handed in, the bias is 0 if all regions have as many seats as people, and above 0 if the smallest one has a seat less. No condition beyond the types of the arguments. -/
import Derived.Test.YtkiaaefkobfkgaaGreatRows
import Derived.WalkKit
import Derived.ProofKit
import Derived.OpenShut
import Derived.Test.YtkiaaefkobfkgaaGreatF07
import Derived.Test.YtkiaaefkobfkgaaGreatG01

namespace Go.Proofs.YtkiaaefkobfkgaaGreat.fairBiases
open Go.ChangeShapes Go.WideShapes Go.ChangeAt Go.RowKit
set_option linter.unusedVariables false

theorem own : ownKnob Tryz.prog.godebug = none := by kernel_rfl

/-! ### THE ROW's STEP: WRITTEN OUT: LEAVE IT -/
set_option maxRecDepth 100000 in
theorem lifted (os : Os) (started : os.Started) (H : Type) (enc : TypeId × Value → H) :
    ReturnsInHanded {} Tryz.checked os 5 .any (Rows.fairBiasesSpec.pre6 enc Tryz.prog Tryz.f5 Rows.fairBiasesRow.domain false) (Rows.fairBiasesSpec.post enc Tryz.prog Tryz.f5 false true false false) := by
  refine returnsInHanded_of_change (C := Tryz.checked) own started (by kernel_rfl) Tryz.func5
    (ChangeSpec.witness6 (enc := enc) (C := Tryz.checked) false ⟨#[], #[.slice none 0 0, .int .u8 0], []⟩ 8 (by kernel_rfl) (by kernel_rfl) (by kernel_rfl) (by kernel_rfl)) ?_
  intro W base args ds gs before hval0 hW hcnd _
  have hval : ∀ (j : Nat) t v, Tryz.f5.params[j]? = some t → args[j]? = some v → Value.okWide Tryz.prog W .any base t v := hval0
  have hW' := hW
  obtain ⟨p, q, hA0, hV, rfl, hfz, hnd⟩ := hW
  have hA : DataW.TrodAll enc Tryz.prog W 0 (fun _ => true) true Tryz.f5.params.toList args.toList ds p := hA0
  have hAk := hA
  rw [Tryz.params5] at hA hval
  obtain ⟨v0, vs0, d0, ds0, p0, q0, hargs, rfl, rfl, h0, r0⟩ := trodAll_cons hA
  obtain ⟨v1, vs1, d1, ds1, p1, q1, rfl, rfl, rfl, h1, r1⟩ := trodAll_cons r0
  obtain ⟨rfl, rfl, rfl⟩ := trodAll_nil r1
  obtain rfl : args = #[v0, v1] := by cases args; simp_all
  obtain ⟨rfl, rfl⟩ := trodVars_none hV
  obtain ⟨Ap, np, cp, ps, rfl, sp, hnc, hnp, hw⟩ := open_sl Tryz.underlying45 Tryz.underlying5 (by kernel_rfl) (hval 0 45 v0 rfl rfl) h0
  obtain ⟨u, rfl, rfl, rfl, w1⟩ := open_int Tryz.underlying5 (hval 1 5 v1 rfl rfl) h1
  clear hA0 hval0
  simp only [List.append_nil] at hW'
  refine (dBiases_any Ap np cp ps u W sp hnp (fun x hx => by have := wf_u8' (hw x hx); omega) hnc (wf_u8' w1).1 (by have := (wf_u8' w1).2; omega)).mono fun e W' ⟨he, hg⟩ => ?_
  subst he
  exact ⟨_, rfl, post_true (tb := 4) kidsA fullA (by rw [Tryz.params5]; decide) hAk (by simp) hW' hg rfl rfl rfl rfl (by kernel_rfl) Tryz.underlying4⟩

theorem t1 : Tryz.prog.funcNamed Rows.fairBiasesRow.func = some 5 := by kernel_rfl
theorem t2 : joinedFacts Tryz.prog 5 Tryz.f5 Rows.fairBiasesSpec Rows.fairBiasesRow = true := by kernel_rfl
theorem t3 : Tryz.f5.isInstance Tryz.prog Rows.fairBiasesRow.origin Rows.fairBiasesRow.targs := of_decide_eq_true (by kernel_rfl)
theorem t4 : Tryz.f5.isWrapper Tryz.prog Rows.fairBiasesRow.wrapper Rows.fairBiasesRow.mainSum := by unfold Func.isWrapper; first | (rw [if_pos (by decide +kernel)]; kernel_rfl) | (rw [if_neg (by decide +kernel)]; exact ⟨rfl, rfl⟩)
theorem over : Rows.fairBiasesRow.holds Tryz.pinned (OpenSpec.ofChange Rows.fairBiasesSpec) :=
  OpenClaim.holds_of_wide 5 Tryz.f5 rfl rfl rfl rfl rfl rfl rfl ⟨rfl, rfl, rfl, rfl, rfl⟩ rfl rfl rfl rfl rfl t1 Tryz.func5 t2 t3 t4
    (fun os started H enc _ => lifted os started H enc)

/-- ████ THE STATEMENT ████ -/
theorem proved : Rows.FairBiasesSaid :=
  over
#print axioms proved
end Go.Proofs.YtkiaaefkobfkgaaGreat.fairBiases
