/- PROVED: the statement FairKnown, which has no arguments, answers true: the chapter's examples, the limits, and the order of errors are as the chapter says. No condition. -/
import Derived.Test.YtkjnjooggicgiaaGreatRows
import Derived.WalkKit
import Derived.ProofKit
import Derived.OpenShut
import Derived.Test.YtkjnjooggicgiaaGreatF07
import Derived.Test.YtkjnjooggicgiaaGreatF08

namespace Go.Proofs.YtkjnjooggicgiaaGreat.fairKnown
open Go.ChangeShapes Go.WideShapes Go.ChangeAt Go.RowKit
set_option linter.unusedVariables false

theorem own : ownKnob Tryz.prog.godebug = none := by kernel_rfl

theorem walk (W : World) : Calls Tryz.prog 3 #[] W (Yes9 W) := fKnown_law W

/-! ### THE ROW's STEP: WRITTEN OUT: LEAVE IT -/
set_option maxRecDepth 100000 in
theorem lifted (os : Os) (started : os.Started) (H : Type) (enc : TypeId × Value → H) :
    ReturnsInHanded {} Tryz.checked os 3 .any (Rows.fairKnownSpec.pre6 enc Tryz.prog Tryz.f3 Rows.fairKnownRow.domain false) (Rows.fairKnownSpec.post enc Tryz.prog Tryz.f3 false true false false) := by
  refine returnsInHanded_of_change (C := Tryz.checked) own started (by kernel_rfl) Tryz.func3
    (ChangeSpec.witness6 (enc := enc) (C := Tryz.checked) false ⟨#[], #[], []⟩ 8 (by kernel_rfl) (by kernel_rfl) (by kernel_rfl) (by kernel_rfl)) ?_
  intro W base args ds gs before _ hW hcnd _
  have hW' := hW
  obtain ⟨p, q, hA0, hV, rfl, hfz, hnd⟩ := hW
  have hA : DataW.TrodAll enc Tryz.prog W 0 (fun _ => true) true Tryz.f3.params.toList args.toList ds p := hA0
  have hAk := hA
  rw [Tryz.params3] at hA
  obtain ⟨hargs, rfl, rfl⟩ := trodAll_nil hA
  obtain rfl : args = #[] := by cases args; simp_all
  obtain ⟨rfl, rfl⟩ := trodVars_none hV
  clear hA0
  simp only [List.append_nil] at hW'
  refine (walk W).mono fun e W' ⟨he, hg⟩ => ?_
  subst he
  exact ⟨_, rfl, post_true (tb := 4) kidsA fullA (by rw [Tryz.params3]; decide) hAk (by simp) hW' hg rfl rfl rfl rfl (by kernel_rfl) Tryz.underlying4⟩

theorem t1 : Tryz.prog.funcNamed Rows.fairKnownRow.func = some 3 := by kernel_rfl
theorem t2 : joinedFacts Tryz.prog 3 Tryz.f3 Rows.fairKnownSpec Rows.fairKnownRow = true := by kernel_rfl
theorem t3 : Tryz.f3.isInstance Tryz.prog Rows.fairKnownRow.origin Rows.fairKnownRow.targs := of_decide_eq_true (by kernel_rfl)
theorem t4 : Tryz.f3.isWrapper Tryz.prog Rows.fairKnownRow.wrapper Rows.fairKnownRow.mainSum := by unfold Func.isWrapper; first | (rw [if_pos (by decide +kernel)]; kernel_rfl) | (rw [if_neg (by decide +kernel)]; exact ⟨rfl, rfl⟩)
theorem over : Rows.fairKnownRow.holds Tryz.pinned (OpenSpec.ofChange Rows.fairKnownSpec) :=
  OpenClaim.holds_of_wide 3 Tryz.f3 rfl rfl rfl rfl rfl rfl rfl ⟨rfl, rfl, rfl, rfl, rfl⟩ rfl rfl rfl rfl rfl t1 Tryz.func3 t2 t3 t4
    (fun os started H enc _ => lifted os started H enc)

/-- ████ THE STATEMENT ████ -/
theorem proved : Rows.FairKnownSaid :=
  over
#print axioms proved
end Go.Proofs.YtkjnjooggicgiaaGreat.fairKnown
