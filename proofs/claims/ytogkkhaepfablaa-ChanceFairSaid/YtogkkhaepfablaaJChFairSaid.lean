/- PROVED: the statement ChanceFair answers true at every input, and the input reads as it did: whatever number of 64 bits and whatever bound are handed in, the number leads to its remainder or is passed over, and numbers that are passed over are ErrFail. No condition beyond the types of the arguments. -/
import Derived.Test.YtogkkhaepfablaaRows
import Derived.WalkKit
import Derived.ProofKit
import Derived.OpenShut
import Derived.Test.YtogkkhaepfablaaK16
import Derived.Test.YtogkkhaepfablaaK17

namespace Go.Proofs.Ytogkkhaepfablaa.chanceFair
open Go.ChangeShapes Go.WideShapes Go.ChangeAt Go.RowKit
set_option linter.unusedVariables false

theorem own : ownKnob Try.prog.godebug = none := by kernel_rfl

/-! ### THE ROW's STEP: WRITTEN OUT: LEAVE IT -/
set_option maxRecDepth 100000 in
theorem lifted (os : Os) (started : os.Started) (H : Type) (enc : TypeId × Value → H) :
    ReturnsInHanded {} Try.checked os 4 .any (Rows.chanceFairSpec.pre6 enc Try.prog Try.f4 Rows.chanceFairRow.domain false) (Rows.chanceFairSpec.post enc Try.prog Try.f4 false true false false) := by
  refine returnsInHanded_of_change (C := Try.checked) own started (by kernel_rfl) Try.func4
    (ChangeSpec.witness6 (enc := enc) (C := Try.checked) false ⟨#[], #[.int .u64 0, .int .i64 0], []⟩ 8 (by kernel_rfl) (by kernel_rfl) (by kernel_rfl) (by kernel_rfl)) ?_
  intro W base args ds gs before hval0 hW hcnd _
  have hval : ∀ (j : Nat) t v, Try.f4.params[j]? = some t → args[j]? = some v → Value.okWide Try.prog W .any base t v := hval0
  have hW' := hW
  obtain ⟨p, q, hA0, hV, rfl, hfz, hnd⟩ := hW
  have hA : DataW.TrodAll enc Try.prog W 0 (fun _ => true) true Try.f4.params.toList args.toList ds p := hA0
  have hAk := hA
  rw [Try.params4] at hA hval
  obtain ⟨v0, vs0, d0, ds0, p0, q0, hargs, rfl, rfl, h0, r0⟩ := trodAll_cons hA
  obtain ⟨v1, vs1, d1, ds1, p1, q1, rfl, rfl, rfl, h1, r1⟩ := trodAll_cons r0
  obtain ⟨rfl, rfl, rfl⟩ := trodAll_nil r1
  obtain rfl : args = #[v0, v1] := by cases args; simp_all
  obtain ⟨rfl, rfl⟩ := trodVars_none hV
  obtain ⟨a0, rfl, rfl, rfl, w0⟩ := open_int Try.underlying22 (hval 0 22 v0 rfl rfl) h0
  obtain ⟨a1, rfl, rfl, rfl, w1⟩ := open_int Try.underlying3 (hval 1 3 v1 rfl rfl) h1
  clear hA0 hval0
  simp only [List.append_nil] at hW'
  refine (cFair_any a0 a1 W (wf_u64' w0).1 (wf_u64' w0).2).mono fun e W' ⟨he, hg⟩ => ?_
  subst he
  exact ⟨_, rfl, post_true (tb := 4) kidsA fullA (by rw [Try.params4]; decide) hAk (by simp) hW' hg rfl rfl rfl rfl (by kernel_rfl) Try.underlying4⟩

theorem t1 : Try.prog.funcNamed Rows.chanceFairRow.func = some 4 := by kernel_rfl
theorem t2 : joinedFacts Try.prog 4 Try.f4 Rows.chanceFairSpec Rows.chanceFairRow = true := by kernel_rfl
theorem t3 : Try.f4.isInstance Try.prog Rows.chanceFairRow.origin Rows.chanceFairRow.targs := of_decide_eq_true (by kernel_rfl)
theorem t4 : Try.f4.isWrapper Try.prog Rows.chanceFairRow.wrapper Rows.chanceFairRow.mainSum := by unfold Func.isWrapper; first | (rw [if_pos (by decide +kernel)]; kernel_rfl) | (rw [if_neg (by decide +kernel)]; exact ⟨rfl, rfl⟩)
theorem over : Rows.chanceFairRow.holds Try.pinned (OpenSpec.ofChange Rows.chanceFairSpec) :=
  OpenClaim.holds_of_wide 4 Try.f4 rfl rfl rfl rfl rfl rfl rfl ⟨rfl, rfl, rfl, rfl, rfl⟩ rfl rfl rfl rfl rfl t1 Try.func4 t2 t3 t4
    (fun os started H enc _ => lifted os started H enc)

/-- ████ THE STATEMENT ████ -/
theorem proved : Rows.ChanceFairSaid :=
  over
#print axioms proved
end Go.Proofs.Ytogkkhaepfablaa.chanceFair
