
/- PROVED: the statement RadicalRing answers true at every input, and the input reads as it did: whatever two drafts of radicals and whatever multiplier are handed in: sums do not depend on the order, multiples go with sums, what is made is valid and making it again changes nothing, a number less itself is nothing, and no step says an error. No condition beyond the types of the arguments. -/
import Derived.Test.YtegejfcfoanaoaaRows
import Derived.WalkKit
import Derived.ProofKit
import Derived.OpenShut
import Derived.Test.YtegejfcfoanaoaaRdZ
namespace Go.Proofs.Ytegejfcfoanaoaa.radicalRing
open Go.ChangeShapes Go.WideShapes Go.ChangeAt Go.RowKit
set_option linter.unusedVariables false

theorem own : ownKnob Try.prog.godebug = none := by kernel_rfl

/-! ### THE ROW's STEP: WRITTEN OUT: LEAVE IT -/
set_option maxRecDepth 100000 in
theorem lifted (os : Os) (started : os.Started) (H : Type) (enc : TypeId × Value → H) :
    ReturnsInHanded {} Try.checked os 3 .any (Rows.radicalRingSpec.pre6 enc Try.prog Try.f3 Rows.radicalRingRow.domain false) (Rows.radicalRingSpec.post enc Try.prog Try.f3 false true false false) := by
  refine returnsInHanded_of_change (C := Try.checked) own started (by kernel_rfl) Try.func3
    (ChangeSpec.witness6 (enc := enc) (C := Try.checked) false ⟨#[], #[.agg #[.slice none 0 0], .agg #[.slice none 0 0], .int .i8 0], []⟩ 8 (by kernel_rfl) (by kernel_rfl) (by kernel_rfl) (by kernel_rfl)) ?_
  intro W base args ds gs before hval0 hW hcnd _
  have hval : ∀ (j : Nat) t v, Try.f3.params[j]? = some t → args[j]? = some v → Value.okWide Try.prog W .any base t v := hval0
  have hW' := hW
  obtain ⟨p, q, hA0, hV, rfl, hfz, hnd⟩ := hW
  have hA : DataW.TrodAll enc Try.prog W 0 (fun _ => true) true Try.f3.params.toList args.toList ds p := hA0
  have hAk := hA
  rw [Try.params3] at hA hval
  obtain ⟨v0, vs0, d0, ds0, p0, q0, hargs, rfl, rfl, h0, r0⟩ := trodAll_cons hA
  obtain ⟨v1, vs1, d1, ds1, p1, q1, rfl, rfl, rfl, h1, r1⟩ := trodAll_cons r0
  obtain ⟨v2, vs2, d2, ds2, p2, q2, rfl, rfl, rfl, h2, r2⟩ := trodAll_cons r1
  obtain ⟨rfl, rfl, rfl⟩ := trodAll_nil r2
  obtain rfl : args = #[v0, v1, v2] := by cases args; simp_all
  obtain ⟨rfl, rfl⟩ := trodVars_none hV
  obtain ⟨x00, x01, x02, x03, rfl, w0r, w0i⟩ := open_rdraft (hval 0 24 v0 rfl rfl) h0
  obtain ⟨x10, x11, x12, x13, rfl, w1r, w1i⟩ := open_rdraft (hval 1 24 v1 rfl rfl) h1
  obtain ⟨a2, rfl, rfl, rfl, w2⟩ := open_int Try.underlying25 (hval 2 25 v2 rfl rfl) h2
  clear hA0 hval0
  simp only [List.append_nil] at hW'
  refine (ring_walk x00 x01 x02 x03 x10 x11 x12 x13 a2 W w0r w1r w0i w1i (wf_i8' w2).1 (wf_i8' w2).2).mono fun e W' ⟨he, hg⟩ => ?_
  subst he
  exact ⟨_, rfl, post_true (tb := 4) kidsA fullA (by rw [Try.params3]; decide) hAk (by simp) hW' hg rfl rfl rfl rfl (by kernel_rfl) Try.underlying4⟩

theorem t1 : Try.prog.funcNamed Rows.radicalRingRow.func = some 3 := by kernel_rfl
theorem t2 : joinedFacts Try.prog 3 Try.f3 Rows.radicalRingSpec Rows.radicalRingRow = true := by kernel_rfl
theorem t3 : Try.f3.isInstance Try.prog Rows.radicalRingRow.origin Rows.radicalRingRow.targs := of_decide_eq_true (by kernel_rfl)
theorem t4 : Try.f3.isWrapper Try.prog Rows.radicalRingRow.wrapper Rows.radicalRingRow.mainSum := by unfold Func.isWrapper; first | (rw [if_pos (by decide +kernel)]; kernel_rfl) | (rw [if_neg (by decide +kernel)]; exact ⟨rfl, rfl⟩)
theorem over : Rows.radicalRingRow.holds Try.pinned (OpenSpec.ofChange Rows.radicalRingSpec) :=
  OpenClaim.holds_of_wide 3 Try.f3 rfl rfl rfl rfl rfl rfl rfl ⟨rfl, rfl, rfl, rfl, rfl⟩ rfl rfl rfl rfl rfl t1 Try.func3 t2 t3 t4
    (fun os started H enc _ => lifted os started H enc)

/-- ████ THE STATEMENT ████ -/
theorem proved : Rows.RadicalRingSaid :=
  over
#print axioms proved
end Go.Proofs.Ytegejfcfoanaoaa.radicalRing
