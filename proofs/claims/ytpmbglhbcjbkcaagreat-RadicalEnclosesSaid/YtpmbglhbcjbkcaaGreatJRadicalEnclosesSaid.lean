/- PROVED: the statement RadicalEncloses answers true at every input, and the input reads as it did: whatever terms, whatever draft and whatever number of bits: Enclose answers as the reference does, both ends and the error. -/
import Derived.WalkKit
import Derived.ProofKit
import Derived.OpenShut
import Derived.Test.YtpmbglhbcjbkcaaGreatH53
import Derived.Test.YtpmbglhbcjbkcaaGreatH54
namespace Go.Proofs.YtpmbglhbcjbkcaaGreat.radicalEncloses
set_option maxHeartbeats 16000000
set_option maxRecDepth 100000
open Go.ChangeShapes Go.WideShapes Go.ChangeAt Go.RowKit
set_option linter.unusedVariables false
theorem own : ownKnob Tryz.prog.godebug = none := by kernel_rfl
theorem lifted (os : Os) (started : os.Started) (H : Type) (enc : TypeId × Value → H) :
  ReturnsInHanded {} Tryz.checked os 3 .any (Rows.radicalEnclosesSpec.pre6 enc Tryz.prog Tryz.f3 Rows.radicalEnclosesRow.domain false) (Rows.radicalEnclosesSpec.post enc Tryz.prog Tryz.f3 false true false false) := by
 refine returnsInHanded_of_change (C := Tryz.checked) own started (by kernel_rfl) Tryz.func3
  (ChangeSpec.witness6 (enc := enc) (C := Tryz.checked) false ⟨#[], #[.slice none 0 0, .agg #[.slice none 0 0], .int .i64 0], []⟩ 8 (by kernel_rfl) (by kernel_rfl) (by kernel_rfl) (by kernel_rfl)) ?_
 intro W base args ds gs before hval0 hW hcnd _
 have hval : ∀ (j : Nat) t v, Tryz.f3.params[j]? = some t → args[j]? = some v → Value.okWide Tryz.prog W .any base t v := hval0
 have hW' := hW
 obtain ⟨p, q, hA0, hV, rfl, hfz, hnd⟩ := hW
 have hA : DataW.TrodAll enc Tryz.prog W 0 (fun _ => true) true Tryz.f3.params.toList args.toList ds p := hA0
 have hAk := hA
 rw [Tryz.params3] at hA hval
 obtain ⟨v0, vs0, d0, ds0, p0, q0, hargs, rfl, rfl, h0, r0⟩ := trodAll_cons hA
 obtain ⟨v1, vs1, d1, ds1, p1, q1, rfl, rfl, rfl, h1, r1⟩ := trodAll_cons r0
 obtain ⟨v2, vs2, d2, ds2, p2, q2, rfl, rfl, rfl, h2, r2⟩ := trodAll_cons r1
 obtain ⟨rfl, rfl, rfl⟩ := trodAll_nil r2
 obtain rfl : args = #[v0, v1, v2] := by cases args; simp_all
 obtain ⟨rfl, rfl⟩ := trodVars_none hV
 obtain ⟨x00, x01, x02, x03, rfl, w0r, w0c⟩ := zjS (hval 0 22 v0 rfl rfl) h0
 obtain ⟨x10, x11, x12, x13, rfl, w1r, w1i⟩ := zhR (hval 1 25 v1 rfl rfl) h1
 obtain ⟨a2, rfl, rfl, rfl, w2⟩ := open_int Tryz.underlying3 (hval 2 3 v2 rfl rfl) h2
 clear hA0 hval0
 simp only [List.append_nil] at hW'
 refine (zgk x00 x01 x02 x03 x10 x11 x12 x13 a2 W w0r w0c w1r w1i).mono fun e W' ⟨he, hg⟩ => ?_
 subst he
 exact ⟨_, rfl, zlD (tb := 4) kidsA fullA (by rw [Tryz.params3]; decide) hAk (by simp) hW' hg rfl rfl rfl rfl (by kernel_rfl) Tryz.underlying4⟩
theorem t1 : Tryz.prog.funcNamed Rows.radicalEnclosesRow.func = some 3 := by kernel_rfl
theorem t2 : joinedFacts Tryz.prog 3 Tryz.f3 Rows.radicalEnclosesSpec Rows.radicalEnclosesRow = true := by kernel_rfl
theorem t3 : Tryz.f3.isInstance Tryz.prog Rows.radicalEnclosesRow.origin Rows.radicalEnclosesRow.targs := of_decide_eq_true (by kernel_rfl)
theorem t4 : Tryz.f3.isWrapper Tryz.prog Rows.radicalEnclosesRow.wrapper Rows.radicalEnclosesRow.mainSum := by unfold Func.isWrapper; first | (rw [if_pos (by decide +kernel)]; kernel_rfl) | (rw [if_neg (by decide +kernel)]; exact ⟨rfl, rfl⟩)
theorem over : Rows.radicalEnclosesRow.holds Tryz.pinned (OpenSpec.ofChange Rows.radicalEnclosesSpec) :=
 OpenClaim.holds_of_wide 3 Tryz.f3 rfl rfl rfl rfl rfl rfl rfl ⟨rfl, rfl, rfl, rfl, rfl⟩ rfl rfl rfl rfl rfl t1 Tryz.func3 t2 t3 t4
  (fun os started H enc _ => lifted os started H enc)
theorem proved : Rows.RadicalEnclosesSaid :=
 over
#print axioms proved
end Go.Proofs.YtpmbglhbcjbkcaaGreat.radicalEncloses
