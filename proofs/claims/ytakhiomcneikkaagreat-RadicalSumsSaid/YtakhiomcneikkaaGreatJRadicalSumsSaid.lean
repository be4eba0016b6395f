/- PROVED: the statement RadicalSums answers true at every input, and the input reads as it did: whatever terms, whatever two drafts, whatever integer and whatever two points: Add, Scale and Length answer as the reference does. -/
import Derived.WalkKit
import Derived.ProofKit
import Derived.OpenShut
import Derived.Test.YtakhiomcneikkaaGreatH53
import Derived.Test.YtakhiomcneikkaaGreatH54
namespace Go.Proofs.YtakhiomcneikkaaGreat.radicalSums
open Go.ChangeShapes Go.WideShapes Go.ChangeAt Go.RowKit
set_option linter.unusedVariables false
theorem own : ownKnob Tryz.prog.godebug = none := by kernel_rfl
set_option maxRecDepth 100000 in
theorem lifted (os : Os) (started : os.Started) (H : Type) (enc : TypeId × Value → H) :
  ReturnsInHanded {} Tryz.checked os 4 .any (Rows.radicalSumsSpec.pre6 enc Tryz.prog Tryz.f4 Rows.radicalSumsRow.domain false) (Rows.radicalSumsSpec.post enc Tryz.prog Tryz.f4 false true false false) := by
 refine returnsInHanded_of_change (C := Tryz.checked) own started (by kernel_rfl) Tryz.func4
  (ChangeSpec.witness6 (enc := enc) (C := Tryz.checked) false ⟨#[], #[.slice none 0 0, .agg #[.slice none 0 0], .agg #[.slice none 0 0], .int .i64 0, .agg #[.int .i64 0, .int .i64 0], .agg #[.int .i64 0, .int .i64 0]], []⟩ 8 (by kernel_rfl) (by kernel_rfl) (by kernel_rfl) (by kernel_rfl)) ?_
 intro W base args ds gs before hval0 hW hcnd _
 have hval : ∀ (j : Nat) t v, Tryz.f4.params[j]? = some t → args[j]? = some v → Value.okWide Tryz.prog W .any base t v := hval0
 have hW' := hW
 obtain ⟨p, q, hA0, hV, rfl, hfz, hnd⟩ := hW
 have hA : DataW.TrodAll enc Tryz.prog W 0 (fun _ => true) true Tryz.f4.params.toList args.toList ds p := hA0
 have hAk := hA
 rw [Tryz.params4] at hA hval
 obtain ⟨v0, vs0, d0, ds0, p0, q0, hargs, rfl, rfl, h0, r0⟩ := trodAll_cons hA
 obtain ⟨v1, vs1, d1, ds1, p1, q1, rfl, rfl, rfl, h1, r1⟩ := trodAll_cons r0
 obtain ⟨v2, vs2, d2, ds2, p2, q2, rfl, rfl, rfl, h2, r2⟩ := trodAll_cons r1
 obtain ⟨v3, vs3, d3, ds3, p3, q3, rfl, rfl, rfl, h3, r3⟩ := trodAll_cons r2
 obtain ⟨v4, vs4, d4, ds4, p4, q4, rfl, rfl, rfl, h4, r4⟩ := trodAll_cons r3
 obtain ⟨v5, vs5, d5, ds5, p5, q5, rfl, rfl, rfl, h5, r5⟩ := trodAll_cons r4
 obtain ⟨rfl, rfl, rfl⟩ := trodAll_nil r5
 obtain rfl : args = #[v0, v1, v2, v3, v4, v5] := by cases args; simp_all
 obtain ⟨rfl, rfl⟩ := trodVars_none hV
 obtain ⟨x00, x01, x02, x03, rfl, w0r, w0c⟩ := open_terms (hval 0 22 v0 rfl rfl) h0
 obtain ⟨x10, x11, x12, x13, rfl, w1r, w1i⟩ := open_rdraft (hval 1 25 v1 rfl rfl) h1
 obtain ⟨x20, x21, x22, x23, rfl, w2r, w2i⟩ := open_rdraft (hval 2 25 v2 rfl rfl) h2
 obtain ⟨a3, rfl, rfl, rfl, w3⟩ := open_int Tryz.underlying3 (hval 3 3 v3 rfl rfl) h3
 obtain ⟨x40, x41, rfl, w4a, w4b⟩ := open_point (hval 4 38 v4 rfl rfl) h4
 obtain ⟨x50, x51, rfl, w5a, w5b⟩ := open_point (hval 5 38 v5 rfl rfl) h5
 clear hA0 hval0
 simp only [List.append_nil] at hW'
 refine (sums_walk x00 x01 x02 x03 x10 x11 x12 x13 x20 x21 x22 x23 a3 x40 x41 x50 x51 W w0r w0c w1r w2r w1i w2i (wf_i64p w3) w4a w4b w5a w5b).mono fun e W' ⟨he, hg⟩ => ?_
 subst he
 exact ⟨_, rfl, post_true (tb := 4) kidsA fullA (by rw [Tryz.params4]; decide) hAk (by simp) hW' hg rfl rfl rfl rfl (by kernel_rfl) Tryz.underlying4⟩
theorem t1 : Tryz.prog.funcNamed Rows.radicalSumsRow.func = some 4 := by kernel_rfl
theorem t2 : joinedFacts Tryz.prog 4 Tryz.f4 Rows.radicalSumsSpec Rows.radicalSumsRow = true := by kernel_rfl
theorem t3 : Tryz.f4.isInstance Tryz.prog Rows.radicalSumsRow.origin Rows.radicalSumsRow.targs := of_decide_eq_true (by kernel_rfl)
theorem t4 : Tryz.f4.isWrapper Tryz.prog Rows.radicalSumsRow.wrapper Rows.radicalSumsRow.mainSum := by unfold Func.isWrapper; first | (rw [if_pos (by decide +kernel)]; kernel_rfl) | (rw [if_neg (by decide +kernel)]; exact ⟨rfl, rfl⟩)
theorem over : Rows.radicalSumsRow.holds Tryz.pinned (OpenSpec.ofChange Rows.radicalSumsSpec) :=
 OpenClaim.holds_of_wide 4 Tryz.f4 rfl rfl rfl rfl rfl rfl rfl ⟨rfl, rfl, rfl, rfl, rfl⟩ rfl rfl rfl rfl rfl t1 Tryz.func4 t2 t3 t4
  (fun os started H enc _ => lifted os started H enc)
theorem proved : Rows.RadicalSumsSaid :=
 over
#print axioms proved
end Go.Proofs.YtakhiomcneikkaaGreat.radicalSums
