/- PROVED: the statement RadicalMakes answers true at every input, and the input reads as it did: whatever terms, whatever two drafts and whatever the flag: Make, Check and Same answer as the reference does for the terms, for up to 401 of them, for the drafted radical and for both together. -/
import Derived.Test.YtakhiomcneikkaaGreatRows
import Derived.WalkKit
import Derived.ProofKit
import Derived.OpenShut
import Derived.Test.YtakhiomcneikkaaGreatH53
import Derived.Test.YtakhiomcneikkaaGreatH54
namespace Go.Proofs.YtakhiomcneikkaaGreat.radicalMakes
open Go.ChangeShapes Go.WideShapes Go.ChangeAt Go.RowKit
set_option linter.unusedVariables false
theorem own : ownKnob Tryz.prog.godebug = none := by kernel_rfl
set_option maxRecDepth 100000 in
theorem lifted (os : Os) (started : os.Started) (H : Type) (enc : TypeId × Value → H) :
  ReturnsInHanded {} Tryz.checked os 3 .any (Rows.radicalMakesSpec.pre6 enc Tryz.prog Tryz.f3 Rows.radicalMakesRow.domain false) (Rows.radicalMakesSpec.post enc Tryz.prog Tryz.f3 false true false false) := by
 refine returnsInHanded_of_change (C := Tryz.checked) own started (by kernel_rfl) Tryz.func3
  (ChangeSpec.witness6 (enc := enc) (C := Tryz.checked) false ⟨#[], #[.slice none 0 0, .agg #[.slice none 0 0], .agg #[.slice none 0 0], .bool false], []⟩ 8 (by kernel_rfl) (by kernel_rfl) (by kernel_rfl) (by kernel_rfl)) ?_
 intro W base args ds gs before hval0 hW hcnd _
 have hval : ∀ (j : Nat) t v, Tryz.f3.params[j]? = some t → args[j]? = some v → Value.okWide Tryz.prog W .any base t v := hval0
 have hW' := hW
 obtain ⟨p, q, hA0, hV, rfl, hfz, hnd⟩ := hW
 have hA : DataW.TrodAll enc Tryz.prog W 0 (fun _ => true) true Tryz.f3.params.toList args.toList ds p := hA0
 have hAk := hA
 rw [Tryz.params3] at hA hval
 obtain ⟨v0, vs0, d0, ds0, p0, q0, hargs, rfl, rfl, h0, r0⟩ := trodAll_cons hA
 obtain ⟨v1, vs1, d1, ds1, p1, q1, rfl, rfl, rfl, h1, r1⟩ := trodAll_cons r0
 obtain ⟨v2, vs2, d2, ds2, p2, q2, rfl, rfl, rfl, h2, r2⟩ := trodAll_cons r1
 obtain ⟨v3, vs3, d3, ds3, p3, q3, rfl, rfl, rfl, h3, r3⟩ := trodAll_cons r2
 obtain ⟨rfl, rfl, rfl⟩ := trodAll_nil r3
 obtain rfl : args = #[v0, v1, v2, v3] := by cases args; simp_all
 obtain ⟨rfl, rfl⟩ := trodVars_none hV
 obtain ⟨x00, x01, x02, x03, rfl, w0r, w0c⟩ := open_terms (hval 0 22 v0 rfl rfl) h0
 obtain ⟨x10, x11, x12, x13, rfl, w1r, w1i⟩ := open_rdraft (hval 1 25 v1 rfl rfl) h1
 obtain ⟨x20, x21, x22, x23, rfl, w2r, w2i⟩ := open_rdraft (hval 2 25 v2 rfl rfl) h2
 obtain ⟨a3, rfl⟩ := okWide_bool Tryz.underlying4 (hval 3 4 v3 rfl rfl)
 clear hA0 hval0
 simp only [List.append_nil] at hW'
 refine (makes_walk x00 x01 x02 x03 x10 x11 x12 x13 x20 x21 x22 x23 a3 W w0r w0c w1r w2r w1i w2i).mono fun e W' ⟨he, hg⟩ => ?_
 subst he
 exact ⟨_, rfl, post_true (tb := 4) kidsA fullA (by rw [Tryz.params3]; decide) hAk (by simp) hW' hg rfl rfl rfl rfl (by kernel_rfl) Tryz.underlying4⟩
theorem t1 : Tryz.prog.funcNamed Rows.radicalMakesRow.func = some 3 := by kernel_rfl
theorem t2 : joinedFacts Tryz.prog 3 Tryz.f3 Rows.radicalMakesSpec Rows.radicalMakesRow = true := by kernel_rfl
theorem t3 : Tryz.f3.isInstance Tryz.prog Rows.radicalMakesRow.origin Rows.radicalMakesRow.targs := of_decide_eq_true (by kernel_rfl)
theorem t4 : Tryz.f3.isWrapper Tryz.prog Rows.radicalMakesRow.wrapper Rows.radicalMakesRow.mainSum := by unfold Func.isWrapper; first | (rw [if_pos (by decide +kernel)]; kernel_rfl) | (rw [if_neg (by decide +kernel)]; exact ⟨rfl, rfl⟩)
theorem over : Rows.radicalMakesRow.holds Tryz.pinned (OpenSpec.ofChange Rows.radicalMakesSpec) :=
 OpenClaim.holds_of_wide 3 Tryz.f3 rfl rfl rfl rfl rfl rfl rfl ⟨rfl, rfl, rfl, rfl, rfl⟩ rfl rfl rfl rfl rfl t1 Tryz.func3 t2 t3 t4
  (fun os started H enc _ => lifted os started H enc)
theorem proved : Rows.RadicalMakesSaid :=
 over
#print axioms proved
end Go.Proofs.YtakhiomcneikkaaGreat.radicalMakes
