/- PROVED: the statement ChanceWides answers true at every input, and the input reads as it did: whatever state, drafted limit and number are handed in, a wide number is below its limit, and below a power of 2 it has the lowest digits of the next number. No condition beyond the types of the arguments. -/
import Derived.Test.YtogkkhaepfablaaGreatRows
import Derived.WalkKit
import Derived.ProofKit
import Derived.OpenShut
import Derived.Test.YtogkkhaepfablaaGreatK34

namespace Go.Proofs.YtogkkhaepfablaaGreat.chanceWides
open Go.ChangeShapes Go.WideShapes Go.ChangeAt Go.RowKit
set_option linter.unusedVariables false

theorem own : ownKnob Tryz.prog.godebug = none := by kernel_rfl

/-! ### THE ROW's STEP: WRITTEN OUT: LEAVE IT -/
set_option maxRecDepth 100000 in
theorem lifted (os : Os) (started : os.Started) (H : Type) (enc : TypeId × Value → H) :
    ReturnsInHanded {} Tryz.checked os 5 .any (Rows.chanceWidesSpec.pre6 enc Tryz.prog Tryz.f5 Rows.chanceWidesRow.domain false) (Rows.chanceWidesSpec.post enc Tryz.prog Tryz.f5 false true false false) := by
  refine returnsInHanded_of_change (C := Tryz.checked) own started (by kernel_rfl) Tryz.func5
    (ChangeSpec.witness6 (enc := enc) (C := Tryz.checked) false ⟨#[], #[.agg #[.int .u64 0], .agg #[.bool false, .slice none 0 0, .int .u32 0, .bool false, .slice none 0 0, .int .u32 0], .int .u8 0], []⟩ 8 (by kernel_rfl) (by kernel_rfl) (by kernel_rfl) (by kernel_rfl)) ?_
  intro W base args ds gs before hval0 hW hcnd _
  have hval : ∀ (j : Nat) t v, Tryz.f5.params[j]? = some t → args[j]? = some v → Value.okWide Tryz.prog W .any base t v := hval0
  have hW' := hW
  obtain ⟨p, q, hA0, hV, rfl, hfz, hnd⟩ := hW
  have hA : DataW.TrodAll enc Tryz.prog W 0 (fun _ => true) true Tryz.f5.params.toList args.toList ds p := hA0
  have hAk := hA
  rw [Tryz.params5] at hA hval
  obtain ⟨v0, vs0, d0, ds0, p0, q0, hargs, rfl, rfl, h0, r0⟩ := trodAll_cons hA
  obtain ⟨v1, vs1, d1, ds1, p1, q1, rfl, rfl, rfl, h1, r1⟩ := trodAll_cons r0
  obtain ⟨v2, vs2, d2, ds2, p2, q2, rfl, rfl, rfl, h2, r2⟩ := trodAll_cons r1
  obtain ⟨rfl, rfl, rfl⟩ := trodAll_nil r2
  obtain rfl : args = #[v0, v1, v2] := by cases args; simp_all
  obtain ⟨rfl, rfl⟩ := trodVars_none hV
  obtain ⟨a0, rfl, w0⟩ := open_chance (hval 0 24 v0 rfl rfl) h0
  obtain ⟨x10, x11, x12, x13, x14, x15, x16, x17, x18, x19, rfl, w1a, w1b⟩ := open_draft2 (hval 1 44 v1 rfl rfl) h1
  obtain ⟨a2, rfl, rfl, rfl, w2⟩ := open_int Tryz.underlying5 (hval 2 5 v2 rfl rfl) h2
  clear hA0 hval0
  simp only [List.append_nil] at hW'
  refine (cWides_any a0 a2 x10 x15 x11 x16 x12 x13 x17 x18 x14 x19 W (wf_u64' w0) w1a w1b (wf_u8d w2)).mono fun e W' ⟨he, hg⟩ => ?_
  subst he
  exact ⟨_, rfl, post_true (tb := 4) kidsA fullA (by rw [Tryz.params5]; decide) hAk (by simp) hW' hg rfl rfl rfl rfl (by kernel_rfl) Tryz.underlying4⟩

theorem t1 : Tryz.prog.funcNamed Rows.chanceWidesRow.func = some 5 := by kernel_rfl
theorem t2 : joinedFacts Tryz.prog 5 Tryz.f5 Rows.chanceWidesSpec Rows.chanceWidesRow = true := by kernel_rfl
theorem t3 : Tryz.f5.isInstance Tryz.prog Rows.chanceWidesRow.origin Rows.chanceWidesRow.targs := of_decide_eq_true (by kernel_rfl)
theorem t4 : Tryz.f5.isWrapper Tryz.prog Rows.chanceWidesRow.wrapper Rows.chanceWidesRow.mainSum := by unfold Func.isWrapper; first | (rw [if_pos (by decide +kernel)]; kernel_rfl) | (rw [if_neg (by decide +kernel)]; exact ⟨rfl, rfl⟩)
theorem over : Rows.chanceWidesRow.holds Tryz.pinned (OpenSpec.ofChange Rows.chanceWidesSpec) :=
  OpenClaim.holds_of_wide 5 Tryz.f5 rfl rfl rfl rfl rfl rfl rfl ⟨rfl, rfl, rfl, rfl, rfl⟩ rfl rfl rfl rfl rfl t1 Tryz.func5 t2 t3 t4
    (fun os started H enc _ => lifted os started H enc)

/-- ████ THE STATEMENT ████ -/
theorem proved : Rows.ChanceWidesSaid :=
  over
#print axioms proved
end Go.Proofs.YtogkkhaepfablaaGreat.chanceWides
