/- PROVED: the statement ChancePicks answers true at every input, and the input reads as it did: whatever state, weights, share and draft are handed in, Pick and Coin return what the reference does. No condition beyond the types of the arguments. -/
import Derived.Test.YtogkkhaepfablaaGreatRows
import Derived.WalkKit
import Derived.ProofKit
import Derived.OpenShut
import Derived.Test.YtogkkhaepfablaaGreatK45
import Derived.Test.YtogkkhaepfablaaGreatK35
namespace Go.Proofs.YtogkkhaepfablaaGreat.chancePicks
open Go.ChangeShapes Go.WideShapes Go.ChangeAt Go.RowKit
set_option linter.unusedVariables false
theorem own : ownKnob Tryz.prog.godebug = none := by kernel_rfl
set_option maxRecDepth 100000 in
theorem lifted (os : Os) (started : os.Started) (H : Type) (enc : TypeId × Value → H) :
  ReturnsInHanded {} Tryz.checked os 6 .any (Rows.chancePicksSpec.pre6 enc Tryz.prog Tryz.f6 Rows.chancePicksRow.domain false) (Rows.chancePicksSpec.post enc Tryz.prog Tryz.f6 false true false false) := by
 refine returnsInHanded_of_change (C := Tryz.checked) own started (by kernel_rfl) Tryz.func6
  (ChangeSpec.witness6 (enc := enc) (C := Tryz.checked) false ⟨#[], #[.agg #[.int .u64 0], .slice none 0 0, .slice none 0 0, .agg #[.int .u64 0, .int .u64 0, .int .u64 0, .int .u64 0, .int .u64 0, .int .u64 0, .int .u64 0, .int .u64 0, .int .u64 0, .int .u64 0, .int .u64 0, .int .u64 0, .int .u64 0, .int .u64 0, .int .u64 0, .int .u64 0], .agg #[.bool false, .slice none 0 0, .int .u32 0, .bool false, .slice none 0 0, .int .u32 0], .bool false], []⟩ 8 (by kernel_rfl) (by kernel_rfl) (by kernel_rfl) (by kernel_rfl)) ?_
 intro W base args ds gs before hval0 hW hcnd _
 have hval : ∀ (j : Nat) t v, Tryz.f6.params[j]? = some t → args[j]? = some v → Value.okWide Tryz.prog W .any base t v := hval0
 have hW' := hW
 obtain ⟨p, q, hA0, hV, rfl, hfz, hnd⟩ := hW
 have hA : DataW.TrodAll enc Tryz.prog W 0 (fun _ => true) true Tryz.f6.params.toList args.toList ds p := hA0
 have hAk := hA
 rw [Tryz.params6] at hA hval
 obtain ⟨v0, vs0, d0, ds0, p0, q0, hargs, rfl, rfl, h0, r0⟩ := trodAll_cons hA
 obtain ⟨v1, vs1, d1, ds1, p1, q1, rfl, rfl, rfl, h1, r1⟩ := trodAll_cons r0
 obtain ⟨v2, vs2, d2, ds2, p2, q2, rfl, rfl, rfl, h2, r2⟩ := trodAll_cons r1
 obtain ⟨v3, vs3, d3, ds3, p3, q3, rfl, rfl, rfl, h3, r3⟩ := trodAll_cons r2
 obtain ⟨v4, vs4, d4, ds4, p4, q4, rfl, rfl, rfl, h4, r4⟩ := trodAll_cons r3
 obtain ⟨v5, vs5, d5, ds5, p5, q5, rfl, rfl, rfl, h5, r5⟩ := trodAll_cons r4
 obtain ⟨rfl, rfl, rfl⟩ := trodAll_nil r5
 obtain rfl : args = #[v0, v1, v2, v3, v4, v5] := by cases args; simp_all
 obtain ⟨rfl, rfl⟩ := trodVars_none hV
 obtain ⟨a0, rfl, w0⟩ := open_chance (hval 0 24 v0 rfl rfl) h0
 obtain ⟨x10, x11, x12, x13, rfl, w1, w1k, w1c⟩ := open_wides (hval 1 45 v1 rfl rfl) h1
 obtain ⟨x20, x21, x22, x23, rfl, w2, w2c, w2n, w2w⟩ := open_sl Tryz.underlying27 Tryz.underlying46 (by kernel_rfl) (hval 2 27 v2 rfl rfl) h2
 obtain ⟨x30, x31, rfl, w3a, w3b⟩ := open_share (hval 3 53 v3 rfl rfl) h3
 obtain ⟨x40, x41, x42, x43, x44, x45, x46, x47, x48, x49, rfl, w4a, w4b⟩ := open_draft2 (hval 4 44 v4 rfl rfl) h4
 obtain ⟨a5, rfl⟩ := okWide_bool Tryz.underlying4 (hval 5 4 v5 rfl rfl)
 clear hA0 hval0
 simp only [List.append_nil] at hW'
 refine (cPicks_any a0 x10 x11 x12 x13 x20 x21 x22 x23 x30 x31 x40 x45 x41 x46 x42 x43 x47 x48 x44 x49 a5 W (wf_u64' w0) w1 w1k w1c w2 w2c (fun x h => wf_u16d (w2w x h)) w3a w3b w4a w4b).mono fun e W' ⟨he, hg⟩ => ?_
 subst he
 exact ⟨_, rfl, post_true (tb := 4) kidsA fullA (by rw [Tryz.params6]; decide) hAk (by simp) hW' hg rfl rfl rfl rfl (by kernel_rfl) Tryz.underlying4⟩
theorem t1 : Tryz.prog.funcNamed Rows.chancePicksRow.func = some 6 := by kernel_rfl
theorem t2 : joinedFacts Tryz.prog 6 Tryz.f6 Rows.chancePicksSpec Rows.chancePicksRow = true := by kernel_rfl
theorem t3 : Tryz.f6.isInstance Tryz.prog Rows.chancePicksRow.origin Rows.chancePicksRow.targs := of_decide_eq_true (by kernel_rfl)
theorem t4 : Tryz.f6.isWrapper Tryz.prog Rows.chancePicksRow.wrapper Rows.chancePicksRow.mainSum := by unfold Func.isWrapper; first | (rw [if_pos (by decide +kernel)]; kernel_rfl) | (rw [if_neg (by decide +kernel)]; exact ⟨rfl, rfl⟩)
theorem over : Rows.chancePicksRow.holds Tryz.pinned (OpenSpec.ofChange Rows.chancePicksSpec) :=
 OpenClaim.holds_of_wide 6 Tryz.f6 rfl rfl rfl rfl rfl rfl rfl ⟨rfl, rfl, rfl, rfl, rfl⟩ rfl rfl rfl rfl rfl t1 Tryz.func6 t2 t3 t4
  (fun os started H enc _ => lifted os started H enc)
theorem proved : Rows.ChancePicksSaid :=
 over
#print axioms proved
end Go.Proofs.YtogkkhaepfablaaGreat.chancePicks
