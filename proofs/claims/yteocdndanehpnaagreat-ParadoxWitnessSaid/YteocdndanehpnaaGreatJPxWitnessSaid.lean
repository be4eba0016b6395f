/- PROVED: the statement ParadoxWitness answers true at every input, and the input reads as it did: what House returns is a loss (the region has fewer seats of the greater house), and what it does not return is none. No condition beyond the types of the arguments. -/
import Derived.Test.YteocdndanehpnaaGreatRows
import Derived.WalkKit
import Derived.ProofKit
import Derived.OpenShut
import Derived.Test.YteocdndanehpnaaGreatH54
namespace Go.Proofs.YteocdndanehpnaaGreat.paradoxWitness
open Go.ChangeShapes Go.WideShapes Go.ChangeAt Go.RowKit
set_option linter.unusedVariables false
theorem own : ownKnob Tryz.prog.godebug = none := by kernel_rfl
theorem walk (W : World) (v0 : Value) (hd : DraftIn W v0) (a1 : Int) (w1 : (Lit.int .u8 a1).wf = true) :
  Calls Tryz.prog 6 #[v0, .int .u8 a1] W (YesP W) := by
 obtain ⟨Ap, np, cp, ps, u, Al, nl, cl, ls, s, rfl, sp, hnp, hrp, u0, u1, sl, hnl, hrl, s0, s1⟩ := hd
 have h1 := wf_u8 w1
 exact pWitness_any Ap np cp ps u Al nl cl ls s a1 W sp hnp hrp u0 u1 sl hnl hrl s0 s1 h1.1 h1.2
set_option maxRecDepth 100000 in
theorem lifted (os : Os) (started : os.Started) (H : Type) (enc : TypeId × Value → H) :
  ReturnsInHanded {} Tryz.checked os 6 .any (Rows.paradoxWitnessSpec.pre6 enc Tryz.prog Tryz.f6 Rows.paradoxWitnessRow.domain false) (Rows.paradoxWitnessSpec.post enc Tryz.prog Tryz.f6 false true false false) := by
 refine returnsInHanded_of_change (C := Tryz.checked) own started (by kernel_rfl) Tryz.func6
  (ChangeSpec.witness6 (enc := enc) (C := Tryz.checked) false ⟨#[], #[.agg #[.slice none 0 0, .int .u8 0, .slice none 0 0, .int .u16 0], .int .u8 0], []⟩ 8 (by kernel_rfl) (by kernel_rfl) (by kernel_rfl) (by kernel_rfl)) ?_
 intro W base args ds gs before hval0 hW hcnd _
 have hval : ∀ (j : Nat) t v, Tryz.f6.params[j]? = some t → args[j]? = some v → Value.okWide Tryz.prog W .any base t v := hval0
 have hW' := hW
 obtain ⟨p, q, hA0, hV, rfl, hfz, hnd⟩ := hW
 have hA : DataW.TrodAll enc Tryz.prog W 0 (fun _ => true) true Tryz.f6.params.toList args.toList ds p := hA0
 have hAk := hA
 rw [Tryz.params6] at hA hval
 obtain ⟨v0, vs0, d0, ds0, p0, q0, hargs, rfl, rfl, h0, r0⟩ := trodAll_cons hA
 obtain ⟨v1, vs1, d1, ds1, p1, q1, rfl, rfl, rfl, h1, r1⟩ := trodAll_cons r0
 obtain ⟨rfl, rfl, rfl⟩ := trodAll_nil r1
 obtain rfl : args = #[v0, v1] := by cases args; simp_all
 obtain ⟨rfl, rfl⟩ := trodVars_none hV
 have hd := open_draft (hval 0 26 v0 rfl rfl) h0
 obtain ⟨a1, rfl, rfl, rfl, w1⟩ := open_int Tryz.underlying5 (hval 1 5 v1 rfl rfl) h1
 clear hA0 hval0
 simp only [List.append_nil] at hW'
 refine (walk W v0 hd a1 w1).mono fun e W' ⟨he, hg⟩ => ?_
 subst he
 exact ⟨_, rfl, post_true (tb := 4) kidsA fullA (by rw [Tryz.params6]; decide) hAk (by simp) hW' hg rfl rfl rfl rfl (by kernel_rfl) Tryz.underlying4⟩
theorem t1 : Tryz.prog.funcs[6]? = some Tryz.f6 := Tryz.func6
theorem over : Rows.paradoxWitnessRow.holds Tryz.pinned (OpenSpec.ofChange Rows.paradoxWitnessSpec) :=
 OpenClaim.holds_of_wide 6 Tryz.f6 rfl rfl rfl rfl rfl rfl rfl ⟨rfl, rfl, rfl, rfl, rfl⟩ rfl rfl rfl rfl rfl (by kernel_rfl) Tryz.func6 (by kernel_rfl)
  (of_decide_eq_true (by kernel_rfl)) (by unfold Func.isWrapper; first | (rw [if_pos (by decide +kernel)]; kernel_rfl) | (rw [if_neg (by decide +kernel)]; exact ⟨rfl, rfl⟩))
  (fun os started H enc _ => lifted os started H enc)
theorem proved : Rows.ParadoxWitnessSaid :=
 over
#print axioms proved
end Go.Proofs.YteocdndanehpnaaGreat.paradoxWitness
