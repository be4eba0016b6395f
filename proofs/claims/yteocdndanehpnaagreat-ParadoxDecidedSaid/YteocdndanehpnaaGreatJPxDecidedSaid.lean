/- PROVED: the statement ParadoxDecided answers true at every input, and the input reads as it did: a decided allocation is the award, which has no open seats; otherwise there is an error. No condition beyond the types of the arguments. -/
import Derived.Test.YteocdndanehpnaaGreatRows
import Derived.WalkKit
import Derived.ProofKit
import Derived.OpenShut
import Derived.Test.YteocdndanehpnaaGreatH54
namespace Go.Proofs.YteocdndanehpnaaGreat.paradoxDecided
open Go.ChangeShapes Go.WideShapes Go.ChangeAt Go.RowKit
set_option linter.unusedVariables false
theorem own : ownKnob Tryz.prog.godebug = none := by kernel_rfl
theorem walk (W : World) (v0 : Value) (hd : DraftIn W v0) (a1 : Int) (w1 : (Lit.int .u8 a1).wf = true) :
  Calls Tryz.prog 4 #[v0, .int .u8 a1] W (YesP W) := by
 obtain ⟨Ap, np, cp, ps, u, Al, nl, cl, ls, s, rfl, sp, hnp, hrp, u0, u1, sl, hnl, hrl, s0, s1⟩ := hd
 have h1 := wf_u8 w1
 exact pDecided_any Ap np cp ps u Al nl cl ls s a1 W sp hnp hrp u0 u1 sl hnl hrl s0 s1 h1.1 h1.2
set_option maxRecDepth 100000 in
theorem lifted (os : Os) (started : os.Started) (H : Type) (enc : TypeId × Value → H) :
  ReturnsInHanded {} Tryz.checked os 4 .any (Rows.paradoxDecidedSpec.pre6 enc Tryz.prog Tryz.f4 Rows.paradoxDecidedRow.domain false) (Rows.paradoxDecidedSpec.post enc Tryz.prog Tryz.f4 false true false false) := by
 refine returnsInHanded_of_change (C := Tryz.checked) own started (by kernel_rfl) Tryz.func4
  (ChangeSpec.witness6 (enc := enc) (C := Tryz.checked) false ⟨#[], #[.agg #[.slice none 0 0, .int .u8 0, .slice none 0 0, .int .u16 0], .int .u8 0], []⟩ 8 (by kernel_rfl) (by kernel_rfl) (by kernel_rfl) (by kernel_rfl)) ?_
 intro W base args ds gs before hval0 hW hcnd _
 have hval : ∀ (j : Nat) t v, Tryz.f4.params[j]? = some t → args[j]? = some v → Value.okWide Tryz.prog W .any base t v := hval0
 have hW' := hW
 obtain ⟨p, q, hA0, hV, rfl, hfz, hnd⟩ := hW
 have hA : DataW.TrodAll enc Tryz.prog W 0 (fun _ => true) true Tryz.f4.params.toList args.toList ds p := hA0
 have hAk := hA
 rw [Tryz.params4] at hA hval
 obtain ⟨v0, vs0, d0, ds0, p0, q0, hargs, rfl, rfl, h0, r0⟩ := trodAll_cons hA
 obtain ⟨v1, vs1, d1, ds1, p1, q1, rfl, rfl, rfl, h1, r1⟩ := trodAll_cons r0
 obtain ⟨rfl, rfl, rfl⟩ := trodAll_nil r1
 obtain rfl : args = #[v0, v1] := by cases args; simp_all
 obtain ⟨rfl, rfl⟩ := trodVars_none hV
 have hd := open_draft (hval 0 26 v0 rfl rfl) h0
 obtain ⟨a1, rfl, rfl, rfl, w1⟩ := open_int Tryz.underlying5 (hval 1 5 v1 rfl rfl) h1
 clear hA0 hval0
 simp only [List.append_nil] at hW'
 refine (walk W v0 hd a1 w1).mono fun e W' ⟨he, hg⟩ => ?_
 subst he
 exact ⟨_, rfl, post_true (tb := 4) kidsA fullA (by rw [Tryz.params4]; decide) hAk (by simp) hW' hg rfl rfl rfl rfl (by kernel_rfl) Tryz.underlying4⟩
theorem t1 : Tryz.prog.funcs[4]? = some Tryz.f4 := Tryz.func4
theorem over : Rows.paradoxDecidedRow.holds Tryz.pinned (OpenSpec.ofChange Rows.paradoxDecidedSpec) :=
 OpenClaim.holds_of_wide 4 Tryz.f4 rfl rfl rfl rfl rfl rfl rfl ⟨rfl, rfl, rfl, rfl, rfl⟩ rfl rfl rfl rfl rfl (by kernel_rfl) Tryz.func4 (by kernel_rfl)
  (of_decide_eq_true (by kernel_rfl)) (by unfold Func.isWrapper; first | (rw [if_pos (by decide +kernel)]; kernel_rfl) | (rw [if_neg (by decide +kernel)]; exact ⟨rfl, rfl⟩))
  (fun os started H enc _ => lifted os started H enc)
theorem proved : Rows.ParadoxDecidedSaid :=
 over
#print axioms proved
end Go.Proofs.YteocdndanehpnaaGreat.paradoxDecided
