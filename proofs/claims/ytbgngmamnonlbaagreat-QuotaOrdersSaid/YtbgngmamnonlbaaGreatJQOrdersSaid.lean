/- PROVED: the statement QuotaOrders answers true at every input, and the input reads as it did: the award of the turned census is the turned award; a region with at least as many people as another one, and no smaller minimum, has no fewer sure seats. No condition beyond the types of the arguments. -/
import Derived.Test.YtbgngmamnonlbaaGreatRows
import Derived.WalkKit
import Derived.ProofKit
import Derived.OpenShut
import Derived.Test.YtbgngmamnonlbaaGreatH52
namespace Go.Proofs.YtbgngmamnonlbaaGreat.quotaOrders
open Go.ChangeShapes Go.WideShapes Go.ChangeAt Go.RowKit
set_option linter.unusedVariables false
theorem own : ownKnob Tryz.prog.godebug = none := by kernel_rfl
theorem walk (W : World) (v0 : Value) (hd : DraftIn W v0) (a1 a2 : Int) (w1 : (Lit.int .u8 a1).wf = true) (w2 : (Lit.int .u8 a2).wf = true) :
  Calls Tryz.prog 10 #[v0, .int .u8 a1, .int .u8 a2] W (Yes6 W) := by
 obtain ⟨Ap, np, cp, ps, u, Al, nl, cl, ls, s, rfl, sp, hnp, hrp, u0, u1, sl, hnl, hrl, s0, s1⟩ := hd
 have h1 := wf_u8 w1
 have h2 := wf_u8 w2
 exact qOrders_any Ap np cp ps u Al nl cl ls s a1 a2 W sp hnp hrp u0 u1 sl hnl hrl s0 s1 h1.1 h1.2 h2.1 h2.2
set_option maxRecDepth 100000 in
theorem lifted (os : Os) (started : os.Started) (H : Type) (enc : TypeId × Value → H) :
  ReturnsInHanded {} Tryz.checked os 10 .any (Rows.quotaOrdersSpec.pre6 enc Tryz.prog Tryz.f10 Rows.quotaOrdersRow.domain false) (Rows.quotaOrdersSpec.post enc Tryz.prog Tryz.f10 false true false false) := by
 refine returnsInHanded_of_change (C := Tryz.checked) own started (by kernel_rfl) Tryz.func10
  (ChangeSpec.witness6 (enc := enc) (C := Tryz.checked) false ⟨#[], #[.agg #[.slice none 0 0, .int .u8 0, .slice none 0 0, .int .u16 0], .int .u8 0, .int .u8 0], []⟩ 8 (by kernel_rfl) (by kernel_rfl) (by kernel_rfl) (by kernel_rfl)) ?_
 intro W base args ds gs before hval0 hW hcnd _
 have hval : ∀ (j : Nat) t v, Tryz.f10.params[j]? = some t → args[j]? = some v → Value.okWide Tryz.prog W .any base t v := hval0
 have hW' := hW
 obtain ⟨p, q, hA0, hV, rfl, hfz, hnd⟩ := hW
 have hA : DataW.TrodAll enc Tryz.prog W 0 (fun _ => true) true Tryz.f10.params.toList args.toList ds p := hA0
 have hAk := hA
 rw [Tryz.params10] at hA hval
 obtain ⟨v0, vs0, d0, ds0, p0, q0, hargs, rfl, rfl, h0, r0⟩ := trodAll_cons hA
 obtain ⟨v1, vs1, d1, ds1, p1, q1, rfl, rfl, rfl, h1, r1⟩ := trodAll_cons r0
 obtain ⟨v2, vs2, d2, ds2, p2, q2, rfl, rfl, rfl, h2, r2⟩ := trodAll_cons r1
 obtain ⟨rfl, rfl, rfl⟩ := trodAll_nil r2
 obtain rfl : args = #[v0, v1, v2] := by cases args; simp_all
 obtain ⟨rfl, rfl⟩ := trodVars_none hV
 have hd := open_draft (hval 0 26 v0 rfl rfl) h0
 obtain ⟨a1, rfl, rfl, rfl, w1⟩ := open_int Tryz.underlying5 (hval 1 5 v1 rfl rfl) h1
 obtain ⟨a2, rfl, rfl, rfl, w2⟩ := open_int Tryz.underlying5 (hval 2 5 v2 rfl rfl) h2
 clear hA0 hval0
 simp only [List.append_nil] at hW'
 refine (walk W v0 hd a1 a2 w1 w2).mono fun e W' ⟨he, hg⟩ => ?_
 subst he
 exact ⟨_, rfl, post_true (tb := 4) kidsA fullA (by rw [Tryz.params10]; decide) hAk (by simp) hW' hg rfl rfl rfl rfl (by kernel_rfl) Tryz.underlying4⟩
theorem t1 : Tryz.prog.funcs[10]? = some Tryz.f10 := Tryz.func10
theorem over : Rows.quotaOrdersRow.holds Tryz.pinned (OpenSpec.ofChange Rows.quotaOrdersSpec) :=
 OpenClaim.holds_of_wide 10 Tryz.f10 rfl rfl rfl rfl rfl rfl rfl ⟨rfl, rfl, rfl, rfl, rfl⟩ rfl rfl rfl rfl rfl (by kernel_rfl) Tryz.func10 (by kernel_rfl)
  (of_decide_eq_true (by kernel_rfl)) (by unfold Func.isWrapper; first | (rw [if_pos (by decide +kernel)]; kernel_rfl) | (rw [if_neg (by decide +kernel)]; exact ⟨rfl, rfl⟩))
  (fun os started H enc _ => lifted os started H enc)
theorem proved : Rows.QuotaOrdersSaid :=
 over
#print axioms proved
end Go.Proofs.YtbgngmamnonlbaaGreat.quotaOrders
