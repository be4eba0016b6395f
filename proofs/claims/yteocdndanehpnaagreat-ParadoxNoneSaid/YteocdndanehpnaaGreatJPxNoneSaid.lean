/- PROVED: the statement ParadoxNone answers true at every input, and the input reads as it did: methods of divisors know no loss by growth of the house, no loss by growth of people, and no change of seats by arrival beyond what the law counts. No condition beyond the types of the arguments. -/
import Derived.Test.YteocdndanehpnaaGreatRows
import Derived.WalkKit
import Derived.ProofKit
import Derived.OpenShut
import Derived.Test.YteocdndanehpnaaGreatH54
namespace Go.Proofs.YteocdndanehpnaaGreat.paradoxNone
open Go.ChangeShapes Go.WideShapes Go.ChangeAt Go.RowKit
set_option linter.unusedVariables false
theorem own : ownKnob Tryz.prog.godebug = none := by kernel_rfl
theorem cellI8 : Tryz.prog.cellsOf 65 = 1 := by kernel_rfl
theorem wf_i8 {a : Int} (h : (Lit.int .i8 a).wf = true) : -128 ≤ a ∧ a ≤ 127 := by
 have e1 : IntKind.i8.min = -128 := by decide
 have e2 : IntKind.i8.max = 127 := by decide
 simp [Lit.wf, e1, e2] at h
 omega
theorem walk (W : World) (v0 : Value) (hd : DraftIn W v0) (Ab : Option Addr) (nb cb : Nat) (bs : List Int) (sb : Sl W .i8 Ab nb bs) (hnb : nb ≤ 9223372036854775807) (hbr : ∀ x ∈ bs, (Lit.int .i8 x).wf = true) (a2 a3 a4 : Int) (w2 : (Lit.int .u8 a2).wf = true) (w3 : (Lit.int .u16 a3).wf = true) (w4 : (Lit.int .u8 a4).wf = true) :
  Calls Tryz.prog 3 #[v0, .slice Ab nb cb, .int .u8 a2, .int .u16 a3, .int .u8 a4] W (YesP W) := by
 obtain ⟨Ap, np, cp, ps, u, Al, nl, cl, ls, s, rfl, sp, hnp, hrp, u0, u1, sl, hnl, hrl, s0, s1⟩ := hd
 have h2 := wf_u8 w2
 have h3 := wf_u16 w3
 have h4 := wf_u8 w4
 exact pNone_any Ap np cp ps u Al nl cl ls s a2 a3 a4 Ab nb cb bs W sp hnp hrp u0 u1 sl hnl hrl s0 s1 h2.1 h2.2 h3.1 h3.2 h4.1 h4.2 sb hnb (fun x hx => wf_i8 (hbr x hx))
set_option maxRecDepth 100000 in
theorem lifted (os : Os) (started : os.Started) (H : Type) (enc : TypeId × Value → H) :
  ReturnsInHanded {} Tryz.checked os 3 .any (Rows.paradoxNoneSpec.pre6 enc Tryz.prog Tryz.f3 Rows.paradoxNoneRow.domain false) (Rows.paradoxNoneSpec.post enc Tryz.prog Tryz.f3 false true false false) := by
 refine returnsInHanded_of_change (C := Tryz.checked) own started (by kernel_rfl) Tryz.func3
  (ChangeSpec.witness6 (enc := enc) (C := Tryz.checked) false ⟨#[], #[.agg #[.slice none 0 0, .int .u8 0, .slice none 0 0, .int .u16 0], .slice none 0 0, .int .u8 0, .int .u16 0, .int .u8 0], []⟩ 8 (by kernel_rfl) (by kernel_rfl) (by kernel_rfl) (by kernel_rfl)) ?_
 intro W base args ds gs before hval0 hW hcnd _
 have hval : ∀ (j : Nat) t v, Tryz.f3.params[j]? = some t → args[j]? = some v → Value.okWide Tryz.prog W .any base t v := hval0
 have hW' := hW
 obtain ⟨p, q, hA0, hV, rfl, hfz, hnd⟩ := hW
 have hA : DataW.TrodAll enc Tryz.prog W 0 (fun _ => true) true Tryz.f3.params.toList args.toList ds p := hA0
 have hAk := hA
 rw [Tryz.params3] at hA hval
 obtain ⟨v0, vs0, d0, ds0, p0, q0, hargs, rfl, rfl, h0, r0⟩ := trodAll_cons hA
 obtain ⟨v1, vs1, d1, ds1, p1, q1, rfl, rfl, rfl, h1, r1⟩ := trodAll_cons r0
 obtain ⟨v2, vs2, d2, ds2, p2, q2, rfl, rfl, rfl, h2, r2⟩ := trodAll_cons r1
 obtain ⟨v3, vs3, d3, ds3, p3, q3, rfl, rfl, rfl, h3, r3⟩ := trodAll_cons r2
 obtain ⟨v4, vs4, d4, ds4, p4, q4, rfl, rfl, rfl, h4, r4⟩ := trodAll_cons r3
 obtain ⟨rfl, rfl, rfl⟩ := trodAll_nil r4
 obtain rfl : args = #[v0, v1, v2, v3, v4] := by cases args; simp_all
 obtain ⟨rfl, rfl⟩ := trodVars_none hV
 have hd := open_draft (hval 0 26 v0 rfl rfl) h0
 obtain ⟨Ab, nb, cb, bs, rfl, sb, _, hnb, hbr⟩ := open_sl Tryz.underlying27 Tryz.underlying65 cellI8 (hval 1 27 v1 rfl rfl) h1
 obtain ⟨a2, rfl, rfl, rfl, w2⟩ := open_int Tryz.underlying5 (hval 2 5 v2 rfl rfl) h2
 obtain ⟨a3, rfl, rfl, rfl, w3⟩ := open_int Tryz.underlying24 (hval 3 24 v3 rfl rfl) h3
 obtain ⟨a4, rfl, rfl, rfl, w4⟩ := open_int Tryz.underlying5 (hval 4 5 v4 rfl rfl) h4
 clear hA0 hval0
 simp only [List.append_nil] at hW'
 refine (walk W v0 hd Ab nb cb bs sb hnb hbr a2 a3 a4 w2 w3 w4).mono fun e W' ⟨he, hg⟩ => ?_
 subst he
 exact ⟨_, rfl, post_true (tb := 4) kidsA fullA (by rw [Tryz.params3]; decide) hAk (by simp) hW' hg rfl rfl rfl rfl (by kernel_rfl) Tryz.underlying4⟩
theorem t1 : Tryz.prog.funcs[3]? = some Tryz.f3 := Tryz.func3
theorem over : Rows.paradoxNoneRow.holds Tryz.pinned (OpenSpec.ofChange Rows.paradoxNoneSpec) :=
 OpenClaim.holds_of_wide 3 Tryz.f3 rfl rfl rfl rfl rfl rfl rfl ⟨rfl, rfl, rfl, rfl, rfl⟩ rfl rfl rfl rfl rfl (by kernel_rfl) Tryz.func3 (by kernel_rfl)
  (of_decide_eq_true (by kernel_rfl)) (by unfold Func.isWrapper; first | (rw [if_pos (by decide +kernel)]; kernel_rfl) | (rw [if_neg (by decide +kernel)]; exact ⟨rfl, rfl⟩))
  (fun os started H enc _ => lifted os started H enc)
theorem proved : Rows.ParadoxNoneSaid :=
 over
#print axioms proved
end Go.Proofs.YteocdndanehpnaaGreat.paradoxNone
