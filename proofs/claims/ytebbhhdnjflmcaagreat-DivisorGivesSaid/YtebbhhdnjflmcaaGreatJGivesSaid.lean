/- PROVED: the statement DivisorGives answers true at every input, and the input reads as it did: whatever draft, numbers and lists are handed in, Give and Order of the program and of the reference answer the same. No condition beyond the types of the arguments. -/
import Derived.Test.YtebbhhdnjflmcaaGreatRows
import Derived.WalkKit
import Derived.ProofKit
import Derived.OpenShut
import Derived.Test.YtebbhhdnjflmcaaGreatK05
import Derived.Test.YtebbhhdnjflmcaaGreatK04

namespace Go.Proofs.YtebbhhdnjflmcaaGreat.divisorGives
open Go.ChangeShapes Go.WideShapes Go.ChangeAt Go.RowKit
set_option linter.unusedVariables false

theorem own : ownKnob Tryz.prog.godebug = none := by kernel_rfl

theorem walk (W : World) (v0 : Value) (hd : DraftIn W v0) (a1 a2 : Int) (w1 : (Lit.int .u8 a1).wf = true) (Ar : Option Addr) (nr cr : Nat) (raw : List Int) (hr : Sl W .i64 Ar nr raw) (hnr : nr ≤ cr) (hnr2 : nr ≤ 9223372036854775807) (a4 a5 : Int)
    (Ae : Option Addr) (ne ce : Nat) (least : List Int) (he : Sl W .i64 Ae ne least) (hne : ne ≤ ce) (hne2 : ne ≤ 9223372036854775807) :
    Calls Tryz.prog 4 #[v0, .int .u8 a1, .int .i64 a2, .slice Ar nr cr, .int .i64 a4, .int .i64 a5, .slice Ae ne ce] W (Yes W) := by
  obtain ⟨Ap, np, cp, ps, u, Al, nl, cl, ls, s, rfl, sp, hnp, hrp, u0, u1, sl, hnl, hrl, s0, s1⟩ := hd
  have h1 := wf_u8 w1
  exact dGives_any Ap np cp ps u Al nl cl ls s a1 a2 Ar nr cr raw a4 a5 Ae ne ce least W sp hnp hrp u0 u1 sl hnl hrl s0 s1 h1.1 h1.2 hr hnr hnr2 he hne hne2

/-! ### THE ROW's STEP: WRITTEN OUT: LEAVE IT -/
set_option maxRecDepth 100000 in
theorem lifted (os : Os) (started : os.Started) (H : Type) (enc : TypeId × Value → H) :
    ReturnsInHanded {} Tryz.checked os 4 .any (Rows.divisorGivesSpec.pre6 enc Tryz.prog Tryz.f4 Rows.divisorGivesRow.domain false) (Rows.divisorGivesSpec.post enc Tryz.prog Tryz.f4 false true false false) := by
  refine returnsInHanded_of_change (C := Tryz.checked) own started (by kernel_rfl) Tryz.func4
    (ChangeSpec.witness6 (enc := enc) (C := Tryz.checked) false ⟨#[], #[.agg #[.slice none 0 0, .int .u8 0, .slice none 0 0, .int .u16 0], .int .u8 0, .int .i64 0, .slice none 0 0, .int .i64 0, .int .i64 0, .slice none 0 0], []⟩ 8 (by kernel_rfl) (by kernel_rfl) (by kernel_rfl) (by kernel_rfl)) ?_
  intro W base args ds gs before hval0 hW hcnd _
  have hval : ∀ (j : Nat) t v, Tryz.f4.params[j]? = some t → args[j]? = some v → Value.okWide Tryz.prog W .any base t v := hval0
  have hW' := hW
  obtain ⟨p, q, hA0, hV, rfl, hfz, hnd⟩ := hW
  have hA : DataW.TrodAll enc Tryz.prog W 0 (fun _ => true) true Tryz.f4.params.toList args.toList ds p := hA0
  have hAk := hA
  rw [Tryz.params4] at hA hval
  obtain ⟨v0, vs0, d0, ds0, p0, q0, hargs, rfl, rfl, h0, r0⟩ := trodAll_cons hA
  obtain ⟨v1, vs1, d1, ds1, p1, q1, rfl, rfl, rfl, h1, r1⟩ := trodAll_cons r0
  obtain ⟨v2, vs2, d2, ds2, p2, q2, rfl, rfl, rfl, h2, r2⟩ := trodAll_cons r1
  obtain ⟨v3, vs3, d3, ds3, p3, q3, rfl, rfl, rfl, h3, r3⟩ := trodAll_cons r2
  obtain ⟨v4, vs4, d4, ds4, p4, q4, rfl, rfl, rfl, h4, r4⟩ := trodAll_cons r3
  obtain ⟨v5, vs5, d5, ds5, p5, q5, rfl, rfl, rfl, h5, r5⟩ := trodAll_cons r4
  obtain ⟨v6, vs6, d6, ds6, p6, q6, rfl, rfl, rfl, h6, r6⟩ := trodAll_cons r5
  obtain ⟨rfl, rfl, rfl⟩ := trodAll_nil r6
  obtain rfl : args = #[v0, v1, v2, v3, v4, v5, v6] := by cases args; simp_all
  obtain ⟨rfl, rfl⟩ := trodVars_none hV
  have hd := open_draft (hval 0 43 v0 rfl rfl) h0
  obtain ⟨a1, rfl, rfl, rfl, w1⟩ := open_int Tryz.underlying5 (hval 1 5 v1 rfl rfl) h1
  obtain ⟨a2, rfl, rfl, rfl, w2⟩ := open_int Tryz.underlying3 (hval 2 3 v2 rfl rfl) h2
  obtain ⟨Ar, nr, cr, raw, rfl, sr, hnr, hnr2, _⟩ := open_sl Tryz.underlying44 Tryz.underlying3 cellInt (hval 3 44 v3 rfl rfl) h3
  obtain ⟨a4, rfl, rfl, rfl, w4⟩ := open_int Tryz.underlying3 (hval 4 3 v4 rfl rfl) h4
  obtain ⟨a5, rfl, rfl, rfl, w5⟩ := open_int Tryz.underlying3 (hval 5 3 v5 rfl rfl) h5
  obtain ⟨Ae, ne, ce, least, rfl, se, hne, hne2, _⟩ := open_sl Tryz.underlying44 Tryz.underlying3 cellInt (hval 6 44 v6 rfl rfl) h6
  clear hA0 hval0
  simp only [List.append_nil] at hW'
  refine (walk W v0 hd a1 a2 w1 Ar nr cr raw sr hnr hnr2 a4 a5 Ae ne ce least se hne hne2).mono fun e W' ⟨he, hg⟩ => ?_
  subst he
  exact ⟨_, rfl, post_true (tb := 4) kidsA fullA (by rw [Tryz.params4]; decide) hAk (by simp) hW' hg rfl rfl rfl rfl (by kernel_rfl) Tryz.underlying4⟩

theorem over : Rows.divisorGivesRow.holds Tryz.pinned (OpenSpec.ofChange Rows.divisorGivesSpec) :=
  OpenClaim.holds_of_wide 4 Tryz.f4 rfl rfl rfl rfl rfl rfl rfl ⟨rfl, rfl, rfl, rfl, rfl⟩ rfl rfl rfl rfl rfl (by kernel_rfl) Tryz.func4 (by kernel_rfl)
    (of_decide_eq_true (by kernel_rfl)) (by unfold Func.isWrapper; first | (rw [if_pos (by decide +kernel)]; kernel_rfl) | (rw [if_neg (by decide +kernel)]; exact ⟨rfl, rfl⟩))
    (fun os started H enc _ => lifted os started H enc)

/-- ████ THE STATEMENT ████ -/
theorem proved : Rows.DivisorGivesSaid :=
  over
#print axioms proved
end Go.Proofs.YtebbhhdnjflmcaaGreat.divisorGives
