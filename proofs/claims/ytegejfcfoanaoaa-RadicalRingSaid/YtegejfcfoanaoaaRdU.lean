
/- Radical: Add. -/
import Derived.Test.YtegejfcfoanaoaaRdL
namespace Go.Proofs.Ytegejfcfoanaoaa
open Go.RowKit Go.Maps
set_option linter.unusedSimpArgs false
set_option linter.unusedVariables false
set_option maxRecDepth 100000

theorem tRow_one (l : List (Int × Int)) : ∀ r ∈ tRows l, ∀ u ∈ r, u.oneCell' = true := fun r hr u hu => by
  unfold tRows at hr
  obtain ⟨x, _, rfl⟩ := List.mem_map.1 hr
  simp only [tRow, List.mem_cons, List.mem_nil_iff, or_false, List.not_mem_nil] at hu
  rcases hu with rfl | rfl <;> rfl
theorem tRows_append (a b : List (Int × Int)) : tRows (a ++ b) = tRows a ++ tRows b := by simp [tRows]
set_option maxHeartbeats 8000000 in
/-- Add of two valid radicals is Make of both. -/
theorem add_valid (A0 A1 : Option Addr) (n0 c0 n1 c1 : Nat) (a b : List (Int × Int)) (w : World) (h0 : RowM w A0 2 n0 (tRows a)) (h1 : RowM w A1 2 n1 (tRows b)) (va : ValidR a) (vb : ValidR b) :
    Calls Try.prog 5 #[.slice A0 n0 c0, .slice A1 n1 c1] w (MakePost w (a ++ b)) := by
  obtain ⟨s, hs⟩ : ∃ s, a ++ b = s := ⟨_, rfl⟩
  have HSS := Lib.hid hs
  rw [hs]
  clear hs
  have hl0 := h0.1
  have hl1 := h1.1
  rw [tRows_len] at hl0 hl1
  have b0 := va.len
  have b1 := vb.len
  have HC0 := check_any A0 n0 c0 a w h0 (by omega)
  have HC1 := Lib.hid (fun w' (l : Lat w w') => check_any A1 n1 c1 b w' (h1.later l) (by omega))
  rw [ckE_yes va] at HC0
  rw [ckE_yes vb] at HC1
  have HR0 := Lib.hid h0
  have HR1 := Lib.hid h1
  have hm0 : n0 ≤ 100000 := by omega
  have hm1 : n1 ≤ 100000 := by omega
  have HM0 := Lib.hid hm0
  have HM1 := Lib.hid hm1
  clear h0 h1 va vb b0 b1 hm0 hm1 hl0 hl1
  go_enter Try.func5, Try.ntmps5
  go_wp2_with fail
  refine HC0.mono ?_
  rintro e w1 ⟨rfl, l1⟩
  clear HC0
  go_wp2_with fail
  refine (HC1.out w1 l1).mono ?_
  rintro e w2 ⟨rfl, l2⟩
  have L2 := l1.trans l2
  clear HC1 l1 l2
  go_wp2_with fail
  refine name1 (Q := fun W => Calls _ _ _ W _) ?_
  intro W3 l3 s3 k3
  have L3 := L2.trans l3
  have HCC := concat_two A0 A1 n0 c0 n1 c1 2 w2.heap.size (tRows a) (tRows b) (tRow_one a) (tRow_one b) HM0.out HM1.out W3 k3 (HR0.out.later L3) (HR1.out.later L3)
  refine HCC.mono ?_
  clear HCC
  rintro e w4 ⟨v4, rfl, o4, l4⟩
  rw [← tRows_append, HSS.out] at o4
  have L4 := L3.trans l4
  obtain ⟨A4, c4, rfl, r4, _⟩ := o4.form
  rw [tRows_len] at r4 ⊢
  obtain ⟨m, hm⟩ : ∃ m, s.length = m := ⟨_, rfl⟩
  rw [hm] at r4 ⊢
  clear hm
  clear k3 l3 s3 L2 L3 l4 o4
  go_wp2_with fail
  have HMK := make_any A4 m c4 s w4 r4
  refine HMK.mono ?_
  clear HMK
  rintro e w5 ⟨v5, rfl, o5, l5⟩
  have L5 := L4.trans l5
  have O5 := o5.base L4.size
  clear r4 o5 l5 L4
  go_wp2
  go_ret2
  exact ⟨v5, rfl, O5, L5⟩
end Go.Proofs.Ytegejfcfoanaoaa
