/- Several texts in one: RdSr, RdSl, RdSk, RdSi, RdSm. -/
import Derived.Test.YtakhiomcneikkaaGreatH52
import Derived.Test.YtakhiomcneikkaaGreatH49
import Derived.Test.YtakhiomcneikkaaGreatH50
namespace Go.Proofs.YtakhiomcneikkaaGreat
open Go.RowKit
set_option linter.unusedSimpArgs false
set_option linter.unusedVariables false
set_option maxRecDepth 100000
noncomputable def addE (a b : List (Int × Int)) : Int := if ckE a = 0 ∧ ckE b = 0 then makeErr (a ++ b) else 30
noncomputable def addR (a b : List (Int × Int)) : List (Int × Int) := if ckE a = 0 ∧ ckE b = 0 then makeR (a ++ b) else []
def AddPost (w : World) (a b : List (Int × Int)) (e : Ending) (w' : World) : Prop :=
 ∃ v, e = .returned (.tuple #[v, .int .i64 (addE a b)]) ∧ OwnM w' w.heap.size 68 2 v (tRows (addR a b)) ∧ Lat w w'
theorem addPost_bad {w w' : World} {a b : List (Int × Int)} (h : ¬ (ckE a = 0 ∧ ckE b = 0)) (hl : Lat w w') : AddPost w a b (.returned (.tuple #[.slice none 0 0, .int .i64 30])) w' := by
 refine ⟨.slice none 0 0, by unfold addE; rw [if_neg h], ?_, hl⟩
 unfold addR
 rw [if_neg h]
 exact OwnM.nil _ _ _ _
theorem addPost_of {w : World} {a b : List (Int × Int)} {e : Ending} {w' : World} (h : ckE a = 0 ∧ ckE b = 0) (hp : MakePost w (a ++ b) e w') : AddPost w a b e w' := by
 obtain ⟨v, rfl, o, l⟩ := hp
 refine ⟨v, by unfold addE; rw [if_pos h], ?_, l⟩
 unfold addR
 rw [if_pos h]
 exact o
set_option maxHeartbeats 8000000 in
theorem add_any (A0 A1 : Option Addr) (n0 c0 n1 c1 : Nat) (a b : List (Int × Int)) (w : World) (h0 : RowM w A0 2 n0 (tRows a)) (h1 : RowM w A1 2 n1 (tRows b)) (b0 : n0 ≤ 1000000) (b1 : n1 ≤ 1000000) :
  Calls Tryz.prog 14 #[.slice A0 n0 c0, .slice A1 n1 c1] w (AddPost w a b) := by
 have HC0 := check_any A0 n0 c0 a w h0 b0
 have HC1 := Lib.hid (fun w' (l : Lat w w') => check_any A1 n1 c1 b w' (h1.later l) b1)
 by_cases va : ValidR a
 ·by_cases vb : ValidR b
  ·exact (add_valid A0 A1 n0 c0 n1 c1 a b w h0 h1 va vb).mono fun e w' h => addPost_of ⟨ckE_yes va, ckE_yes vb⟩ h
  ·have hb : ¬ (ckE a = 0 ∧ ckE b = 0) := fun h => by rw [ckE_no vb] at h; cases h.2
   rw [ckE_yes va] at HC0
   rw [ckE_no vb] at HC1
   clear h0 h1 va vb b0 b1
   go_enter Tryz.func14, Tryz.ntmps14
   go_wp2_with fail
   refine HC0.mono ?_
   rintro e w1 ⟨rfl, l1⟩
   clear HC0
   go_wp2_with fail
   refine (HC1.out w1 l1).mono ?_
   rintro e w2 ⟨rfl, l2⟩
   have L2 := l1.trans l2
   clear HC1 l1 l2
   go_wp2
   go_ret2
   exact addPost_bad hb L2
 ·have hb : ¬ (ckE a = 0 ∧ ckE b = 0) := fun h => by rw [ckE_no va] at h; cases h.1
  rw [ckE_no va] at HC0
  clear h0 h1 va b0 b1 HC1
  go_enter Tryz.func14, Tryz.ntmps14
  go_wp2_with fail
  refine HC0.mono ?_
  rintro e w1 ⟨rfl, l1⟩
  clear HC0
  go_wp2
  go_ret2
  exact addPost_bad hb l1
set_option maxHeartbeats 8000000 in
theorem rAdd_any (A0 A1 : Option Addr) (n0 c0 n1 c1 : Nat) (a b : List (Int × Int)) (w : World) (h0 : RowM w A0 2 n0 (tRows a)) (h1 : RowM w A1 2 n1 (tRows b)) (b0 : n0 ≤ 1000000) (b1 : n1 ≤ 1000000) :
  Calls Tryz.prog 15 #[.slice A0 n0 c0, .slice A1 n1 c1] w (AddPost w a b) := by
 have HC0 := rRight_any A0 n0 c0 a w h0 b0
 have HC1 := Lib.hid (fun w' (l : Lat w w') => rRight_any A1 n1 c1 b w' (h1.later l) b1)
 have hla := hrow_len h0
 have hlb := hrow_len h1
 by_cases va : ValidR a
 ·by_cases vb : ValidR b
  ·have hv : ckE a = 0 ∧ ckE b = 0 := ⟨ckE_yes va, ckE_yes vb⟩
   rw [ckE_yes va, decide_eq_true rfl] at HC0
   rw [ckE_yes vb, decide_eq_true rfl] at HC1
   have HR0 := Lib.hid h0
   have HR1 := Lib.hid h1
   have hbd0 : ([] : List (List Value)).length + n0 ≤ 100000000 := by show 0 + n0 ≤ _; omega
   have hbd1 : (tRows a).length + n1 ≤ 100000000 := by rw [tRows_len]; omega
   have HV := Lib.hid hv
   clear h0 h1 va vb b0 b1 hla hlb hv
   go_enter Tryz.func15, Tryz.ntmps15
   go_wp2_with fail
   refine HC0.mono ?_
   rintro e w1 ⟨rfl, l1⟩
   clear HC0
   go_wp2_with fail
   refine (HC1.out w1 l1).mono ?_
   rintro e w2 ⟨rfl, l2⟩
   have L2 := l1.trans l2
   clear HC1 l1 l2
   have hs2 := L2.size
   go_wp2_with (at_builtin; first
    | (refine wpList_glueM2 rfl _ _ 22 27 (by rfl) w.heap.size 68 (.agg #[.int .i64 0, .int .i64 0]) 2 16 Tryz.underlying22 Tryz.underlying27 termInfo rfl (by decide) (by decide) _ [] (tRows a) (tRows_one _) _ (by rfl) (OwnM.nil _ _ _ _) A0 n0 c0 (by rfl) (HR0.out.later L2) hbd0 hs2 ?_; intro v3 w3 g1 g2 g3; rw [List.nil_append] at g1; have L3 := g3 w L2 (Nat.le_refl _); have hs3 := L3.size; obtain ⟨A3, c3, rfl, r3, _⟩ := g1.form)
    | (refine wpList_glueM2 rfl _ _ 22 27 (by rfl) w.heap.size 68 (.agg #[.int .i64 0, .int .i64 0]) 2 16 Tryz.underlying22 Tryz.underlying27 termInfo rfl (by decide) (by decide) _ (tRows a) (tRows b) (tRows_one _) _ (by rfl) g1 A1 n1 c1 (by rfl) (HR1.out.later L3) hbd1 hs3 ?_; intro v4 w4 f1 f2 f3; rw [← tRows_app] at f1; have L4 := f3 w L3 (Nat.le_refl _); obtain ⟨A4, c4, rfl, r4, _⟩ := f1.form))
   rw [tRows_len] at r4 ⊢
   have HL4 := Lib.hid L4
   clear g1 g2 g3 f1 f2 f3 r3 L2 L3 L4 hs2 hs3 hbd0 hbd1
   refine (rMakeR_any A4 _ c4 (a ++ b) w4 r4).mono ?_
   rintro e w5 ⟨v5, rfl, o5, m5⟩
   have HO := Lib.hid (o5.base HL4.out.size)
   have HLF := Lib.hid (HL4.out.trans m5)
   clear o5 m5 r4 HL4
   go_wp2
   go_ret2
   exact addPost_of HV.out ⟨_, rfl, HO.out, HLF.out⟩
  ·have hb : ¬ (ckE a = 0 ∧ ckE b = 0) := fun h => by rw [ckE_no vb] at h; cases h.2
   rw [ckE_yes va, decide_eq_true rfl] at HC0
   rw [ckE_no vb, decide_eq_false (by decide)] at HC1
   clear h0 h1 va vb b0 b1 hla hlb
   go_enter Tryz.func15, Tryz.ntmps15
   go_wp2_with fail
   refine HC0.mono ?_
   rintro e w1 ⟨rfl, l1⟩
   clear HC0
   go_wp2_with fail
   refine (HC1.out w1 l1).mono ?_
   rintro e w2 ⟨rfl, l2⟩
   have L2 := l1.trans l2
   clear HC1 l1 l2
   go_wp2
   go_ret2
   exact addPost_bad hb L2
 ·have hb : ¬ (ckE a = 0 ∧ ckE b = 0) := fun h => by rw [ckE_no va] at h; cases h.1
  rw [ckE_no va, decide_eq_false (by decide)] at HC0
  clear h0 h1 va b0 b1 HC1 hla hlb
  go_enter Tryz.func15, Tryz.ntmps15
  go_wp2_with fail
  refine HC0.mono ?_
  rintro e w1 ⟨rfl, l1⟩
  clear HC0
  go_wp2
  go_ret2
  exact addPost_bad hb l1
set_option maxHeartbeats 4000000 in
theorem rFar_any (a b : Int) (w : World) : Calls Tryz.prog 51 #[.agg #[.int .i64 a, .int .i64 b]] w (fun e w' => e = .returned (.bool (decide (¬ (inPl a ∧ inPl b)))) ∧ Lat w w') := by
 by_cases h1 : a < -1000000
 ·have h1b : ¬ -1000000 ≤ a := by omega
  rw [decide_eq_true (p := ¬ (inPl a ∧ inPl b)) (fun h => h.1.1 h1)]
  go_enter Tryz.func51, Tryz.ntmps51
  go_upto_region 1 with (fail)
  refine name1 (Q := fun W => Code.wp _ _ _ _ W) ?_
  intro W hl hsz k
  have c0 := k.cell 0
  have c1 := k.cell 1
  go_wp2
  go_ret
  exact ⟨rfl, hl⟩
 have h1b : -1000000 ≤ a := by omega
 by_cases h2 : 1000000 < a
 ·have h2b : ¬ a ≤ 1000000 := by omega
  rw [decide_eq_true (p := ¬ (inPl a ∧ inPl b)) (fun h => h.1.2 h2)]
  go_enter Tryz.func51, Tryz.ntmps51
  go_upto_region 1 with (fail)
  refine name1 (Q := fun W => Code.wp _ _ _ _ W) ?_
  intro W hl hsz k
  have c0 := k.cell 0
  have c1 := k.cell 1
  go_wp2
  go_ret
  exact ⟨rfl, hl⟩
 have h2b : a ≤ 1000000 := by omega
 by_cases h3 : b < -1000000
 ·have h3b : ¬ -1000000 ≤ b := by omega
  rw [decide_eq_true (p := ¬ (inPl a ∧ inPl b)) (fun h => h.2.1 h3)]
  go_enter Tryz.func51, Tryz.ntmps51
  go_upto_region 1 with (fail)
  refine name1 (Q := fun W => Code.wp _ _ _ _ W) ?_
  intro W hl hsz k
  have c0 := k.cell 0
  have c1 := k.cell 1
  go_wp2
  go_ret
  exact ⟨rfl, hl⟩
 have h3b : -1000000 ≤ b := by omega
 by_cases h4 : 1000000 < b
 ·have h4b : ¬ b ≤ 1000000 := by omega
  rw [decide_eq_true (p := ¬ (inPl a ∧ inPl b)) (fun h => h.2.2 h4)]
  go_enter Tryz.func51, Tryz.ntmps51
  go_upto_region 1 with (fail)
  refine name1 (Q := fun W => Code.wp _ _ _ _ W) ?_
  intro W hl hsz k
  have c0 := k.cell 0
  have c1 := k.cell 1
  go_wp2
  go_ret
  exact ⟨rfl, hl⟩
 have h4b : b ≤ 1000000 := by omega
 rw [decide_eq_false (fun h => h ⟨⟨h1, h2⟩, h3, h4⟩)]
 go_enter Tryz.func51, Tryz.ntmps51
 go_upto_region 1 with (fail)
 refine name1 (Q := fun W => Code.wp _ _ _ _ W) ?_
 intro W hl hsz k
 have c0 := k.cell 0
 have c1 := k.cell 1
 go_wp2
 go_ret
 exact ⟨rfl, hl⟩
set_option maxHeartbeats 8000000 in
theorem rLength_good (a b c d : Int) (w : World) (hok : lenOk a b c d) :
  Calls Tryz.prog 19 #[.agg #[.int .i64 a, .int .i64 b], .agg #[.int .i64 c, .int .i64 d]] w (LenP w a b c d) := by
 obtain ⟨w1, w2, w3, w4, w5⟩ := sqD_nums hok
 have HE : Hid (lenE a b c d = makeErr [(1, sqD a b c d)] ∧ lenR a b c d = makeR [(1, sqD a b c d)]) := ⟨if_pos hok, if_pos hok⟩
 have HOK := Lib.hid hok
 obtain ⟨x, hx⟩ : ∃ z, a - c = z := ⟨_, rfl⟩
 obtain ⟨y, hy⟩ : ∃ z, b - d = z := ⟨_, rfl⟩
 obtain ⟨q, hq⟩ : ∃ z, sqD a b c d = z := ⟨_, rfl⟩
 rw [hx] at w1 w3 w5
 rw [hy] at w2 w4 w5
 rw [hq] at w5 HE
 have hw1 : wrap64 (a - c) = x := by rw [hx, w1]
 have hw2 : wrap64 (b - d) = y := by rw [hy, w2]
 have W5 := Lib.hid (And.intro hw1 (And.intro hw2 (And.intro w3 (And.intro w4 w5))))
 have HM := Lib.hid (fun (A : Option Addr) w' (hs : RowM w' A 2 1 (tRows [(1, q)])) => rMakeR_any A 1 1 [(1, q)] w' hs)
 have HF1 := Lib.hid (fun w => by have := rFar_any a b w; rwa [decide_eq_false (fun h => h ⟨hok.1, hok.2.1⟩)] at this)
 have HF2 := Lib.hid (fun w => by have := rFar_any c d w; rwa [decide_eq_false (fun h => h ⟨hok.2.2.1, hok.2.2.2⟩)] at this)
 clear hok hx hy hq w1 w2 w3 w4 w5 hw1 hw2
 go_enter Tryz.func19, Tryz.ntmps19
 go_upto_region 1 with (fail)
 refine name2 (Q := fun W => Code.wp _ _ _ _ W) ?_
 intro W hl hsz k2 k3
 obtain ⟨g3, hg3⟩ : ∃ z, w.heap.size + 1 = z := ⟨_, rfl⟩
 obtain ⟨g2, hg2⟩ : ∃ z, w.heap.size = z := ⟨_, rfl⟩
 rw [hg3] at k3 ⊢
 rw [hg2] at k2 ⊢
 clear hsz hg3 hg2
 have c0 := k2.cell 0
 have c1 := k2.cell 1
 have d0 := k3.cell 0
 have d1 := k3.cell 1
 go_wp2_with fail
 refine (HF1.out _).mono ?_
 rintro e w1 ⟨rfl, m1⟩
 have c0 := (k2.later m1).cell 0
 have c1 := (k2.later m1).cell 1
 have d0 := (k3.later m1).cell 0
 have d1 := (k3.later m1).cell 1
 go_wp2_with fail
 refine (HF2.out _).mono ?_
 rintro e w2 ⟨rfl, m2⟩
 have MM := m1.trans m2
 have hl := hl.trans MM
 have c0 := (k2.later MM).cell 0
 have c1 := (k2.later MM).cell 1
 have d0 := (k3.later MM).cell 0
 have d1 := (k3.later MM).cell 1
 clear m1 m2 MM k2 k3
 obtain ⟨hw1, hw2, w3, w4, w5⟩ := W5.out
 go_upto_region 3 with (fail)
 go_region
 go_wp2_with fail
 refine name1 (Q := fun W => Calls _ _ _ W.drew _) ?_
 intro w6 l6 hs6 k6
 refine (HM.out _ w6.drew (row_one (k6.later (Lat.drew _)))).mono ?_
 rintro e w7 ⟨v, rfl, o, l7⟩
 have L6 := (hl.trans l6).trans (Lat.drew _)
 have HL := Lib.hid (L6.trans l7)
 have HO := Lib.hid (o.base L6.size)
 clear L6 l6 l7 o hs6 k6 hw1 hw2 w3 w4 w5
 go_wp2
 go_ret2
 exact ⟨v, by first | (rw [HE.out.1]; done) | (rw [HE.out.1]; rfl), by rw [HE.out.2]; exact HO.out, HL.out⟩
set_option maxHeartbeats 8000000 in
theorem rLength_bad (a b c d : Int) (w : World) (hok : ¬ lenOk a b c d) :
  Calls Tryz.prog 19 #[.agg #[.int .i64 a, .int .i64 b], .agg #[.int .i64 c, .int .i64 d]] w (LenP w a b c d) := by
 have HE : Hid (lenE a b c d = 2 ∧ lenR a b c d = []) := ⟨if_neg hok, if_neg hok⟩
 have HF1 := rFar_any a b
 have HF2 := Lib.hid (rFar_any c d)
 by_cases h1 : inPl a ∧ inPl b
 ·have h2 : ¬ (inPl c ∧ inPl d) := fun h => hok ⟨h1.1, h1.2, h.1, h.2⟩
  rw [decide_eq_false (fun h => h h1)] at HF1
  rw [decide_eq_true h2] at HF2
  have HF1 := Lib.hid HF1
  clear hok h1 h2
  go_enter Tryz.func19, Tryz.ntmps19
  go_upto_region 1 with (fail)
  refine name2 (Q := fun W => Code.wp _ _ _ _ W) ?_
  intro W hl hsz k2 k3
  obtain ⟨g3, hg3⟩ : ∃ z, w.heap.size + 1 = z := ⟨_, rfl⟩
  obtain ⟨g2, hg2⟩ : ∃ z, w.heap.size = z := ⟨_, rfl⟩
  rw [hg3] at k3 ⊢
  rw [hg2] at k2 ⊢
  clear hsz hg3 hg2
  have c0 := k2.cell 0
  have c1 := k2.cell 1
  have d0 := k3.cell 0
  have d1 := k3.cell 1
  go_wp2_with fail
  refine (HF1.out _).mono ?_
  rintro e w1 ⟨rfl, m1⟩
  have c0 := (k2.later m1).cell 0
  have c1 := (k2.later m1).cell 1
  have d0 := (k3.later m1).cell 0
  have d1 := (k3.later m1).cell 1
  go_wp2_with fail
  refine (HF2.out _).mono ?_
  rintro e w2 ⟨rfl, m2⟩
  have LF := hl.trans (m1.trans m2)
  clear m1 m2 k2 k3
  go_wp2
  go_ret2
  exact ⟨.slice none 0 0, by first | (rw [HE.out.1]; done) | (rw [HE.out.1]; rfl), by rw [HE.out.2]; exact OwnM.nil _ _ _ _, LF⟩
 ·rw [decide_eq_true h1] at HF1
  have HF1 := Lib.hid HF1
  clear hok h1 HF2
  go_enter Tryz.func19, Tryz.ntmps19
  go_upto_region 1 with (fail)
  refine name2 (Q := fun W => Code.wp _ _ _ _ W) ?_
  intro W hl hsz k2 k3
  obtain ⟨g3, hg3⟩ : ∃ z, w.heap.size + 1 = z := ⟨_, rfl⟩
  obtain ⟨g2, hg2⟩ : ∃ z, w.heap.size = z := ⟨_, rfl⟩
  rw [hg3] at k3 ⊢
  rw [hg2] at k2 ⊢
  clear hsz hg3 hg2
  have c0 := k2.cell 0
  have c1 := k2.cell 1
  have d0 := k3.cell 0
  have d1 := k3.cell 1
  go_wp2_with fail
  refine (HF1.out _).mono ?_
  rintro e w1 ⟨rfl, m1⟩
  have LF := hl.trans m1
  clear m1 k2 k3
  go_wp2
  go_ret2
  exact ⟨.slice none 0 0, by first | (rw [HE.out.1]; done) | (rw [HE.out.1]; rfl), by rw [HE.out.2]; exact OwnM.nil _ _ _ _, LF⟩
theorem rLength_all (a b c d : Int) (w : World) :
  Calls Tryz.prog 19 #[.agg #[.int .i64 a, .int .i64 b], .agg #[.int .i64 c, .int .i64 d]] w (LenP w a b c d) := by
 by_cases h : lenOk a b c d
 ·exact rLength_good a b c d w h
 ·exact rLength_bad a b c d w h
set_option maxHeartbeats 8000000 in
theorem rScale_any (A : Option Addr) (n c : Nat) (l : List (Int × Int)) (s : Int) (hs0 : -9223372036854775808 ≤ s) (hs1 : s < 9223372036854775808) (w : World) (hs : RowM w A 2 n (tRows l)) (hn1 : n ≤ 1000000) :
  Calls Tryz.prog 17 #[.slice A n c, .int .i64 s] w (ScalePost w l s) := by
 have HC := rRight_any A n c l w hs hn1
 by_cases hv : ValidR l
 case neg =>
  have hE : scErr l s = 30 := by unfold scErr; rw [ckE_no hv, if_neg (by decide)]
  rw [ckE_no hv, decide_eq_false (by decide)] at HC
  clear hs hv
  go_enter Tryz.func17, Tryz.ntmps17
  go_wp2_with fail
  refine HC.mono ?_
  rintro e w1 ⟨rfl, l1⟩
  clear HC
  go_wp2
  go_ret2
  exact scalePost_bad hE (by decide) l1
 have hlen := hs.1
 rw [tRows_len] at hlen
 have hn := hv.len
 rw [hlen] at hn
 have hck := ckE_yes hv
 rw [hck, decide_eq_true rfl] at HC
 have HCK := Lib.hid hck
 have HS := Lib.hid hs
 have HV := Lib.hid hv
 have HN := Lib.hid hn
 have HS0 : Hid (-9223372036854775808 ≤ s ∧ s < 9223372036854775808) := ⟨hs0, hs1⟩
 clear hs hv hck hn hs0 hs1 hlen hn1
 go_enter Tryz.func17, Tryz.ntmps17
 go_wp2_with fail
 refine HC.mono ?_
 rintro e w1 ⟨rfl, l1⟩
 clear HC
 obtain ⟨V1, rfl⟩ : ∃ V : World, V = w1 := ⟨_, rfl⟩
 go_wp2
 go_loopw [6, 7] (fun v iv wr => ∃ k : Nat, k ≤ n ∧ iv = .int .i64 (k : Nat) ∧ OwnM wr V1.heap.size 68 2 v (tRows (scaleL (l.take k) s)) ∧ Hid (∀ x ∈ l.take k, inRT (x.1 * s)) ∧ Lat V1 wr) (fun _ iv _ => n - (RowKit.intOf iv).toNat)
 case atStart => exact ⟨0, Nat.zero_le _, rfl, by simpa [scaleL, tRows] using OwnM.nil _ _ _ _, (fun u hu => by simp at hu), Lat.refl _⟩
 case round =>
  obtain ⟨k, hk, rfl, hown, hin, hl⟩ := hrel
  by_cases hkn : k < n
  ·obtain ⟨g, o, x, rfl, hg, hx, c0, c1⟩ := row_term (HS.out.later (l1.trans hl)) hkn
   obtain ⟨t, u⟩ := x
   simp only at c0 c1
   have HC1 : Hid (∀ w', Lat wr w' → w'.cell? ⟨g, o + k * 2 + 1, none⟩ = some (.int .i64 u)) := fun w' q => q.cell (p := ⟨g, o + k * 2 + 1, none⟩) hg c1
   have hxm := List.mem_of_getElem? hx
   have htr := HV.out.term _ hxm
   have htk : l.take (k + 1) = l.take k ++ [(t, u)] := by
    obtain ⟨h1, h2⟩ := List.getElem?_eq_some_iff.1 hx
    rw [List.take_succ_eq_append_getElem h1, h2]
   obtain ⟨z, hz⟩ : ∃ z, t * s = z := ⟨_, rfl⟩
   have HZ := Lib.hid hz
   have hout : Hid (scaleL (l.take (k + 1)) s = scaleL (l.take k) s ++ (if z = 0 then [] else [(z, u)])) := by
    show _ = _
    rw [htk, scaleL_snoc, hz]
   have hin2 : Hid (inRT z → ∀ x ∈ l.take (k + 1), inRT (x.1 * s)) := fun h y hy => by
    rw [htk] at hy
    rcases List.mem_append.1 hy with hy | hy
    ·exact hin.out y hy
    ·rw [List.mem_singleton] at hy; rw [hy]; simp only [hz]; exact h
   have hbad : Hid (¬ inRT z → scErr l s = 6) := fun h => scErr_bad HCK.out hxm (by simp only [hz]; exact h)
   have hol : Hid ((tRows (scaleL (l.take k) s)).length ≤ 100000000) := by
    have h1 := scaleL_len (l.take k) s
    rw [List.length_take] at h1
    have := HN.out
    show (tRows _).length ≤ _
    rw [tRows_len]
    omega
   have ht0 : -1000000000000000 ≤ t := htr.2.2.2.1.1
   have ht1 : t ≤ 1000000000000000 := htr.2.2.2.1.2
   have HT1 := Lib.hid (fun w => rLong1_any t w (by omega) (by omega))
   have HT2 := Lib.hid (fun w => rLong1_any s w HS0.out.1 HS0.out.2)
   have HRT := Lib.hid (fun w => right_any z w)
   have HKN := Lib.hid hkn
   have hkI : (k : Int) < (n : Int) := by omega
   have hk0 : (0 : Int) ≤ (k : Int) := by omega
   have wk : wrap64 ((k : Int) + 1) = (k : Int) + 1 := IntWalk.wrap64_in _ (by have := HN.out; omega)
   have LB := Lib.hid (l1.trans hl)
   clear ht0 ht1 htk htr hxm hx hg hk hkn hz hin c1
   by_cases hr : inRT z
   ·have hi0 : intE z = 0 := by unfold intE; rw [if_pos (by have := hr.1; have := hr.2; omega)]
    have hiv : intV z = z := intV_of hi0
    have HIN := Lib.hid (hin2.out hr)
    rw [decide_eq_true hr] at HRT
    clear hr hin2 hbad LB
    as_aux_lemma =>
    go_wp2_with fail
    refine (HT1.out _).mono ?_
    rintro e w3 ⟨b3, A3, n3, c3, rfl, r3, q3, m3⟩
    go_wp2_with fail
    refine (HT2.out _).mono ?_
    rintro e w4 ⟨b4, A4, n4, c4, rfl, r4, q4, m4⟩
    go_wp2_with fail
    refine (rTimes_any b3 A3 n3 c3 t b4 A4 n4 c4 s w4 (r3.later m4) r4 (by omega) (by omega)).mono ?_
    rintro e w5 ⟨b5, A5, n5, c5, rfl, r5, q5, m5⟩
    rw [HZ.out] at r5
    have HI := rInteger_any b5 A5 n5 c5 z w5 r5 (by omega)
    rw [hi0, hiv] at HI
    go_wp2_with fail
    refine HI.mono ?_
    rintro e w6 ⟨rfl, m6⟩
    have mx := ((m3.trans m4).trans m5).trans m6
    have L6 := hl.trans mx
    clear r3 r4 r5 m3 m4 m5 m6 q3 q4 q5 HI HT1 HT2 c0
    have hown6 := hown.later mx
    have hsz6 := L6.size
    have c1 := HC1.out w6 mx
    clear hown mx hi0 hiv
    go_wp2_with fail
    refine (HRT.out w6).mono ?_
    rintro e w7 ⟨rfl, rfl⟩
    clear HRT
    by_cases hzz : z = 0
    ·as_aux_lemma =>
     subst hzz
     have hout2 := hout.out
     rw [if_pos rfl, List.append_nil] at hout2
     rw [← hout2] at hown6
     clear hout hout2
     go_wp2
     go_roundw
     case rel => exact ⟨k + 1, HKN.out, by first | exact me_succ k | (rw [wk]; exact me_succ k), hown6, HIN, L6⟩
     case measure => first | exact me_up HKN.out | (rw [wk]; exact me_up HKN.out)
    ·as_aux_lemma =>
     have hzB : ((z : Int) != 0) = true := by simp [hzz]
     have hout2 := hout.out
     rw [if_neg hzz] at hout2
     have HO2 : Hid (tRows (scaleL (l.take (k + 1)) s) = tRows (scaleL (l.take k) s) ++ [[.int .i64 z, .int .i64 u]]) := by
      show _ = _
      rw [hout2]
      simp [tRows, tRow]
     have hownA := hown6.later (Lat.alloc w7 (.cells #[.int .i64 z, .int .i64 u] 68))
     clear hout hout2 hzz hown6
     go_wp2_with (at_builtin; refine wpList_pushM rfl _ _ 27 (by rfl) V1.heap.size 68 68 (.agg #[.int .i64 0, .int .i64 0]) 2 16 Tryz.underlying27 termInfo rfl (by decide) (by decide) _ _ [.int .i64 z, .int .i64 u] (by simp [Value.oneCell']) _ w7.heap.size (by rfl) hownA (Blk.new _ _ _) rfl 1 (by rfl) hol.out (by simp; omega) ?_; intro v' w' h1 h2 h3)
     have L9 := h3 V1 (L6.trans (Lat.alloc _ _)) (Nat.le_refl _)
     rw [← HO2.out] at h1
     clear h2 h3 hownA
     go_roundw
     case rel => exact ⟨k + 1, HKN.out, by first | exact me_succ k | (rw [wk]; exact me_succ k), h1, HIN, L9⟩
     case measure => first | exact me_up HKN.out | (rw [wk]; exact me_up HKN.out)
   ·have hE := hbad.out hr
    by_cases hi0 : intE z = 0
    ·have hiv : intV z = z := intV_of hi0
     rw [decide_eq_false hr] at HRT
     clear hr hin2 hbad hout hown hol
     as_aux_lemma =>
     go_wp2_with fail
     refine (HT1.out _).mono ?_
     rintro e w3 ⟨b3, A3, n3, c3, rfl, r3, q3, m3⟩
     go_wp2_with fail
     refine (HT2.out _).mono ?_
     rintro e w4 ⟨b4, A4, n4, c4, rfl, r4, q4, m4⟩
     go_wp2_with fail
     refine (rTimes_any b3 A3 n3 c3 t b4 A4 n4 c4 s w4 (r3.later m4) r4 (by omega) (by omega)).mono ?_
     rintro e w5 ⟨b5, A5, n5, c5, rfl, r5, q5, m5⟩
     rw [HZ.out] at r5
     have HI := rInteger_any b5 A5 n5 c5 z w5 r5 (by omega)
     rw [hi0, hiv] at HI
     go_wp2_with fail
     refine HI.mono ?_
     rintro e w6 ⟨rfl, m6⟩
     have mx := ((m3.trans m4).trans m5).trans m6
     have L6 := hl.trans mx
     clear r3 r4 r5 m3 m4 m5 m6 q3 q4 q5 HI HT1 HT2 c0
     have LC := Lib.hid (LB.out.trans mx)
     clear hi0 hiv LB mx L6 hl
     go_wp2_with fail
     refine (HRT.out w6).mono ?_
     rintro e w7 ⟨rfl, rfl⟩
     clear HRT
     go_wp2
     go_ret2
     exact scalePost_bad hE (by decide) LC.out
    ·obtain ⟨ie, hie⟩ : ∃ y, intE z = y := ⟨_, rfl⟩
     obtain ⟨iv, hiv⟩ : ∃ y, intV z = y := ⟨_, rfl⟩
     have hieB : ((ie : Int) != 0) = true := by rw [← hie]; simpa using hi0
     clear hr hin2 hbad hout hown hol HRT hi0
     as_aux_lemma =>
     go_wp2_with fail
     refine (HT1.out _).mono ?_
     rintro e w3 ⟨b3, A3, n3, c3, rfl, r3, q3, m3⟩
     go_wp2_with fail
     refine (HT2.out _).mono ?_
     rintro e w4 ⟨b4, A4, n4, c4, rfl, r4, q4, m4⟩
     go_wp2_with fail
     refine (rTimes_any b3 A3 n3 c3 t b4 A4 n4 c4 s w4 (r3.later m4) r4 (by omega) (by omega)).mono ?_
     rintro e w5 ⟨b5, A5, n5, c5, rfl, r5, q5, m5⟩
     rw [HZ.out] at r5
     have HI := rInteger_any b5 A5 n5 c5 z w5 r5 (by omega)
     rw [hie, hiv] at HI
     go_wp2_with fail
     refine HI.mono ?_
     rintro e w6 ⟨rfl, m6⟩
     have mx := ((m3.trans m4).trans m5).trans m6
     have L6 := hl.trans mx
     clear r3 r4 r5 m3 m4 m5 m6 q3 q4 q5 HI HT1 HT2 c0
     have LC := Lib.hid (LB.out.trans mx)
     clear hiv hie LB mx L6 hl
     go_wp2
     go_ret2
     exact scalePost_bad hE (by decide) LC.out
  ·obtain rfl : k = n := by omega
   have hge : ¬ (k : Int) < (k : Int) := Int.lt_irrefl _
   have hT : l.take k = l := by
    have := hrow_len HS.out
    exact List.take_of_length_le (by omega)
   rw [hT] at hown hin
   obtain ⟨hE, hR⟩ := scErr_good (n := s) HCK.out hin.out
   have HB := Lib.hid (hown.base l1.size)
   have HH : Hid (scErr l s = 0 ∧ scR l s = scaleL l s) := ⟨hE, hR⟩
   have LF := l1.trans hl
   clear hE hR hown hin hl
   go_wp2
   go_ret2
   obtain ⟨hE, hR⟩ := HH.out
   refine ⟨_, by first | rfl | (rw [hE]; rfl), ?_, LF⟩
   rw [hR]
   exact HB.out
theorem sm_pick {V : World} {B1 : Option Addr} {N1 f1 : Nat} {L1 : List (Int × Int)} {B2 : Option Addr} {N2 f2 : Nat} {L2 : List (Int × Int)} {B3 : Option Addr} {N3 f3 : Nat} {L3 : List (Int × Int)} {B4 : Option Addr} {N4 f4 : Nat} {L4 : List (Int × Int)} {B5 : Option Addr} {N5 f5 : Nat} {L5 : List (Int × Int)} {B6 : Option Addr} {N6 f6 : Nat} {L6 : List (Int × Int)} {B7 : Option Addr} {N7 f7 : Nat} {L7 : List (Int × Int)} {B8 : Option Addr} {N8 f8 : Nat} {L8 : List (Int × Int)} (h1 : RowM V B1 2 N1 (tRows L1)) (h2 : RowM V B2 2 N2 (tRows L2)) (h3 : RowM V B3 2 N3 (tRows L3)) (h4 : RowM V B4 2 N4 (tRows L4)) (h5 : RowM V B5 2 N5 (tRows L5)) (h6 : RowM V B6 2 N6 (tRows L6)) (h7 : RowM V B7 2 N7 (tRows L7)) (h8 : RowM V B8 2 N8 (tRows L8)) (b1 : N1 ≤ 1000000) (b2 : N2 ≤ 1000000) (b3 : N3 ≤ 1000000) (b4 : N4 ≤ 1000000) (b5 : N5 ≤ 1000000) (b6 : N6 ≤ 1000000) (b7 : N7 ≤ 1000000) (b8 : N8 ≤ 1000000) : ∀ k : Nat, k < 4 → ∃ (Ba : Option Addr) (Na fa : Nat) (La : List (Int × Int)) (Bb : Option Addr) (Nb fb : Nat) (Lb : List (Int × Int)), RowM V Ba 2 Na (tRows La) ∧ RowM V Bb 2 Nb (tRows Lb) ∧ Na ≤ 1000000 ∧ Nb ≤ 1000000 ∧ ∀ w, (Instr.index 40 (.agg #[.slice B1 N1 f1, .slice B2 N2 f2, .slice B3 N3 f3, .slice B4 N4 f4, .slice B5 N5 f5, .slice B6 N6 f6, .slice B7 N7 f7, .slice B8 N8 f8]) (.int .i64 (k : Nat))).run Tryz.prog w = .ok (.agg #[.slice Ba Na fa, .slice Bb Nb fb]) w := by
 intro k hk
 rcases (show k = 0 ∨ k = 1 ∨ k = 2 ∨ k = 3 by omega) with rfl | rfl | rfl | rfl
 ·exact ⟨B1, N1, f1, L1, B2, N2, f2, L2, h1, h2, b1, b2, fun w => by unfold Instr.index; go_simp⟩
 ·exact ⟨B3, N3, f3, L3, B4, N4, f4, L4, h3, h4, b3, b4, fun w => by unfold Instr.index; go_simp⟩
 ·exact ⟨B5, N5, f5, L5, B6, N6, f6, L6, h5, h6, b5, b6, fun w => by unfold Instr.index; go_simp⟩
 ·exact ⟨B7, N7, f7, L7, B8, N8, f8, L8, h7, h8, b7, b8, fun w => by unfold Instr.index; go_simp⟩
theorem int_pick {x y : Int} (x0 : -9223372036854775808 ≤ x) (x1 : x < 9223372036854775808) (y0 : -9223372036854775808 ≤ y) (y1 : y < 9223372036854775808) : ∀ k : Nat, k < 2 → ∃ v : Int, -9223372036854775808 ≤ v ∧ v < 9223372036854775808 ∧ ∀ w, (Instr.index 42 (.agg #[.int .i64 x, .int .i64 y]) (.int .i64 (k : Nat))).run Tryz.prog w = .ok (.int .i64 v) w := by
 intro k hk
 rcases (show k = 0 ∨ k = 1 by omega) with rfl | rfl
 ·exact ⟨x, x0, x1, fun w => by unfold Instr.index; go_simp⟩
 ·exact ⟨y, y0, y1, fun w => by unfold Instr.index; go_simp⟩
theorem pt_pick (a b c d e f g h : Int) : ∀ k : Nat, k < 2 → ∃ x y z u : Int, ∀ w, (Instr.index 45 (.agg #[.int .i64 a, .int .i64 b, .int .i64 c, .int .i64 d, .int .i64 e, .int .i64 f, .int .i64 g, .int .i64 h]) (.int .i64 (k : Nat))).run Tryz.prog w = .ok (.agg #[.int .i64 x, .int .i64 y, .int .i64 z, .int .i64 u]) w := by
 intro k hk
 rcases (show k = 0 ∨ k = 1 by omega) with rfl | rfl
 ·exact ⟨a, b, c, d, fun w => by unfold Instr.index; go_simp⟩
 ·exact ⟨e, f, g, h, fun w => by unfold Instr.index; go_simp⟩
theorem rem_facts (z m : Int) (hm : 0 < m) (hm2 : m ≤ 4611686018427387904) : ∃ r : Int, z.tmod m = r ∧ wrap64 r = r ∧ IntKind.i64.wrap r = r ∧ -9223372036854775808 ≤ r ∧ r < 9223372036854775808 := by
 have h : -m < z.tmod m ∧ z.tmod m < m := by
  rcases Int.lt_or_le z 0 with h | h
  ·have e : z.tmod m = -((-z).tmod m) := by rw [Int.neg_tmod, Int.neg_neg]
   rw [e, Int.tmod_eq_emod_of_nonneg (by omega)]
   have a := Int.emod_nonneg (-z) (show m ≠ 0 by omega)
   have b := Int.emod_lt_of_pos (-z) hm
   omega
  ·rw [Int.tmod_eq_emod_of_nonneg h]
   have a := Int.emod_nonneg z (show m ≠ 0 by omega)
   have b := Int.emod_lt_of_pos z hm
   omega
 refine ⟨z.tmod m, rfl, IntWalk.wrap64_in _ (by omega), ?_, by omega, by omega⟩
 rw [IntWalk.i64_left]
 exact IntWalk.wrap64_in _ (by omega)
theorem next_facts (k : Nat) (h : k < 1000000) : wrap64 ((k : Int) + 1) = ((k + 1 : Nat) : Int) ∧ IntKind.i64.wrap ((k : Int) + 1) = ((k + 1 : Nat) : Int) := by
 have a : wrap64 ((k : Int) + 1) = ((k + 1 : Nat) : Int) := by rw [IntWalk.wrap64_in _ (by omega)]; omega
 exact ⟨a, by rw [IntWalk.i64_left]; exact a⟩
theorem makeR_len2 (l : List (Int × Int)) : (makeR l).length ≤ 200 := by
 unfold makeR
 split
 ·rename_i h; exact (makeErr_parts h).2.2.2
 ·exact Nat.zero_le _
theorem addR_len (a b : List (Int × Int)) : (addR a b).length ≤ 200 := by
 unfold addR
 split
 ·exact makeR_len2 _
 ·exact Nat.zero_le _
theorem scR_len (l : List (Int × Int)) (n : Int) : (scR l n).length ≤ l.length := by
 unfold scR
 split
 ·exact List.length_filterMap_le _ _
 ·exact Nat.zero_le _
theorem lenR_len (a b c d : Int) : (lenR a b c d).length ≤ 200 := by
 unfold lenR
 split
 ·exact makeR_len2 _
 ·exact Nat.zero_le _
theorem rSame_self {A A' : Option Addr} {n c c' : Nat} {a : List (Int × Int)} {w : World} (hs : RowM w A 2 n (tRows a)) (ks : RowM w A' 2 n (tRows a)) (hn : n ≤ 1000000) :
  Calls Tryz.prog 10 #[.slice A n c, .slice A' n c'] w (fun e w' => e = .returned (.bool true) ∧ Lat w w') := by
 have h := rSameR_any A n c a A' n c' a w hs ks hn
 rwa [decide_eq_true rfl] at h
theorem spell168 (T : Array Value) (h : T.size = 168) : ∃ f : Nat → Value, (∀ k, f k = T.getD k undef) ∧ T = #[f 0, f 1, f 2, f 3, f 4, f 5, f 6, f 7, f 8, f 9, f 10, f 11, f 12, f 13, f 14, f 15, f 16, f 17, f 18, f 19, f 20, f 21, f 22, f 23, f 24, f 25, f 26, f 27, f 28, f 29, f 30, f 31, f 32, f 33, f 34, f 35, f 36, f 37, f 38, f 39, f 40, f 41, f 42, f 43, f 44, f 45, f 46, f 47, f 48, f 49, f 50, f 51, f 52, f 53, f 54, f 55, f 56, f 57, f 58, f 59, f 60, f 61, f 62, f 63, f 64, f 65, f 66, f 67, f 68, f 69, f 70, f 71, f 72, f 73, f 74, f 75, f 76, f 77, f 78, f 79, f 80, f 81, f 82, f 83, f 84, f 85, f 86, f 87, f 88, f 89, f 90, f 91, f 92, f 93, f 94, f 95, f 96, f 97, f 98, f 99, f 100, f 101, f 102, f 103, f 104, f 105, f 106, f 107, f 108, f 109, f 110, f 111, f 112, f 113, f 114, f 115, f 116, f 117, f 118, f 119, f 120, f 121, f 122, f 123, f 124, f 125, f 126, f 127, f 128, f 129, f 130, f 131, f 132, f 133, f 134, f 135, f 136, f 137, f 138, f 139, f 140, f 141, f 142, f 143, f 144, f 145, f 146, f 147, f 148, f 149, f 150, f 151, f 152, f 153, f 154, f 155, f 156, f 157, f 158, f 159, f 160, f 161, f 162, f 163, f 164, f 165, f 166, f 167] := ⟨fun k => T.getD k undef, fun _ => rfl, (spell 168 T h).trans (by kernel_rfl)⟩
def PairV (N1 : Nat) (L1 : List (Int × Int)) (N2 : Nat) (L2 : List (Int × Int)) (v : Value) (w : World) : Prop := ∃ (B1 : Option Addr) (f1 : Nat) (B2 : Option Addr) (f2 : Nat), v = .agg #[.slice B1 N1 f1, .slice B2 N2 f2] ∧ RowM w B1 2 N1 (tRows L1) ∧ RowM w B2 2 N2 (tRows L2)
theorem PairV.mono {N1 : Nat} {L1 : List (Int × Int)} {N2 : Nat} {L2 : List (Int × Int)} {v : Value} {w w' : World} (h : PairV N1 L1 N2 L2 v w) (hl : Lat w w') : PairV N1 L1 N2 L2 v w' := by obtain ⟨B1, f1, B2, f2, e, r1, r2⟩ := h; exact ⟨B1, f1, B2, f2, e, r1.later hl, r2.later hl⟩
def QuadV (N1 : Nat) (L1 : List (Int × Int)) (N2 : Nat) (L2 : List (Int × Int)) (N3 : Nat) (L3 : List (Int × Int)) (N4 : Nat) (L4 : List (Int × Int)) (N5 : Nat) (L5 : List (Int × Int)) (N6 : Nat) (L6 : List (Int × Int)) (N7 : Nat) (L7 : List (Int × Int)) (N8 : Nat) (L8 : List (Int × Int)) (v : Value) (w : World) : Prop := ∃ (B1 : Option Addr) (f1 : Nat) (B2 : Option Addr) (f2 : Nat) (B3 : Option Addr) (f3 : Nat) (B4 : Option Addr) (f4 : Nat) (B5 : Option Addr) (f5 : Nat) (B6 : Option Addr) (f6 : Nat) (B7 : Option Addr) (f7 : Nat) (B8 : Option Addr) (f8 : Nat), v = .agg #[.slice B1 N1 f1, .slice B2 N2 f2, .slice B3 N3 f3, .slice B4 N4 f4, .slice B5 N5 f5, .slice B6 N6 f6, .slice B7 N7 f7, .slice B8 N8 f8] ∧ RowM w B1 2 N1 (tRows L1) ∧ RowM w B2 2 N2 (tRows L2) ∧ RowM w B3 2 N3 (tRows L3) ∧ RowM w B4 2 N4 (tRows L4) ∧ RowM w B5 2 N5 (tRows L5) ∧ RowM w B6 2 N6 (tRows L6) ∧ RowM w B7 2 N7 (tRows L7) ∧ RowM w B8 2 N8 (tRows L8)
theorem QuadV.mono {N1 : Nat} {L1 : List (Int × Int)} {N2 : Nat} {L2 : List (Int × Int)} {N3 : Nat} {L3 : List (Int × Int)} {N4 : Nat} {L4 : List (Int × Int)} {N5 : Nat} {L5 : List (Int × Int)} {N6 : Nat} {L6 : List (Int × Int)} {N7 : Nat} {L7 : List (Int × Int)} {N8 : Nat} {L8 : List (Int × Int)} {v : Value} {w w' : World} (h : QuadV N1 L1 N2 L2 N3 L3 N4 L4 N5 L5 N6 L6 N7 L7 N8 L8 v w) (hl : Lat w w') : QuadV N1 L1 N2 L2 N3 L3 N4 L4 N5 L5 N6 L6 N7 L7 N8 L8 v w' := by obtain ⟨B1, f1, B2, f2, B3, f3, B4, f4, B5, f5, B6, f6, B7, f7, B8, f8, e, r1, r2, r3, r4, r5, r6, r7, r8⟩ := h; exact ⟨B1, f1, B2, f2, B3, f3, B4, f4, B5, f5, B6, f6, B7, f7, B8, f8, e, r1.later hl, r2.later hl, r3.later hl, r4.later hl, r5.later hl, r6.later hl, r7.later hl, r8.later hl⟩
noncomputable def sm4_rows (z : Int) (g10 g11 : Nat) (A : Option Addr) (n c : Nat) (A1 : Option Addr) (nb cb : Nat) (Ad : Option Addr) (nd cd : Nat) (AM : Option Addr) (nM cM g7 g8 N4 : Nat) (LA : List (Int × Int)) (nR : Nat) (RL : List (Int × Int)) (NO : Nat) (OL ML : List (Int × Int)) : List SRow := [
 ⟨.move (.tmp 0), some 41, none, [], fun v _ => v = .slice A n c⟩,
 ⟨.call { callee := .value (.func 7), args := #[.tmp 41, .const (.bool false)], argTypes := #[22, 4] }, some 42, none, [0], RadV N4 LA⟩,
 ⟨.load 25 (.tmp 7), some 43, none, [], fun v _ => v = .agg #[.slice A1 nb cb]⟩,
 ⟨.call { callee := .value (.func 6), args := #[.tmp 43], argTypes := #[25] }, some 44, none, [2, 1], RadV nR RL⟩,
 ⟨.build 39 #[(0, .tmp 42), (1, .tmp 44)], some 45, none, [1, 3], PairV N4 LA nR RL⟩,
 ⟨.load 25 (.tmp 7), some 46, none, [], fun v _ => v = .agg #[.slice A1 nb cb]⟩,
 ⟨.call { callee := .value (.func 6), args := #[.tmp 46], argTypes := #[25] }, some 47, none, [5, 3], RadV nR RL⟩,
 ⟨.load 25 (.tmp 8), some 48, none, [], fun v _ => v = .agg #[.slice Ad nd cd]⟩,
 ⟨.call { callee := .value (.func 6), args := #[.tmp 48], argTypes := #[25] }, some 49, none, [7, 6], RadV NO OL⟩,
 ⟨.build 39 #[(0, .tmp 47), (1, .tmp 49)], some 50, none, [6, 8], PairV nR RL NO OL⟩,
 ⟨.move (.tmp 13), some 51, none, [], fun v _ => v = .slice AM nM cM⟩,
 ⟨.load 25 (.tmp 7), some 52, none, [], fun v _ => v = .agg #[.slice A1 nb cb]⟩,
 ⟨.call { callee := .value (.func 6), args := #[.tmp 52], argTypes := #[25] }, some 53, none, [11, 8], RadV nR RL⟩,
 ⟨.build 39 #[(0, .tmp 51), (1, .tmp 53)], some 54, none, [10, 12], PairV nM ML nR RL⟩,
 ⟨.move (.tmp 13), some 55, none, [], fun v _ => v = .slice AM nM cM⟩,
 ⟨.move (.tmp 0), some 56, none, [], fun v _ => v = .slice A n c⟩,
 ⟨.call { callee := .value (.func 7), args := #[.tmp 56, .const (.bool false)], argTypes := #[22, 4] }, some 57, none, [15, 12], RadV N4 LA⟩,
 ⟨.build 39 #[(0, .tmp 55), (1, .tmp 57)], some 58, none, [14, 16], PairV nM ML N4 LA⟩,
 ⟨.build 40 #[(0, .tmp 45), (1, .tmp 50), (2, .tmp 54), (3, .tmp 58)], some 59, none, [4, 9, 13, 17], QuadV N4 LA nR RL nR RL NO OL nM ML nR RL nM ML N4 LA⟩,
 ⟨.move (.const (.int .i64 0)), some 60, none, [], fun v _ => v = .int .i64 0⟩]
noncomputable def sm4_base (z : Int) (g10 g11 : Nat) (A : Option Addr) (n c : Nat) (A1 : Option Addr) (nb cb : Nat) (Ad : Option Addr) (nd cd : Nat) (AM : Option Addr) (nM cM g7 g8 N4 : Nat) (LA : List (Int × Int)) (nR : Nat) (RL : List (Int × Int)) (NO : Nat) (OL ML : List (Int × Int)) : List (Nat × Value) := [(0, .slice A n c), (3, .int .i64 z), (10, .pointer (some ⟨g10, 0, none⟩)), (11, .pointer (some ⟨g11, 0, none⟩)), (7, .pointer (some ⟨g7, 0, none⟩)), (8, .pointer (some ⟨g8, 0, none⟩)), (13, .slice AM nM cM)]
set_option maxHeartbeats 4000000 in
theorem sm4_steps (V : World) (z : Int) (g10 g11 : Nat) (A : Option Addr) (n c : Nat) (A1 : Option Addr) (nb cb : Nat) (Ad : Option Addr) (nd cd : Nat) (AM : Option Addr) (nM cM g7 g8 N4 : Nat) (LA : List (Int × Int)) (nR : Nat) (RL : List (Int × Int)) (NO : Nat) (OL ML : List (Int × Int)) (HO : ∀ w, Lat V w → Calls Tryz.prog 7 #[.slice A n c, .bool false] w (Out4 w (RadV N4 LA))) (HD1 : ∀ w, Lat V w → Calls Tryz.prog 6 #[.agg #[.slice A1 nb cb]] w (Out4 w (RadV nR RL))) (HD2 : ∀ w, Lat V w → Calls Tryz.prog 6 #[.agg #[.slice Ad nd cd]] w (Out4 w (RadV NO OL))) (HM : RowM V AM 2 nM (tRows ML)) (HC7 : ∀ w', Lat V w' → w'.cell? ⟨g7, 0, none⟩ = some (.slice A1 nb cb)) (HC8 : ∀ w', Lat V w' → w'.cell? ⟨g8, 0, none⟩ = some (.slice Ad nd cd)) :
  AllStepsN Tryz.prog (sm4_rows z g10 g11 A n c A1 nb cb Ad nd cd AM nM cM g7 g8 N4 LA nR RL NO OL ML) (sm4_base z g10 g11 A n c A1 nb cb Ad nd cd AM nM cM g7 g8 N4 LA nR RL NO OL ML) V (sm4_rows z g10 g11 A n c A1 nb cb Ad nd cd AM nM cM g7 g8 N4 LA nR RL NO OL ML) := by
 refine nG ?_ fun a w hl hb hd o ho => by have e1 := hb 0 _ rfl; exact rp1 o ho e1 fun ev ec e1 d ty p af g => by unfold execOp; simp only [e1, ec]; go_simp
 refine nG ?_ fun a w hl hb hd o ho => by obtain ⟨_, e1, rfl⟩ := hd 0 _ _ (by simp) rfl rfl; exact rcO o ho (HO w hl)
 refine nG ?_ fun a w hl hb hd o ho => by have e1 := hb 7 _ rfl; exact rp1 o ho e1 fun ev ec e1 d ty p af g => by unfold execOp; simp only [e1, ec]; have hc := HC7 w hl; go_simp
 refine nG ?_ fun a w hl hb hd o ho => by obtain ⟨_, e1, rfl⟩ := hd 2 _ _ (by simp) rfl rfl; exact rcO o ho (HD1 w hl)
 refine nG ?_ fun a w hl hb hd o ho => by obtain ⟨_, e1, B1, f1, rfl, r1⟩ := hd 1 _ _ (by simp) rfl rfl; obtain ⟨_, e2, B2, f2, rfl, r2⟩ := hd 3 _ _ (by simp) rfl rfl; obtain ⟨d, op, ty, p, af, gg⟩ := o; simp only at ho; subst ho; have ec : ∀ v, a.eval (.const v) = v := fun _ => rfl; exact Runs.val (by unfold execOp; generalize a.eval = ev at e1 e2 ec ⊢; simp only [e1, e2]; go_simp) ⟨Lat.refl _, fun _ => ⟨B1, f1, B2, f2, rfl, r1, r2⟩⟩
 refine nG ?_ fun a w hl hb hd o ho => by have e1 := hb 7 _ rfl; exact rp1 o ho e1 fun ev ec e1 d ty p af g => by unfold execOp; simp only [e1, ec]; have hc := HC7 w hl; go_simp
 refine nG ?_ fun a w hl hb hd o ho => by obtain ⟨_, e1, rfl⟩ := hd 5 _ _ (by simp) rfl rfl; exact rcO o ho (HD1 w hl)
 refine nG ?_ fun a w hl hb hd o ho => by have e1 := hb 8 _ rfl; exact rp1 o ho e1 fun ev ec e1 d ty p af g => by unfold execOp; simp only [e1, ec]; have hc := HC8 w hl; go_simp
 refine nG ?_ fun a w hl hb hd o ho => by obtain ⟨_, e1, rfl⟩ := hd 7 _ _ (by simp) rfl rfl; exact rcO o ho (HD2 w hl)
 refine nG ?_ fun a w hl hb hd o ho => by obtain ⟨_, e1, B1, f1, rfl, r1⟩ := hd 6 _ _ (by simp) rfl rfl; obtain ⟨_, e2, B2, f2, rfl, r2⟩ := hd 8 _ _ (by simp) rfl rfl; obtain ⟨d, op, ty, p, af, gg⟩ := o; simp only at ho; subst ho; have ec : ∀ v, a.eval (.const v) = v := fun _ => rfl; exact Runs.val (by unfold execOp; generalize a.eval = ev at e1 e2 ec ⊢; simp only [e1, e2]; go_simp) ⟨Lat.refl _, fun _ => ⟨B1, f1, B2, f2, rfl, r1, r2⟩⟩
 refine nG ?_ fun a w hl hb hd o ho => by have e1 := hb 13 _ rfl; exact rp1 o ho e1 fun ev ec e1 d ty p af g => by unfold execOp; simp only [e1, ec]; go_simp
 refine nG ?_ fun a w hl hb hd o ho => by have e1 := hb 7 _ rfl; exact rp1 o ho e1 fun ev ec e1 d ty p af g => by unfold execOp; simp only [e1, ec]; have hc := HC7 w hl; go_simp
 refine nG ?_ fun a w hl hb hd o ho => by obtain ⟨_, e1, rfl⟩ := hd 11 _ _ (by simp) rfl rfl; exact rcO o ho (HD1 w hl)
 refine nG ?_ fun a w hl hb hd o ho => by obtain ⟨_, e1, rfl⟩ := hd 10 _ _ (by simp) rfl rfl; obtain ⟨_, e2, B2, f2, rfl, r2⟩ := hd 12 _ _ (by simp) rfl rfl; obtain ⟨d, op, ty, p, af, gg⟩ := o; simp only at ho; subst ho; have ec : ∀ v, a.eval (.const v) = v := fun _ => rfl; exact Runs.val (by unfold execOp; generalize a.eval = ev at e1 e2 ec ⊢; simp only [e1, e2]; go_simp) ⟨Lat.refl _, fun _ => ⟨AM, cM, B2, f2, rfl, (HM.later hl), r2⟩⟩
 refine nG ?_ fun a w hl hb hd o ho => by have e1 := hb 13 _ rfl; exact rp1 o ho e1 fun ev ec e1 d ty p af g => by unfold execOp; simp only [e1, ec]; go_simp
 refine nG ?_ fun a w hl hb hd o ho => by have e1 := hb 0 _ rfl; exact rp1 o ho e1 fun ev ec e1 d ty p af g => by unfold execOp; simp only [e1, ec]; go_simp
 refine nG ?_ fun a w hl hb hd o ho => by obtain ⟨_, e1, rfl⟩ := hd 15 _ _ (by simp) rfl rfl; exact rcO o ho (HO w hl)
 refine nG ?_ fun a w hl hb hd o ho => by obtain ⟨_, e1, rfl⟩ := hd 14 _ _ (by simp) rfl rfl; obtain ⟨_, e2, B2, f2, rfl, r2⟩ := hd 16 _ _ (by simp) rfl rfl; obtain ⟨d, op, ty, p, af, gg⟩ := o; simp only at ho; subst ho; have ec : ∀ v, a.eval (.const v) = v := fun _ => rfl; exact Runs.val (by unfold execOp; generalize a.eval = ev at e1 e2 ec ⊢; simp only [e1, e2]; go_simp) ⟨Lat.refl _, fun _ => ⟨AM, cM, B2, f2, rfl, (HM.later hl), r2⟩⟩
 refine nG ?_ fun a w hl hb hd o ho => by obtain ⟨_, e1, B1, f1, E1, h1, rfl, r1, s1⟩ := hd 4 _ _ (by simp) rfl rfl; obtain ⟨_, e2, B2, f2, E2, h2, rfl, r2, s2⟩ := hd 9 _ _ (by simp) rfl rfl; obtain ⟨_, e3, B3, f3, E3, h3, rfl, r3, s3⟩ := hd 13 _ _ (by simp) rfl rfl; obtain ⟨_, e4, B4, f4, E4, h4, rfl, r4, s4⟩ := hd 17 _ _ (by simp) rfl rfl; obtain ⟨d, op, ty, p, af, gg⟩ := o; simp only at ho; subst ho; have ec : ∀ v, a.eval (.const v) = v := fun _ => rfl; exact Runs.val (by unfold execOp; generalize a.eval = ev at e1 e2 e3 e4 ec ⊢; simp only [e1, e2, e3, e4]; go_simp) ⟨Lat.refl _, fun _ => ⟨B1, f1, E1, h1, B2, f2, E2, h2, B3, f3, E3, h3, B4, f4, E4, h4, rfl, r1, s1, r2, s2, r3, s3, r4, s4⟩⟩
 refine nG ?_ fun a w hl hb hd o ho => by exact rp0 o ho fun ev ec d ty p af g => by unfold execOp; simp only [ec]; go_simp
 exact AllStepsN.none
set_option maxHeartbeats 16000000 in
theorem sums_walk (A : Option Addr) (n c : Nat) (l : List (Int × Int)) (A1 : Option Addr) (nb cb : Nat) (ds1 : List (Int × Int)) (Ad : Option Addr) (nd cd : Nat) (ds2 : List (Int × Int)) (z a1 a2 b1 b2 : Int) (w : World)
  (hs : RowM w A 2 n (tRows l)) (hc : n ≤ c) (h1 : RowM w A1 2 nb (ds1.map dRow)) (h2 : RowM w Ad 2 nd (ds2.map dRow)) (h16a : ∀ x ∈ ds1, In16 x) (h16b : ∀ x ∈ ds2, In16 x)
  (hz : -9223372036854775808 ≤ z ∧ z < 9223372036854775808) (ha1 : -9223372036854775808 ≤ a1 ∧ a1 < 9223372036854775808) (ha2 : -9223372036854775808 ≤ a2 ∧ a2 < 9223372036854775808) (hb1 : -9223372036854775808 ≤ b1 ∧ b1 < 9223372036854775808) (hb2 : -9223372036854775808 ≤ b2 ∧ b2 < 9223372036854775808) :
  Calls Tryz.prog 4 #[.slice A n c, .agg #[.slice A1 nb cb], .agg #[.slice Ad nd cd], .int .i64 z, .agg #[.int .i64 a1, .int .i64 a2], .agg #[.int .i64 b1, .int .i64 b2]] w (fun e w' => e = .returned (.bool true) ∧ Lat w w') := by
 have da := draft_make (l := draftL 6 ds1) (by unfold draftL; rw [List.length_map, List.length_take]; omega) (fun x hx => by obtain ⟨y, _, rfl⟩ := List.mem_map.1 hx; exact dT_in y)
 have db := draft_make (l := draftL 6 ds2) (by unfold draftL; rw [List.length_map, List.length_take]; omega) (fun x hx => by obtain ⟨y, _, rfl⟩ := List.mem_map.1 hx; exact dT_in y)
 obtain ⟨RL, hRL⟩ : ∃ a, makeL (draftL 6 ds1) = a := ⟨_, rfl⟩
 obtain ⟨OL, hOL⟩ : ∃ a, makeL (draftL 6 ds2) = a := ⟨_, rfl⟩
 rw [hRL] at da
 rw [hOL] at db
 have hr2 := da.2.1.len
 have ho2 := db.2.1.len
 obtain ⟨nR, hnR⟩ : ∃ n, RL.length = n := ⟨_, rfl⟩
 obtain ⟨NO, hNO⟩ : ∃ n, OL.length = n := ⟨_, rfl⟩
 obtain ⟨LA, hLA⟩ : ∃ L, ownL l false = L := ⟨_, rfl⟩
 have ha := ownL_len l false
 rw [hLA] at ha
 obtain ⟨N4, hN4⟩ : ∃ n, LA.length = n := ⟨_, rfl⟩
 obtain ⟨ML, hML⟩ : ∃ L, makeR LA = L := ⟨_, rfl⟩
 have hm2 : ML.length ≤ 200 := by rw [← hML]; unfold makeR; split; (· rename_i h; exact (makeErr_parts h).2.2.2); (· exact Nat.zero_le _)
 obtain ⟨nM, hnM⟩ : ∃ n, ML.length = n := ⟨_, rfl⟩
 have HD1 := Lib.hid (fun w' (l : Lat w w') => draft_rad (c := cb) (h1.later l) h16a hRL hnR)
 have HD2 := Lib.hid (fun w' (l : Lat w w') => draft_rad (c := cd) (h2.later l) h16b hOL hNO)
 have HOA := Lib.hid (fun w' (q : Lat w w') => hLA ▸ own_any A n c l false w' (hs.later q) hc)
 have HBD : Hid (nR ≤ 200 ∧ NO ≤ 200 ∧ N4 ≤ 401 ∧ nM ≤ 200) := ⟨by omega, by omega, by omega, by omega⟩
 have HEQ : Hid (LA.length = N4 ∧ ML.length = nM ∧ makeR LA = ML) := ⟨hN4, hnM, hML⟩
 have HZ := Lib.hid hz
 have HAB := Lib.hid (And.intro ha1 (And.intro ha2 (And.intro hb1 hb2)))
 clear hs hc h1 h2 h16a h16b da db hr2 ho2 hRL hOL hnR hNO hLA ha hN4 hML hm2 hnM hz ha1 ha2 hb1 hb2
 go_enter Tryz.func4, Tryz.ntmps4
 go_upto_region 1 with (fail)
 refine name4 (Q := fun W => Code.wp _ _ _ _ W) ?_
 intro W hl hsz k7 k8 k10 k11
 have HG7 := Lib.hid (k7.ever 0 rfl)
 have HG8 := Lib.hid (k8.ever 0 rfl)
 obtain ⟨g7, hg7⟩ : ∃ z, w.heap.size = z := ⟨_, rfl⟩
 simp only [hg7] at HG7 HG8 k10 k11 ⊢
 clear hg7 k7 k8 hsz
 obtain ⟨g8, hg8⟩ : ∃ z, g7 + 1 = z := ⟨_, rfl⟩
 simp only [hg8] at HG8 k10 k11 ⊢
 clear hg8
 obtain ⟨g10, hg10⟩ : ∃ z, g8 + 1 = z := ⟨_, rfl⟩
 simp only [hg10] at k10 k11 ⊢
 clear hg10
 obtain ⟨g11, hg11⟩ : ∃ z, g10 + 1 = z := ⟨_, rfl⟩
 simp only [hg11] at k11 ⊢
 clear hg11
 have K10 := Lib.hid k10
 have K11 := Lib.hid k11
 clear k10 k11
 go_wp2_with fail
 refine (works3_any W).mono ?_
 rintro e w1 ⟨rfl, m1⟩
 go_wp2_with fail
 refine (HOA.out w1 (hl.trans m1)).mono ?_
 rintro e w2 ⟨v2, rfl, o2, m2⟩
 obtain ⟨A2, c2, rfl, r2⟩ := own_row o2 HEQ.out.1
 clear o2
 go_wp2_with fail
 refine (rMakeR_any A2 N4 c2 LA w2 r2).mono ?_
 rintro e w3 ⟨v3, rfl, o3, m3⟩
 rw [HEQ.out.2.2] at o3
 obtain ⟨AM, cM, rfl, rM⟩ := own_row o3 HEQ.out.2.1
 have L3 := (m1.trans m2).trans m3
 clear o3 r2 m1 m2 m3
 go_upto_region 4 with (fail)
 obtain ⟨V4, rfl⟩ : ∃ z, z = w3 := ⟨_, rfl⟩
 have HM := rM
 have LV := Lib.hid (hl.trans L3)
 have HC7 : ∀ w', Lat V4 w' → w'.cell? ⟨g7, 0, none⟩ = some (.slice A1 nb cb) := fun w' q => HG7.out w' (L3.trans q)
 have HC8 : ∀ w', Lat V4 w' → w'.cell? ⟨g8, 0, none⟩ = some (.slice Ad nd cd) := fun w' q => HG8.out w' (L3.trans q)
 have HO : ∀ w, Lat V4 w → Calls Tryz.prog 7 #[.slice A n c, .bool false] w (Out4 w (RadV N4 LA)) := fun w q => by
  refine (HOA.out w (LV.out.trans q)).mono ?_
  rintro e w' ⟨v, rfl, o, l'⟩
  obtain ⟨A', c', rfl, r⟩ := own_row o HEQ.out.1
  exact ⟨_, rfl, l', A', c', rfl, r⟩
 have HDa : ∀ w, Lat V4 w → Calls Tryz.prog 6 #[.agg #[.slice A1 nb cb]] w (Out4 w (RadV nR RL)) := fun w q => by
  refine (HD1.out w (LV.out.trans q)).mono ?_
  rintro e w' ⟨A', c', rfl, r, l'⟩
  exact ⟨_, rfl, l', A', c', rfl, r⟩
 have HDb : ∀ w, Lat V4 w → Calls Tryz.prog 6 #[.agg #[.slice Ad nd cd]] w (Out4 w (RadV NO OL)) := fun w q => by
  refine (HD2.out w (LV.out.trans q)).mono ?_
  rintro e w' ⟨A', c', rfl, r, l'⟩
  exact ⟨_, rfl, l', A', c', rfl, r⟩
 have L3' := Lib.hid L3
 clear rM hl L3
 rename_i KN hKN
 refine wp_region_slotsN (sm4_rows z g10 g11 A n c A1 nb cb Ad nd cd AM nM cM g7 g8 N4 LA nR RL NO OL ML) (sm4_base z g10 g11 A n c A1 nb cb Ad nd cd AM nM cM g7 g8 N4 LA nR RL NO OL ML) 168 20 [[], [0], [], [2, 1], [1, 3], [], [5, 3], [], [7, 6], [6, 8], [], [], [11, 8], [10, 12], [], [], [15, 12], [14, 16], [4, 9, 13, 17], []] (by kernel_rfl) (by kernel_rfl) (by kernel_rfl) (by kernel_rfl) (by kernel_rfl) (by kernel_rfl) (by rfl) rfl (base_of (by repeat (first | exact base_nil _ | refine base_consL rfl ?_))) (sm4_steps V4 z g10 g11 A n c A1 nb cb Ad nd cd AM nM cM g7 g8 N4 LA nR RL NO OL ML HO HDa HDb HM HC7 HC8) ?_
 ·intro a9 W9 hsz9 hdf9 hL9 hbs hsl
  obtain ⟨v9, h9, q9⟩ := hsl 18 _ _ rfl rfl
  obtain ⟨B1, f1, B2, f2, B3, f3, B4, f4, B5, f5, B6, f6, B7, f7, B8, f8, rfl, r1, r2, r3, r4, r5, r6, r7, r8⟩ := (show QuadV N4 LA nR RL nR RL NO OL nM ML nR RL nM ML N4 LA v9 W9 from q9)
  have w59 := slot_getD h9
  clear h9
  obtain ⟨v9, h9, q9⟩ := hsl 19 _ _ rfl rfl
  obtain rfl : v9 = .int .i64 0 := q9
  have w60 := slot_getD h9
  clear h9
  refine hKN _ _ ?_
  obtain ⟨T9, df9⟩ := a9
  obtain rfl : df9 = [] := hdf9
  obtain ⟨f, hf, rfl⟩ := spell168 T9 hsz9
  have XX := fun k v h => (hf k).trans (slot_getD (hbs k v h))
  have x0 : f 0 = .slice A n c := XX 0 _ rfl
  have x3 : f 3 = .int .i64 z := XX 3 _ rfl
  have x10 : f 10 = .pointer (some ⟨g10, 0, none⟩) := XX 10 _ rfl
  have x11 : f 11 = .pointer (some ⟨g11, 0, none⟩) := XX 11 _ rfl
  have x7 : f 7 = .pointer (some ⟨g7, 0, none⟩) := XX 7 _ rfl
  have x8 : f 8 = .pointer (some ⟨g8, 0, none⟩) := XX 8 _ rfl
  have x13 : f 13 = .slice AM nM cM := XX 13 _ rfl
  have x59 := (hf 59).trans w59
  have x60 := (hf 60).trans w60
  clear hbs hsl hf hsz9 hKN w59 w60
  simp only [x0, x3, x10, x11, x7, x8, x13, x59, x60]
  clear XX x0 x3 x10 x11 x7 x8 x13 x59 x60
  have LX := Lib.hid (LV.out.trans hL9)
  have LY := Lib.hid (L3'.out.trans hL9)
  obtain ⟨V, rfl⟩ : ∃ z, z = W9 := ⟨_, rfl⟩
  have H1 := Lib.hid r1
  have H2 := Lib.hid r2
  have H3 := Lib.hid r3
  have H4 := Lib.hid r4
  have H5 := Lib.hid r5
  have H6 := Lib.hid r6
  have H7 := Lib.hid r7
  have H8 := Lib.hid r8
  clear r1 r2 r3 r4 r5 r6 r7 r8 hL9 L3' LV HM HO HDa HDb HC7 HC8
  have HPK := Lib.hid (sm_pick H1.out H2.out H3.out H4.out H5.out H6.out H7.out H8.out (f1 := f1) (f2 := f2) (f3 := f3) (f4 := f4) (f5 := f5) (f6 := f6) (f7 := f7) (f8 := f8) (by have := HBD.out; omega) (by have := HBD.out; omega) (by have := HBD.out; omega) (by have := HBD.out; omega) (by have := HBD.out; omega) (by have := HBD.out; omega) (by have := HBD.out; omega) (by have := HBD.out; omega))
  clear H1 H2 H3 H4 H5 H6 H7 H8
  obtain ⟨zr, hz1, hz2, hz3, HZ2⟩ := rem_facts z 1000 (by decide) (by decide)
  have HPZ := Lib.hid (int_pick HZ.out.1 HZ.out.2 HZ2.1 HZ2.2)
  have HZ1 := Lib.hid (And.intro hz1 (And.intro hz2 hz3))
  clear hz1 hz2 hz3 HZ HZ2 HBD HEQ HD1 HD2 HOA
  go_wp2
  go_loopw [60] (fun iv wr => ∃ k : Nat, k ≤ 4 ∧ iv = .int .i64 (k : Nat) ∧ Lat V wr) (fun iv _ => 4 - (intOf iv).toNat)
  case atStart => exact ⟨0, by omega, rfl, Lat.refl _⟩
  case round =>
   obtain ⟨k, hk, rfl, hq⟩ := hrel
   by_cases hk4 : k < 4
   ·have hkI : (k : Int) < 4 := by omega
    obtain ⟨Ba, Na, fa, La, Bb, Nb, fb, Lb, ra, rb, ba, bb, hix⟩ := HPK.out k hk4
    have HA := Lib.hid (And.intro ra (And.intro rb (And.intro ba bb)))
    have HK := Lib.hid hk4
    clear ra rb ba bb hk4
    go_upto_region 7 with (fail)
    refine name1 (Q := fun W => Code.wp _ _ _ _ W) ?_
    intro V0 la hs k16
    obtain ⟨g16, hg16⟩ : ∃ z, wr.heap.size = z := ⟨_, rfl⟩
    rw [hg16] at k16 ⊢
    have HC0 := Lib.hid (k16.ever 0 rfl)
    have HC1 := Lib.hid (k16.ever 1 rfl)
    have q0 := hq.trans la
    clear la hs hg16 hix k16 hq hkI hk
    have d0 := HC0.out V0 (Lat.refl _)
    have d1 := HC1.out V0 (Lat.refl _)
    go_wp2_with fail
    clear d0 d1
    refine (add_any Ba Bb Na fa Nb fb La Lb V0 (HA.out.1.later q0) (HA.out.2.1.later q0) HA.out.2.2.1 HA.out.2.2.2).mono ?_
    rintro e w8 ⟨v8, rfl, o8, m8⟩
    obtain ⟨nm, hnm⟩ : ∃ N, (addR La Lb).length = N := ⟨_, rfl⟩
    obtain ⟨ee, hee⟩ : ∃ z, addE La Lb = z := ⟨_, rfl⟩
    have hnb : nm ≤ 1000000 := by have := addR_len La Lb; omega
    obtain ⟨LR, hLR⟩ : ∃ z, addR La Lb = z := ⟨_, rfl⟩
    rw [hLR] at o8 hnm
    obtain ⟨Am, cm, rfl, rm⟩ := own_row o8 hnm
    simp only [hee]
    have HQ := Lib.hid (And.intro hnm (And.intro hee (And.intro hnb (And.intro hLR rm))))
    clear o8 rm hnm hee hnb hLR
    have d0 := HC0.out w8 m8
    have d1 := HC1.out w8 m8
    go_wp2_with fail
    clear d0 d1
    refine (rAdd_any Ba Bb Na fa Nb fb La Lb w8 (HA.out.1.later (q0.trans m8)) (HA.out.2.1.later (q0.trans m8)) HA.out.2.2.1 HA.out.2.2.2).mono ?_
    rintro e w9 ⟨v9, rfl, o9, m9⟩
    rw [HQ.out.2.2.2.1] at o9
    obtain ⟨An, cn, rfl, rn⟩ := own_row o9 HQ.out.1
    simp only [HQ.out.2.1]
    have HS := Lib.hid (rSame_self (c := cm) (c' := cn) (HQ.out.2.2.2.2.later m9) rn HQ.out.2.2.1)
    clear o9 rn
    go_wp2_with fail
    refine HS.out.mono ?_
    rintro e w10 ⟨rfl, m10⟩
    have HC := Lib.hid (fun w' (h : Lat w10 w') => HC0.out w' (((m8.trans m9).trans m10).trans h))
    have q10 := ((q0.trans m8).trans m9).trans m10
    have HR := Lib.hid (And.intro (HA.out.1.later q10) HA.out.2.2.1)
    clear HS HQ HC0 HC1 HA q0 m8 m9 m10
    obtain ⟨hz1, hz2, hz3⟩ := HZ1.out
    go_wp2
    clear hz1 hz2 hz3
    go_loopw [92] (fun iv wr => ∃ j : Nat, j ≤ 2 ∧ iv = .int .i64 (j : Nat) ∧ Lat w10 wr) (fun iv _ => 2 - (intOf iv).toNat)
    case atStart => exact ⟨0, by omega, rfl, Lat.refl _⟩
    case round =>
     obtain ⟨j, hj, rfl, hr⟩ := hrel
     by_cases hj2 : j < 2
     ·have hjI : (j : Int) < 2 := by omega
      obtain ⟨x, x0, x1, hix⟩ := HPZ.out j hj2
      have HX := Lib.hid (And.intro x0 x1)
      have HJ := Lib.hid hj2
      clear x0 x1 hj hj2
      have d0 := HC.out wr hr
      go_wp2_with fail
      clear d0 hix hjI
      refine (scale_any Ba Na fa La x HX.out.1 HX.out.2 wr (HR.out.1.later hr) HR.out.2).mono ?_
      rintro e w8 ⟨v8, rfl, o8, m8⟩
      obtain ⟨nm, hnm⟩ : ∃ N, (scR La x).length = N := ⟨_, rfl⟩
      obtain ⟨ee, hee⟩ : ∃ z, scErr La x = z := ⟨_, rfl⟩
      have hnb : nm ≤ 1000000 := by have := scR_len La x; have := HR.out.1.1; have := HR.out.2; rw [tRows_len] at *; omega
      obtain ⟨LR, hLR⟩ : ∃ z, scR La x = z := ⟨_, rfl⟩
      rw [hLR] at o8 hnm
      obtain ⟨Am, cm, rfl, rm⟩ := own_row o8 hnm
      simp only [hee]
      have HQ := Lib.hid (And.intro hnm (And.intro hee (And.intro hnb (And.intro hLR rm))))
      clear o8 rm hnm hee hnb hLR
      have d0 := HC.out w8 (hr.trans m8)
      go_wp2_with fail
      clear d0
      refine (rScale_any Ba Na fa La x HX.out.1 HX.out.2 w8 (HR.out.1.later (hr.trans m8)) HR.out.2).mono ?_
      rintro e w9 ⟨v9, rfl, o9, m9⟩
      rw [HQ.out.2.2.2.1] at o9
      obtain ⟨An, cn, rfl, rn⟩ := own_row o9 HQ.out.1
      simp only [HQ.out.2.1]
      have HS := Lib.hid (rSame_self (c := cm) (c' := cn) (HQ.out.2.2.2.2.later m9) rn HQ.out.2.2.1)
      clear o9 rn
      go_wp2_with fail
      refine HS.out.mono ?_
      rintro e w11 ⟨rfl, m11⟩
      have HRel := Lib.hid (((hr.trans m8).trans m9).trans m11)
      clear HS HQ hr m8 m9 m11
      obtain ⟨hj1, hj2⟩ := next_facts j (by have := HJ.out; omega)
      go_wp2
      go_roundw
      case rel => exact ⟨j + 1, by have := HJ.out; omega, by rfl, HRel.out⟩
      case measure => have := HJ.out; simp only [intOf]; omega
     ·have hjI : ¬ (j : Int) < 2 := by omega
      have HRel := Lib.hid (q10.trans hr)
      clear hj hj2 hr q10
      obtain ⟨hk1, hk2⟩ := next_facts k (by have := HK.out; omega)
      go_wp2
      go_roundw
      case rel => exact ⟨k + 1, by have := HK.out; omega, by rfl, HRel.out⟩
      case measure => have := HK.out; simp only [intOf]; omega
   ·have hkI : ¬ (k : Int) < 4 := by omega
    have LF := Lib.hid (LX.out.trans hq)
    have LG := Lib.hid (LY.out.trans hq)
    clear hq hk hk4 HPK HPZ HZ1
    have p0 := (K10.out.later LG.out).cell 0
    have p1 := (K10.out.later LG.out).cell 1
    have p2 := (K11.out.later LG.out).cell 0
    have p3 := (K11.out.later LG.out).cell 1
    obtain ⟨c1, hr1, hr2, hr3, _, _⟩ := rem_facts a1 1000001 (by decide) (by decide)
    obtain ⟨c2, hs1, hs2, hs3, _, _⟩ := rem_facts a2 1000001 (by decide) (by decide)
    obtain ⟨c3, ht1, ht2, ht3, _, _⟩ := rem_facts b1 1000001 (by decide) (by decide)
    obtain ⟨c4, hu1, hu2, hu3, _, _⟩ := rem_facts b2 1000001 (by decide) (by decide)
    have HPT := Lib.hid (pt_pick a1 a2 b1 b2 c1 c2 c3 c4)
    clear HAB LX LY K10 K11 LG
    go_wp2
    clear p0 p1 p2 p3 hr1 hr2 hr3 hs1 hs2 hs3 ht1 ht2 ht3 hu1 hu2 hu3
    go_loopw [139] (fun iv wr' => ∃ j : Nat, j ≤ 2 ∧ iv = .int .i64 (j : Nat) ∧ Lat wr wr') (fun iv _ => 2 - (intOf iv).toNat)
    case atStart => exact ⟨0, by omega, rfl, Lat.refl _⟩
    case round =>
     obtain ⟨j, hj, rfl, hr⟩ := hrel
     by_cases hj2 : j < 2
     ·have hjI : (j : Int) < 2 := by omega
      obtain ⟨x1, x2, y1, y2, hix⟩ := HPT.out j hj2
      have HJ := Lib.hid hj2
      clear hj hj2
      go_upto_region 23 with (fail)
      refine name1 (Q := fun W => Code.wp _ _ _ _ W) ?_
      intro V0 la hs k28
      obtain ⟨g28, hg28⟩ : ∃ z, wr.heap.size = z := ⟨_, rfl⟩
      rw [hg28] at k28 ⊢
      have HC0 := Lib.hid (k28.ever 0 rfl)
      have HC1 := Lib.hid (k28.ever 1 rfl)
      have HC2 := Lib.hid (k28.ever 2 rfl)
      have HC3 := Lib.hid (k28.ever 3 rfl)
      have q0 := hr.trans la
      clear la hs hg28 hix k28 hr hjI
      have d0 := HC0.out V0 (Lat.refl _)
      have d1 := HC1.out V0 (Lat.refl _)
      have d2 := HC2.out V0 (Lat.refl _)
      have d3 := HC3.out V0 (Lat.refl _)
      go_wp2_with fail
      clear d0 d1 d2 d3
      refine (length_all x1 x2 y1 y2 V0).mono ?_
      rintro e w8 ⟨v8, rfl, o8, m8⟩
      obtain ⟨nm, hnm⟩ : ∃ N, (lenR x1 x2 y1 y2).length = N := ⟨_, rfl⟩
      obtain ⟨ee, hee⟩ : ∃ z, lenE x1 x2 y1 y2 = z := ⟨_, rfl⟩
      have hnb : nm ≤ 1000000 := by have := lenR_len x1 x2 y1 y2; omega
      obtain ⟨LR, hLR⟩ : ∃ z, lenR x1 x2 y1 y2 = z := ⟨_, rfl⟩
      rw [hLR] at o8 hnm
      obtain ⟨Am, cm, rfl, rm⟩ := own_row o8 hnm
      simp only [hee]
      have HQ := Lib.hid (And.intro hnm (And.intro hee (And.intro hnb (And.intro hLR rm))))
      clear o8 rm hnm hee hnb hLR
      have d0 := HC0.out w8 m8
      have d1 := HC1.out w8 m8
      have d2 := HC2.out w8 m8
      have d3 := HC3.out w8 m8
      go_wp2_with fail
      clear d0 d1 d2 d3
      refine (rLength_all x1 x2 y1 y2 w8).mono ?_
      rintro e w9 ⟨v9, rfl, o9, m9⟩
      rw [HQ.out.2.2.2.1] at o9
      obtain ⟨An, cn, rfl, rn⟩ := own_row o9 HQ.out.1
      simp only [HQ.out.2.1]
      have HS := Lib.hid (rSame_self (c := cm) (c' := cn) (HQ.out.2.2.2.2.later m9) rn HQ.out.2.2.1)
      clear o9 rn
      go_wp2_with fail
      refine HS.out.mono ?_
      rintro e w11 ⟨rfl, m11⟩
      have HRel := Lib.hid (((q0.trans m8).trans m9).trans m11)
      clear HS HQ q0 m8 m9 m11 HC0 HC1 HC2 HC3
      obtain ⟨hj1, hj2⟩ := next_facts j (by have := HJ.out; omega)
      go_wp2
      go_roundw
      case rel => exact ⟨j + 1, by have := HJ.out; omega, by rfl, HRel.out⟩
      case measure => have := HJ.out; simp only [intOf]; omega
     ·have hjI : ¬ (j : Int) < 2 := by omega
      have HL := Lib.hid (LF.out.trans hr)
      clear hj hj2 hr
      go_wp2
      go_ret
      exact ⟨rfl, HL.out⟩
end Go.Proofs.YtakhiomcneikkaaGreat
