/- Several texts in one: PxDc. -/
import Derived.Test.YteocdndanehpnaaGreatH53
import Derived.Test.YteocdndanehpnaaGreatH30
import Derived.Deep.DeepCutAuto
namespace Go.Proofs.YteocdndanehpnaaGreat
open Go.RowKit
set_option linter.unusedSimpArgs false
set_option linter.unusedVariables false
set_option maxRecDepth 100000
theorem Px.sl_kept {w W : World} {k : IntKind} {A : Option Addr} {n : Nat} {xs : List Int} (h : Sl W k A n xs) (hs : W.heap.size ≤ w.heap.size) (hk : ∀ a, A = some a → a.block < W.heap.size → w.heap[a.block]? = W.heap[a.block]?) : Sl w k A n xs := by
 refine ⟨h.1, fun hn => ?_⟩
 obtain ⟨a, e, hlt, hc⟩ := h.2 hn
 refine ⟨a, e, Nat.lt_of_lt_of_le hlt hs, fun j x hx => ?_⟩
 rw [← hc j x hx]
 exact World.cell?_of_block (by rw [block_add]; exact hk a e hlt)
set_option maxHeartbeats 8000000 in
theorem pDecided_any (Ap : Option Addr) (np cp : Nat) (ps : List Int) (u : Int) (Al : Option Addr) (nl cl : Nat) (ls : List Int) (s me : Int) (w : World)
  (hp : Sl w .u16 Ap np ps) (hnp : np ≤ 9223372036854775807) (hrp : ∀ x ∈ ps, 0 ≤ x ∧ x ≤ 65535) (u0 : 0 ≤ u) (u1 : u ≤ 255) (hl : Sl w .u8 Al nl ls) (hnl : nl ≤ 9223372036854775807) (hrl : ∀ x ∈ ls, 0 ≤ x ∧ x ≤ 255) (s0 : 0 ≤ s) (s1 : s ≤ 65535) (me0 : 0 ≤ me) (me1 : me ≤ 255) :
  Calls Tryz.prog 4 #[.agg #[.slice Ap np cp, .int .u8 u, .slice Al nl cl, .int .u16 s], .int .u8 me] w (YesP w) := by
 have HC := fun w (h : Sl w .u16 Ap np ps) => census_any Ap np cp ps u Al nl cl s w h hnp hrp u0 u1
 have HH := fun w => house_any Ap np cp u Al nl cl s w s0 s1
 have hok := draftC_ok u0 u1 hrp
 have hcs := draftC_census u0 u1 hrp
 have hhr := @houseN_range s
 obtain ⟨C, hC⟩ : ∃ C, draftC u ps = C := ⟨_, rfl⟩
 obtain ⟨h, hh⟩ : ∃ h, houseN s = h := ⟨_, rfl⟩
 rw [hC] at HC hok hcs
 rw [hh] at HH hhr
 have hc0 := hok.2.2.1
 have hc9 := hok.2.2.2
 have HCS := Lib.hid hcs
 have HCR := Lib.hid hok.1
 have hh0 := hhr.1
 have hh1 := hhr.2
 have HC' := Lib.hid HC
 have HH' := Lib.hid HH
 clear hrp hrl hC hh hok HC HH hcs hhr hl hnl
 go_enter Tryz.func4, Tryz.ntmps4
 go_wp2_with fail
 refine name1 (Q := fun W => Calls _ _ _ W _) ?_
 intro W1 L1 hs1 k1
 refine (wakes10 W1).mono ?_
 rintro e W2 ⟨rfl, l1⟩
 have L2 := L1.trans l1
 have k2 := k1.later l1
 have hp2 := hp.later L2
 clear l1 k1
 have HX := fun w (h : Lat W2 w) => HC'.out w (hp2.later h)
 go_upto_region 3 with (fail)
 go_cut [5, 6, 7] from 14 to 22 (fun c t k wx => ∃ Ac cc m, c = .slice Ac C.length cc ∧ t = .int .i64 (min h 60) ∧ k = .int .i64 m ∧ Sl wx .i64 Ac C.length C ∧ famB m = true ∧ Lat W2 wx)
 case first =>
  have hnn : w.heap.size ∉ ([] : List Nat) := by simp
  have b0 := k2.evS hnn 0 rfl
  have b1 := k2.evS hnn 1 rfl
  have b2 := k2.evS hnn 2 rfl
  have b3 := k2.evS hnn 3 rfl
  have L0 := Lat.drew W2
  have M0 := L0.s ([] : List Nat)
  obtain ⟨kk, hkk⟩ : ∃ kk, me.tmod 9 = kk := ⟨_, rfl⟩
  obtain ⟨mm, hmm, hix⟩ := idx9 (k := kk) (by rw [← hkk, Int.tmod_eq_emod_of_nonneg me0]; omega) (by rw [← hkk, Int.tmod_eq_emod_of_nonneg me0]; omega)
  go_region_held3 (fun w' => LatS W2 ([] : List Nat) w') (first | (with_reducible assumption) | ((repeat refine LatS.set ?_ (by simp) _); (with_reducible assumption)))
   (first
     | (go_at_call 9; (with_reducible refine (HX _ ?_).mono ?_); (first | exact LM | exact LN | exact L0); rintro e wc ⟨Ac, cc, rfl, q1, q2, q3, q4⟩; (first | have LC := LM.trans q3 | have LC := LN.trans q3 | have LC := L0.trans q3); have MC := LC.s ([] : List Nat))
     | (go_at_call 17; (with_reducible refine (methods10_any _).mono ?_); rintro e wn ⟨rfl, s3⟩; (first | have LN := LM.trans s3 | have LN := LC.trans s3 | have LN := L0.trans s3); have MN := LN.s ([] : List Nat))
     | (go_at_call 10; (with_reducible refine (HH'.out _).mono ?_); rintro e wm ⟨rfl, r3⟩; (first | have LM := LN.trans r3 | have LM := LC.trans r3 | have LM := L0.trans r3); have MM := LM.s ([] : List Nat)))
  all_goals
   go_wp2_with fail
   go_meet
   first
    | exact ⟨Ac, cc, _, rfl, rfl, rfl, (q1.later s3).later r3, hmm, LM⟩
    | exact ⟨Ac, cc, _, rfl, rfl, rfl, (q1.later r3).later s3, hmm, LN⟩
    | exact ⟨Ac, cc, _, rfl, rfl, rfl, q1.later r3, hmm, LM⟩
    | exact ⟨Ac, cc, _, rfl, rfl, rfl, q1, hmm, LC⟩
    | exact ⟨Ac, cc, _, rfl, rfl, rfl, q1.later s3, hmm, LN⟩
 case rest =>
  obtain ⟨Ac, cc, m, rfl, rfl, rfl, q1, hm, l3⟩ := hcut
  have L3 := L2.trans l3
  obtain ⟨t, ht⟩ : ∃ t, min h 60 = t := ⟨_, rfl⟩
  have t0 : 1 ≤ t := by omega
  have t1 : t ≤ 60 := by omega
  rw [ht]
  obtain ⟨V3, hV3⟩ : ∃ z, z = wc := ⟨_, rfl⟩
  rw [← hV3] at q1 L3 ⊢
  have HQ := Lib.hid q1
  have HL3 := Lib.hid L3
  have HM := Lib.hid hm
  have HT := Lib.hid (show 1 ≤ t ∧ t ≤ 1000 from ⟨t0, by omega⟩)
  clear hV3 ht hh0 hh1 HX HC' HH' hp2 k2 L2 l3 q1 L3 hm hp
  go_upto_region 6 with (fail)
  refine name1 (Q := fun W => Code.wp _ _ _ _ W) ?_
  intro W4 l4 _ k8
  obtain ⟨g8, hg8⟩ : ∃ z, V3.heap.size = z := ⟨_, rfl⟩
  have hVg : V3.heap.size ≤ g8 := by omega
  have hwg : w.heap.size ≤ g8 := Nat.le_trans HL3.out.size hVg
  rw [hg8] at k8 ⊢
  have hlt8 := k8.lt
  have HL4 := Lib.hid (HL3.out.trans l4)
  clear hg8
  have hdg := dec_giv (s := t) HCS.out HM.out
  have hdE := hdg.1
  have hdL := hdg.2
  obtain ⟨F, hF⟩ : ∃ F, givF C t m = F := ⟨_, rfl⟩
  obtain ⟨E, hEe⟩ : ∃ E, givE C t m = E := ⟨_, rfl⟩
  have hFL : Hid (E = 0 → F.seats.length = C.length) := fun h9 => by rw [← hF]; exact givF_len HCS.out HT.out (by rw [hEe]; exact h9)
  rw [hF, hEe] at hdE hdL
  have hfm := HM.out
  simp only [famB, Bool.or_eq_true, decide_eq_true_eq] at hfm
  clear hdg
  by_cases h11 : 11 ≤ m
  ·have hk15 : m ≤ 15 := by omega
   have hd := givD_any Ac C.length cc C t m W4 (HQ.out.later l4) (by omega) HCS.out h11 hk15 HT.out
   rw [hF, hEe] at hd
   go_wp2_with fail
   refine hd.mono ?_
   rintro e W5 ⟨A1, n1, c1, A2, n2, c2, rfl, qf, f1, l5⟩
   have k85 := k8.later l5
   clear hd
   go_wp2_with (refine wpList_put rfl 47 (.tmp 8) (.tmp 30) (by rfl) (by rfl) g8 (by rfl) #[.slice A1 n1 c1, .slice A2 n2 c2, .int .i64 F.left] (by rfl) k85 (by rfl) (by kernel_rfl) (by simp [Value.oneCell']) ?_; intro w6 hput; have k86 := hput.blk; have L6 : Hid (Lat w w6) := hput.lat w (HL4.out.trans l5) hwg; have LV6 : Hid (Lat V3 w6) := hput.lat V3 (l4.trans l5) hVg; have qf6 : Hid (Sl w6 .i64 A1 n1 F.seats) := Px.sl_kept qf (by rw [hput.size]; exact Nat.le_refl _) (fun a e _ => hput.far a.block (by have := f1 a e; have := hlt8; omega)); have d0 := k86.cell 0; have d2 := k86.cell 2; have l5s : W4.heap.size ≤ w6.heap.size := (by rw [hput.size]; exact l5.size); clear hput k86 k85 qf f1)
   have hx := decided_any Ac C.length cc C t m w6 (HQ.out.later LV6.out) (by omega)
   rw [hdE, hdL] at hx
   clear hdE hdL
   by_cases h0 : E = 0
   ·subst h0
    have hFl := hFL.out rfl
    by_cases h1 : 0 < F.left
    ·rw [if_pos rfl, if_pos h1, if_neg (fun h => by have := h.2; omega)] at hx
     refine hx.mono ?_
     rintro e W7 ⟨Ad, nd, cd, rfl, qd, _, l7⟩
     have L7 := Lib.hid (L6.out.trans l7)
     have k87 := Lib.hid (qf6.out.later l7)
     have d0 : W7.cell? ⟨g8, 0, none⟩ = some (.slice A1 n1 c1) := l7.cell (p := ⟨g8, 0, none⟩) (Nat.lt_of_lt_of_le hlt8 l5s) d0
     have d2 : W7.cell? ⟨g8, 2, none⟩ = some (.int .i64 F.left) := l7.cell (p := ⟨g8, 2, none⟩) (Nat.lt_of_lt_of_le hlt8 l5s) d2
     have QD := Lib.hid qd
     clear hx qd l7
     obtain rfl : 0 = nd := QD.out.1
     go_wp2
     go_ret
     exact ⟨rfl, L7.out⟩
    ·rw [if_pos rfl, if_neg h1, if_pos ⟨rfl, by omega⟩] at hx
     refine hx.mono ?_
     rintro e W7 ⟨Ad, nd, cd, rfl, qd, _, l7⟩
     have L7 := Lib.hid (L6.out.trans l7)
     have k87 := Lib.hid (qf6.out.later l7)
     have d0 : W7.cell? ⟨g8, 0, none⟩ = some (.slice A1 n1 c1) := l7.cell (p := ⟨g8, 0, none⟩) (Nat.lt_of_lt_of_le hlt8 l5s) d0
     have d2 : W7.cell? ⟨g8, 2, none⟩ = some (.int .i64 F.left) := l7.cell (p := ⟨g8, 2, none⟩) (Nat.lt_of_lt_of_le hlt8 l5s) d2
     have QD := Lib.hid qd
     clear hx qd l7
     have h1b : decide (0 < F.left) = false := by simp [h1]
     have hEq := Lib.hid (equal_same Ad nd cd F.seats A1 n1 c1 W7 QD.out k87.out (by rw [← QD.out.1]; omega) (by rw [← k87.out.1]; omega))
     go_wp2_with fail
     refine hEq.out.mono ?_
     rintro e W8 ⟨rfl, l8⟩
     have L8 := Lib.hid (L7.out.trans l8)
     clear l8 d0 d2
     go_wp2
     go_ret
     exact ⟨rfl, L8.out⟩
   ·rw [if_neg h0, if_neg (fun h => h0 h.1)] at hx
    refine hx.mono ?_
    rintro e W7 ⟨Ad, nd, cd, rfl, qd, _, l7⟩
    have L7 := Lib.hid (L6.out.trans l7)
    have k87 := Lib.hid (qf6.out.later l7)
    have d0 : W7.cell? ⟨g8, 0, none⟩ = some (.slice A1 n1 c1) := l7.cell (p := ⟨g8, 0, none⟩) (Nat.lt_of_lt_of_le hlt8 l5s) d0
    have d2 : W7.cell? ⟨g8, 2, none⟩ = some (.int .i64 F.left) := l7.cell (p := ⟨g8, 2, none⟩) (Nat.lt_of_lt_of_le hlt8 l5s) d2
    have QD := Lib.hid qd
    clear hx qd l7
    obtain rfl : 0 = nd := QD.out.1
    have h0b : (E == 0) = false := by simpa using h0
    go_wp2
    go_ret
    exact ⟨rfl, L7.out⟩
  ·have hk4 : 1 ≤ m ∧ m ≤ 4 := by omega
   have h11b : decide (11 ≤ m) = false := by simp; omega
   have hd := givQ_any Ac C.length cc C t m W4 (HQ.out.later l4) hc0 (by omega) HCS.out hk4.1 hk4.2 HT.out
   rw [hF, hEe] at hd
   go_wp2_with fail
   refine hd.mono ?_
   rintro e W5 ⟨A1, n1, c1, A2, n2, c2, rfl, qf, f1, l5⟩
   have k85 := k8.later l5
   clear hd
   go_wp2_with (refine wpList_put rfl 47 (.tmp 8) (.tmp 37) (by rfl) (by rfl) g8 (by rfl) #[.slice A1 n1 c1, .slice A2 n2 c2, .int .i64 F.left] (by rfl) k85 (by rfl) (by kernel_rfl) (by simp [Value.oneCell']) ?_; intro w6 hput; have k86 := hput.blk; have L6 : Hid (Lat w w6) := hput.lat w (HL4.out.trans l5) hwg; have LV6 : Hid (Lat V3 w6) := hput.lat V3 (l4.trans l5) hVg; have qf6 : Hid (Sl w6 .i64 A1 n1 F.seats) := Px.sl_kept qf (by rw [hput.size]; exact Nat.le_refl _) (fun a e _ => hput.far a.block (by have := f1 a e; have := hlt8; omega)); have d0 := k86.cell 0; have d2 := k86.cell 2; have l5s : W4.heap.size ≤ w6.heap.size := (by rw [hput.size]; exact l5.size); clear hput k86 k85 qf f1)
   have hx := decided_any Ac C.length cc C t m w6 (HQ.out.later LV6.out) (by omega)
   rw [hdE, hdL] at hx
   clear hdE hdL
   by_cases h0 : E = 0
   ·subst h0
    have hFl := hFL.out rfl
    by_cases h1 : 0 < F.left
    ·rw [if_pos rfl, if_pos h1, if_neg (fun h => by have := h.2; omega)] at hx
     refine hx.mono ?_
     rintro e W7 ⟨Ad, nd, cd, rfl, qd, _, l7⟩
     have L7 := Lib.hid (L6.out.trans l7)
     have k87 := Lib.hid (qf6.out.later l7)
     have d0 : W7.cell? ⟨g8, 0, none⟩ = some (.slice A1 n1 c1) := l7.cell (p := ⟨g8, 0, none⟩) (Nat.lt_of_lt_of_le hlt8 l5s) d0
     have d2 : W7.cell? ⟨g8, 2, none⟩ = some (.int .i64 F.left) := l7.cell (p := ⟨g8, 2, none⟩) (Nat.lt_of_lt_of_le hlt8 l5s) d2
     have QD := Lib.hid qd
     clear hx qd l7
     obtain rfl : 0 = nd := QD.out.1
     go_wp2
     go_ret
     exact ⟨rfl, L7.out⟩
    ·rw [if_pos rfl, if_neg h1, if_pos ⟨rfl, by omega⟩] at hx
     refine hx.mono ?_
     rintro e W7 ⟨Ad, nd, cd, rfl, qd, _, l7⟩
     have L7 := Lib.hid (L6.out.trans l7)
     have k87 := Lib.hid (qf6.out.later l7)
     have d0 : W7.cell? ⟨g8, 0, none⟩ = some (.slice A1 n1 c1) := l7.cell (p := ⟨g8, 0, none⟩) (Nat.lt_of_lt_of_le hlt8 l5s) d0
     have d2 : W7.cell? ⟨g8, 2, none⟩ = some (.int .i64 F.left) := l7.cell (p := ⟨g8, 2, none⟩) (Nat.lt_of_lt_of_le hlt8 l5s) d2
     have QD := Lib.hid qd
     clear hx qd l7
     have h1b : decide (0 < F.left) = false := by simp [h1]
     have hEq := Lib.hid (equal_same Ad nd cd F.seats A1 n1 c1 W7 QD.out k87.out (by rw [← QD.out.1]; omega) (by rw [← k87.out.1]; omega))
     go_wp2_with fail
     refine hEq.out.mono ?_
     rintro e W8 ⟨rfl, l8⟩
     have L8 := Lib.hid (L7.out.trans l8)
     clear l8 d0 d2
     go_wp2
     go_ret
     exact ⟨rfl, L8.out⟩
   ·rw [if_neg h0, if_neg (fun h => h0 h.1)] at hx
    refine hx.mono ?_
    rintro e W7 ⟨Ad, nd, cd, rfl, qd, _, l7⟩
    have L7 := Lib.hid (L6.out.trans l7)
    have k87 := Lib.hid (qf6.out.later l7)
    have d0 : W7.cell? ⟨g8, 0, none⟩ = some (.slice A1 n1 c1) := l7.cell (p := ⟨g8, 0, none⟩) (Nat.lt_of_lt_of_le hlt8 l5s) d0
    have d2 : W7.cell? ⟨g8, 2, none⟩ = some (.int .i64 F.left) := l7.cell (p := ⟨g8, 2, none⟩) (Nat.lt_of_lt_of_le hlt8 l5s) d2
    have QD := Lib.hid qd
    clear hx qd l7
    obtain rfl : 0 = nd := QD.out.1
    have h0b : (E == 0) = false := by simpa using h0
    go_wp2
    go_ret
    exact ⟨rfl, L7.out⟩
end Go.Proofs.YteocdndanehpnaaGreat
