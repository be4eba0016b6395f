/- Several texts in one: PxSa. -/
import Derived.Test.YteocdndanehpnaaGreatH53
import Derived.Test.YteocdndanehpnaaGreatH30
import Derived.Deep.DeepCutAuto
namespace Go.Proofs.YteocdndanehpnaaGreat
open Go.RowKit
set_option linter.unusedSimpArgs false
set_option linter.unusedVariables false
set_option maxRecDepth 100000
def mulK (P : List Int) (b : Int) (j : Nat) : List Int := (P.take j).map (· * b) ++ P.drop j
theorem mulK_len (P : List Int) (b : Int) (j : Nat) : (mulK P b j).length = P.length := by
 unfold mulK
 rw [List.length_append, List.length_map, List.length_take, List.length_drop]
 omega
theorem mulK_at {P : List Int} {b : Int} {j : Nat} {x : Int} (h : P[j]? = some x) : (mulK P b j)[j]? = some x ∧ (mulK P b j).set j (x * b) = mulK P b (j + 1) := by
 obtain ⟨hl, rfl⟩ := List.getElem?_eq_some_iff.1 h
 have hq : ((P.take j).map (· * b)).length = j := by rw [List.length_map, List.length_take]; omega
 have hd : P.drop j = P[j] :: P.drop (j + 1) := List.drop_eq_getElem_cons hl
 unfold mulK
 constructor
 ·rw [List.getElem?_append_right (by omega), hq, Nat.sub_self, hd]; rfl
 ·rw [List.set_append_right _ _ (by omega), hq, Nat.sub_self, hd, List.set_cons_zero, List.take_succ_eq_append_getElem hl, List.map_append, List.append_assoc]
  rfl
theorem atI_map (P : List Int) (b : Int) (i : Nat) : atI (P.map (· * b)) i = atI P i * b := by
 unfold atI
 rw [List.getElem?_map]
 cases P[i]? <;> simp
theorem filtP_none (p : Nat → Bool) (q r : Nat → Int) (h : ∀ i, p i = false) (n : Nat) : filtP p q r n = [] := by
 unfold filtP
 rw [List.filter_eq_nil_iff.2 (fun i _ => by rw [h i]; decide)]
 rfl
theorem loss_scaled (P S T : List Int) (b : Int) (i j : Nat) : lossB P (P.map (· * b)) S T i j = false ∧ lossB (P.map (· * b)) P S T i j = false := by
 have h1 : ¬ (0 < atI P i ∧ 0 < atI P j ∧ atI P j * b * atI P i < atI P i * b * atI P j) := by
  rintro ⟨_, _, h⟩
  have e : atI P j * b * atI P i = atI P i * b * atI P j := by grind
  omega
 have h2 : ¬ (0 < atI P i * b ∧ 0 < atI P j * b ∧ atI P j * (atI P i * b) < atI P i * (atI P j * b)) := by
  rintro ⟨_, _, h⟩
  have e : atI P j * (atI P i * b) = atI P i * (atI P j * b) := by grind
  omega
 unfold lossB
 rw [atI_map, atI_map, decide_eq_false h1, decide_eq_false h2]
 exact ⟨Bool.and_false _, Bool.and_false _⟩
theorem ppl_scaled (P S T : List Int) (b e1 e2 : Int) : pplL P (P.map (· * b)) S T e1 e2 = [] ∧ pplL (P.map (· * b)) P S T e1 e2 = [] := by
 constructor
 ·unfold pplL pplF
  split
  ·exact filtP_none _ _ _ (fun i => (loss_scaled P S T b _ _).1) _
  ·rfl
 ·unfold pplL pplF
  split
  ·exact filtP_none _ _ _ (fun i => (loss_scaled P S T b _ _).2) _
  ·rfl
theorem decE_in {P : List Int} {s k : Int} (hc : censusB P = true) (hk : famB k = true) (hs : 1 ≤ s ∧ s ≤ 1000) : decE P s k = 0 ∨ decE P s k = 8 ∨ decE P s k = 9 := by
 unfold decE
 rw [if_neg (by simp [hc]), if_neg (by simp [hk]), if_neg (fun h => h hs)]
 split
 ·exact .inr (.inr rfl)
 ·split
  ·exact .inr (.inl rfl)
  ·exact .inl rfl
theorem pplE_ok {P Q : List Int} {s k : Int} (hP : censusB P = true) (hQ : censusB Q = true) (hl : P.length = Q.length) (hk : famB k = true) (hs : 1 ≤ s ∧ s ≤ 1000) : pplE P Q (decE P s k) (decE Q s k) = 0 ∨ pplE P Q (decE P s k) (decE Q s k) = 8 ∨ pplE P Q (decE P s k) (decE Q s k) = 9 := by
 unfold pplE
 rw [if_neg (by simp [hP]), if_neg (by simp [hQ]), if_neg (by omega)]
 split
 ·exact decE_in hP hk hs
 ·exact decE_in hQ hk hs
set_option maxHeartbeats 8000000 in
theorem pSame_any (Ap : Option Addr) (np cp : Nat) (ps : List Int) (u : Int) (Al : Option Addr) (nl cl : Nat) (ls : List Int) (s me by_ : Int) (w : World)
  (hp : Sl w .u16 Ap np ps) (hnp : np ≤ 9223372036854775807) (hrp : ∀ x ∈ ps, 0 ≤ x ∧ x ≤ 65535) (u0 : 0 ≤ u) (u1 : u ≤ 255) (hl : Sl w .u8 Al nl ls) (hnl : nl ≤ 9223372036854775807) (hrl : ∀ x ∈ ls, 0 ≤ x ∧ x ≤ 255) (s0 : 0 ≤ s) (s1 : s ≤ 65535) (me0 : 0 ≤ me) (me1 : me ≤ 255) (by_0 : 0 ≤ by_) (by_1 : by_ ≤ 255) :
  Calls Tryz.prog 5 #[.agg #[.slice Ap np cp, .int .u8 u, .slice Al nl cl, .int .u16 s], .int .u8 me, .int .u8 by_] w (YesP w) := by
 have HC := fun w (h : Sl w .u16 Ap np ps) => census_any Ap np cp ps u Al nl cl s w h hnp hrp u0 u1
 have HH := fun w => house_any Ap np cp u Al nl cl s w s0 s1
 have hok := draftC_ok u0 u1 hrp
 have hcs := draftC_census u0 u1 hrp
 have hhr := @houseN_range s
 obtain ⟨C, hC⟩ : ∃ C, draftC u ps = C := ⟨_, rfl⟩
 obtain ⟨h, hh⟩ : ∃ h, houseN s = h := ⟨_, rfl⟩
 rw [hC] at HC hok hcs
 rw [hh] at HH hhr
 have hc0 := hok.2.2.1
 have hc9 := hok.2.2.2
 have HCS := Lib.hid hcs
 have HCR := Lib.hid hok.1
 have hh0 := hhr.1
 have hh1 := hhr.2
 have HC' := Lib.hid HC
 have HH' := Lib.hid HH
 clear hrp hrl hC hh hok HC HH hcs hhr hl hnl
 go_enter Tryz.func5, Tryz.ntmps5
 go_wp2_with fail
 refine name1 (Q := fun W => Calls _ _ _ W _) ?_
 intro W1 L1 hs1 k1
 refine (wakes10 W1).mono ?_
 rintro e W2 ⟨rfl, l1⟩
 have L2 := L1.trans l1
 have k2 := k1.later l1
 have hp2 := hp.later L2
 clear l1 k1
 have HX := fun w (h : Lat W2 w) => HC'.out w (hp2.later h)
 go_upto_region 3 with (fail)
 go_cut [7, 8, 9] from 18 to 26 (fun c t k wx => ∃ Ac cc m, c = .slice Ac C.length cc ∧ t = .int .i64 (min h 30) ∧ k = .int .i64 m ∧ Sl wx .i64 Ac C.length C ∧ famB m = true ∧ Lat W2 wx)
 case first =>
  have hnn : w.heap.size ∉ ([] : List Nat) := by simp
  have b0 := k2.evS hnn 0 rfl
  have b1 := k2.evS hnn 1 rfl
  have b2 := k2.evS hnn 2 rfl
  have b3 := k2.evS hnn 3 rfl
  have L0 := Lat.drew W2
  have M0 := L0.s ([] : List Nat)
  obtain ⟨kk, hkk⟩ : ∃ kk, me.tmod 9 = kk := ⟨_, rfl⟩
  obtain ⟨mm, hmm, hix⟩ := idx9 (k := kk) (by rw [← hkk, Int.tmod_eq_emod_of_nonneg me0]; omega) (by rw [← hkk, Int.tmod_eq_emod_of_nonneg me0]; omega)
  go_region_held3 (fun w' => LatS W2 ([] : List Nat) w') (first | (with_reducible assumption) | ((repeat refine LatS.set ?_ (by simp) _); (with_reducible assumption)))
   (first
     | (go_at_call 9; (with_reducible refine (HX _ ?_).mono ?_); (first | exact LM | exact LN | exact L0); rintro e wc ⟨Ac, cc, rfl, q1, q2, q3, q4⟩; (first | have LC := LM.trans q3 | have LC := LN.trans q3 | have LC := L0.trans q3); have MC := LC.s ([] : List Nat))
     | (go_at_call 17; (with_reducible refine (methods10_any _).mono ?_); rintro e wn ⟨rfl, s3⟩; (first | have LN := LM.trans s3 | have LN := LC.trans s3 | have LN := L0.trans s3); have MN := LN.s ([] : List Nat))
     | (go_at_call 10; (with_reducible refine (HH'.out _).mono ?_); rintro e wm ⟨rfl, r3⟩; (first | have LM := LN.trans r3 | have LM := LC.trans r3 | have LM := L0.trans r3); have MM := LM.s ([] : List Nat)))
  all_goals
   go_wp2_with fail
   go_meet
   first
    | exact ⟨Ac, cc, _, rfl, rfl, rfl, (q1.later s3).later r3, hmm, LM⟩
    | exact ⟨Ac, cc, _, rfl, rfl, rfl, (q1.later r3).later s3, hmm, LN⟩
    | exact ⟨Ac, cc, _, rfl, rfl, rfl, q1.later r3, hmm, LM⟩
    | exact ⟨Ac, cc, _, rfl, rfl, rfl, q1, hmm, LC⟩
    | exact ⟨Ac, cc, _, rfl, rfl, rfl, q1.later s3, hmm, LN⟩
 case rest =>
  obtain ⟨Ac, cc, m, rfl, rfl, rfl, q1, hm, l3⟩ := hcut
  have L3 := L2.trans l3
  obtain ⟨t, ht⟩ : ∃ t, min h 30 = t := ⟨_, rfl⟩
  have t0 : 1 ≤ t := by omega
  have t1 : t ≤ 30 := by omega
  rw [ht]
  obtain ⟨V3, hV3⟩ : ∃ z, z = wc := ⟨_, rfl⟩
  rw [← hV3] at q1 L3 ⊢
  have HQ := Lib.hid q1
  have HL3 := Lib.hid L3
  have HM := Lib.hid hm
  have HT := Lib.hid (show 1 ≤ t ∧ t ≤ 1000 from ⟨t0, by omega⟩)
  clear hV3 ht hh0 hh1 HX HC' HH' hp2 k2 L2 l3 q1 L3 hm hp
  obtain ⟨b, hb⟩ : ∃ b, 1 + by_.tmod 30 = b := ⟨_, rfl⟩
  have hb0 : 1 ≤ b := by rw [← hb, Int.tmod_eq_emod_of_nonneg by_0]; omega
  have hb1 : b ≤ 30 := by rw [← hb, Int.tmod_eq_emod_of_nonneg by_0]; omega
  obtain ⟨bb, hbb⟩ : ∃ bb, by_.tmod 30 = bb := ⟨_, rfl⟩
  rw [hbb] at hb
  have hbb2 : Hid (by_.tmod 30 = bb) := hbb
  have hbb0 : 0 ≤ bb := by omega
  have hbb1 : bb ≤ 29 := by omega
  have e1 : wrap64 (1 + bb) = b := by rw [hb]; exact IntWalk.wrap64_in _ (by omega)
  have e2 : IntKind.i64.wrap (1 + bb) = b := by rw [hb]; exact IntWalk.i64_in _ (by omega)
  have e3 : IntKind.i64.wrap bb = bb := IntWalk.i64_in _ (by omega)
  have E1 := Lib.hid e1
  have E2 := Lib.hid e2
  have E3 := Lib.hid e3
  clear hbb hb e1 e2 e3
  have hcl := Lib.hid (cloneOwn_any Ac C.length cc C V3 HQ.out hc0 (by omega))
  go_wp2_with fail
  refine hcl.out.mono ?_
  rintro e W4 ⟨v4, rfl, ho, l4⟩
  obtain ⟨g4, c4, rfl, RS, hB4, hg4, hc4⟩ := Own.rowN ho hc0
  have HL4 := Lib.hid (HL3.out.trans l4)
  have hw4 : w.heap.size ≤ g4 := Nat.le_trans HL3.out.size hB4
  have LV4 := Lib.hid l4
  clear hcl ho hg4 l4
  go_wp2
  go_loopw [31] (fun i wr => ∃ j : Nat, j ≤ C.length ∧ i = .int .i64 (j : Nat) ∧ Hid (RowN wr g4 C.length (mulK C b j)) ∧ Hid (LatP (· = g4) W4 wr)) (fun i _ => C.length - (intOf i).toNat)
  case atStart => exact ⟨0, Nat.zero_le _, rfl, by show RowN _ _ _ _; simpa [mulK] using RS, LatP.refl _ _⟩
  case round =>
   clear RS
   obtain ⟨j, hj, rfl, RS, hlr⟩ := hrel
   by_cases hjn : j < C.length
   ·as_aux_lemma =>
    obtain ⟨x, hx⟩ : ∃ x, C[j]? = some x := ⟨_, List.getElem?_eq_getElem hjn⟩
    have hxb := HCR.out x (List.mem_of_getElem? hx)
    obtain ⟨m1, m2⟩ := mulK_at (b := b) hx
    have hjI : (j : Int) < (C.length : Int) := by omega
    have hj0 : (0 : Int) ≤ (j : Int) := by omega
    have s2 : wr.frozen? ⟨g4, j, none⟩ = false := by
     obtain ⟨_, _, _, h9⟩ := RS.out.slot (i := j) (by rw [mulK_len]; exact hjn)
     exact h9
    have s1 := RS.out.cell m1
    have hm0 := Int.mul_nonneg hxb.1 (show 0 ≤ b by omega)
    have hm1 := Int.mul_le_mul hxb.2 hb1 (by omega) (by omega)
    have RS2 := RS.out.set (i := j) (by rw [mulK_len]; exact hjn) (x * b)
    rw [m2] at RS2
    obtain ⟨y, hy⟩ : ∃ y, x * b = y := ⟨_, rfl⟩
    rw [hy] at hm0 hm1 RS2
    have w1 : wrap64 (x * b) = y := by rw [hy]; exact IntWalk.wrap64_in _ (by omega)
    have w2 : IntKind.i64.wrap (x * b) = y := by rw [hy]; exact IntWalk.i64_in _ (by omega)
    have hl9 := hlr.out.trans (Px.latP_set wr g4 j (.int .i64 y))
    have e0 := hbb2.out
    have e1 := E1.out
    have e2 := E2.out
    have e3 := E3.out
    clear hx m1 m2 hy hm0 hm1 hxb RS HCS HCR E1 E2 E3 hbb2 hb0 hb1
    go_wp2
    obtain ⟨W9, hW9⟩ : ∃ Z, wr.setCell ⟨g4, j, none⟩ (.int .i64 y) = Z := ⟨_, rfl⟩
    rw [hW9] at RS2 hl9
    try rw [hW9]
    go_roundw
    case rel =>
     have HRel : ∃ j' : Nat, j' ≤ C.length ∧ Value.int .i64 ((j : Int) + 1) = .int .i64 (j' : Nat) ∧ Hid (RowN W9 g4 C.length (mulK C b j')) ∧ Hid (LatP (· = g4) W4 W9) := ⟨j + 1, by omega, by go_num, RS2, hl9⟩
     first | exact HRel | exact ⟨_, HRel, rfl⟩
    case measure => simp [intOf]; omega
   ·as_aux_lemma =>
    obtain rfl : C.length = j := by omega
    have hmk : mulK C b C.length = C.map (· * b) := by unfold mulK; rw [List.take_length, List.drop_length, List.append_nil]
    have RSM : Hid (RowN wr g4 C.length (C.map (· * b))) := by rw [← hmk]; exact RS.out
    have LR : Hid (Lat w wr) := LatP.lat (M := (· = g4)) HL4.out hlr.out (fun q e => by subst e; exact hw4)
    have LVR : Hid (Lat V3 wr) := LatP.lat (M := (· = g4)) LV4.out hlr.out (fun q e => by subst e; exact hB4)
    have HQr := Lib.hid (HQ.out.later LVR.out)
    clear RS hlr hmk hj hjn E1 E2 E3 hbb2
    have hck := Lib.hid (qCheck_any (some ⟨g4, 0, none⟩) C.length c4 (C.map (· * b)) wr RSM.out.sl (by omega))
    cases hcb : censusB (C.map (· * b)) with
    | false =>
      have hck2 := hck.out
      rw [cenE_no hcb] at hck2
      clear hck hcb
      go_wp2_with fail
      refine hck2.mono ?_
      rintro e w5 ⟨rfl, rfl⟩
      clear hck2
      go_wp2
      go_ret
      exact ⟨rfl, LR.out⟩
    | true =>
      have hck2 := hck.out
      rw [cenE_yes hcb] at hck2
      have hE1 := pplE_ok HCS.out hcb (by rw [List.length_map]) HM.out HT.out
      have hE2 := pplE_ok hcb HCS.out (by rw [List.length_map]) HM.out HT.out
      have hp1 := peopleV_any Ac C.length cc C (some ⟨g4, 0, none⟩) C.length c4 (C.map (· * b)) t m wr HQr.out RSM.out.sl (by omega) (by omega)
      have hp2 := fun w' (h : Lat wr w') => peopleV_any (some ⟨g4, 0, none⟩) C.length c4 (C.map (· * b)) Ac C.length cc C t m w' (RSM.out.sl.later h) (HQr.out.later h) (by omega) (by omega)
      rw [(ppl_scaled C (decL C t m) (decL (C.map (· * b)) t m) b (decE C t m) (decE (C.map (· * b)) t m)).1] at hp1
      obtain ⟨x1, hx1⟩ : ∃ z, pplE C (C.map (· * b)) (decE C t m) (decE (C.map (· * b)) t m) = z := ⟨_, rfl⟩
      obtain ⟨x2, hx2⟩ : ∃ z, pplE (C.map (· * b)) C (decE (C.map (· * b)) t m) (decE C t m) = z := ⟨_, rfl⟩
      have hp2' : ∀ w', Lat wr w' → Calls Tryz.prog 15 #[.slice (some ⟨g4, 0, none⟩) C.length c4, .slice Ac C.length cc, .int .i64 t, .int .i64 m] w' (PrsPost w' [] x2) := fun w' h => by
       have h9 := hp2 w' h
       rw [(ppl_scaled C (decL (C.map (· * b)) t m) (decL C t m) b (decE (C.map (· * b)) t m) (decE C t m)).2, hx2] at h9
       exact h9
      rw [hx1] at hp1 hE1
      rw [hx2] at hE2
      have HP1 := Lib.hid hp1
      have HP2 := Lib.hid hp2'
      have HE1 := Lib.hid hE1
      have HE2 := Lib.hid hE2
      clear hck hcb hp1 hp2 hp2' hx1 hx2 hE1 hE2
      go_wp2_with fail
      refine hck2.mono ?_
      rintro e w5 ⟨rfl, rfl⟩
      clear hck2
      go_wp2_with fail
      refine HP1.out.mono ?_
      rintro e w6 ⟨v6, rfl, o6, l6⟩
      obtain ⟨A6, c6, rfl, _⟩ := o6.form
      rw [show (prs []).length = 0 from rfl]
      have hp2 := HP2.out w6 l6
      have L6 := Lib.hid (LR.out.trans l6)
      clear o6 HP1 HP2 l6
      go_wp2_with fail
      refine hp2.mono ?_
      rintro e w7 ⟨v7, rfl, o7, l7⟩
      obtain ⟨A7, c7, rfl, _⟩ := o7.form
      rw [show (prs []).length = 0 from rfl]
      have L7 := Lib.hid (L6.out.trans l7)
      clear o7 hp2 l7
      rcases HE1.out with rfl | rfl | rfl <;> rcases HE2.out with rfl | rfl | rfl
      all_goals
       go_wp2
       go_ret
       exact ⟨rfl, L7.out⟩
end Go.Proofs.YteocdndanehpnaaGreat
