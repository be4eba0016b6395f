/- Several texts in one: Sms. -/
import Derived.Test.YtbgngmamnonlbaaGreatH52
import Derived.Test.YtbgngmamnonlbaaGreatH50
namespace Go.Proofs.YtbgngmamnonlbaaGreat
open Go.RowKit
set_option linter.unusedSimpArgs false
set_option linter.unusedVariables false
set_option maxRecDepth 100000 in
set_option maxHeartbeats 80000000 in
theorem qSums_any (Ap : Option Addr) (np cp : Nat) (ps : List Int) (u : Int) (Al : Option Addr) (nl cl : Nat) (ls : List Int) (s me : Int) (w : World)
  (hp : Sl w .u16 Ap np ps) (hnp : np ≤ 9223372036854775807) (hrp : ∀ x ∈ ps, 0 ≤ x ∧ x ≤ 65535) (u0 : 0 ≤ u) (u1 : u ≤ 255) (hl : Sl w .u8 Al nl ls) (hnl : nl ≤ 9223372036854775807) (hrl : ∀ x ∈ ls, 0 ≤ x ∧ x ≤ 255) (s0 : 0 ≤ s) (s1 : s ≤ 65535) (a0 : 0 ≤ me) (a1 : me ≤ 255) :
  Calls Tryz.prog 8 #[.agg #[.slice Ap np cp, .int .u8 u, .slice Al nl cl, .int .u16 s], .int .u8 me] w (Yes6 w) := by
 have HC := fun w (h : Sl w .u16 Ap np ps) => census_any Ap np cp ps u Al nl cl s w h hnp hrp u0 u1
 have HM := fun w (h : Sl w .u16 Ap np ps) (h2 : Sl w .u8 Al nl ls) => draftMin_any Ap np cp ps u Al nl cl ls s w h hnp hrp u0 u1 h2 hnl hrl s0 s1
 have HH := fun w => house_any Ap np cp u Al nl cl s w s0 s1
 have hok := draftC_ok u0 u1 hrp
 have hmk := draftM_ok u s ps ls
 have hcs := draftC_census u0 u1 hrp
 have hhr := @houseN_range s
 obtain ⟨C, hC⟩ : ∃ C, draftC u ps = C := ⟨_, rfl⟩
 obtain ⟨M, hM⟩ : ∃ M, draftM u s ps ls = M := ⟨_, rfl⟩
 obtain ⟨h, hh⟩ : ∃ h, houseN s = h := ⟨_, rfl⟩
 rw [hC] at HC hok hcs hmk
 rw [hM] at HM hmk
 rw [hh] at HH hhr hmk
 have hc0 := hok.2.2.1
 have hc9 := hok.2.2.2
 have HCP := Lib.hid hok.1
 have HCS := Lib.hid hcs
 have HMK := Lib.hid hmk
 have hh0 := hhr.1
 have hh1 := hhr.2
 have HC' := Lib.hid HC
 have HM' := Lib.hid HM
 have HH' := Lib.hid HH
 clear hrp hrl hC hM hh hok hmk HC HM HH hcs hhr
 obtain ⟨kk, hkk⟩ : ∃ kk, me.tmod 4 = kk := ⟨_, rfl⟩
 have hk0 : 0 ≤ kk := by rw [← hkk, Int.tmod_eq_emod_of_nonneg a0]; omega
 have hk3 : kk ≤ 3 := by rw [← hkk, Int.tmod_eq_emod_of_nonneg a0]; omega
 have t2 : IntKind.i64.wrap kk = kk := IntWalk.i64_in _ (by omega)
 have t3 : IntKind.i64.wrap (1 + kk) = 1 + kk := IntWalk.i64_in _ (by omega)
 go_enter Tryz.func8, Tryz.ntmps8
 go_wp2_with fail
 refine name1 (Q := fun W => Calls _ _ _ W _) ?_
 intro W1 L1 hs1 kd
 refine (wakes6 W1).mono ?_
 rintro e W2 ⟨rfl, l1⟩
 have L2 := L1.trans l1
 have kd := kd.later l1
 have hp2 := hp.later L2
 have hl2 := hl.later L2
 clear l1
 have HX := fun w (h : Lat W2 w) => HC'.out w (hp2.later h)
 have HY := Lib.hid (fun w (h : Lat W2 w) => HM'.out w (hp2.later h) (hl2.later h))
 go_upto_region 3 with (fail)
 go_cut [5, 6, 7] from 27 to 34 (fun c b t wx => ∃ Ac cc, c = .slice Ac C.length cc ∧ t = .int .i64 h ∧ b = .int .i64 (1 + kk) ∧ Sl wx .i64 Ac C.length C ∧ C.length ≤ cc ∧ Lat W2 wx)
 case first =>
  have hnn : w.heap.size ∉ ([] : List Nat) := by simp
  have b0 := kd.evS hnn 0 rfl
  have b1 := kd.evS hnn 1 rfl
  have b2 := kd.evS hnn 2 rfl
  have b3 := kd.evS hnn 3 rfl
  have L0 := Lat.drew W2
  have M0 := L0.s ([] : List Nat)
  go_region_held3 (fun w' => LatS W2 ([] : List Nat) w') (first | (with_reducible assumption) | ((repeat refine LatS.set ?_ (by simp) _); (with_reducible assumption)))
   (first
     | (go_at_call 28; (with_reducible refine (HX _ L0).mono ?_); rintro e wc ⟨Ac, cc, rfl, q1, q2, q3, q4⟩; have LC := L0.trans q3; have MC := LC.s ([] : List Nat))
     | (go_at_call 17; (with_reducible refine (HH'.out _).mono ?_); rintro e wm ⟨rfl, r3⟩; have LM := LC.trans r3; have MM := LM.s ([] : List Nat)))
  all_goals
   go_wp2_with fail
   go_meet
   exact ⟨Ac, cc, rfl, rfl, rfl, q1.later r3, q2, LM⟩
 case rest =>
  obtain ⟨Ac, cc, rfl, rfl, rfl, q1, qc1, l3⟩ := hcut
  have L3 := L2.trans l3
  have hcn : C.length ≤ 17000000000000 := by omega
  obtain ⟨k, hk⟩ : ∃ k, 1 + kk = k := ⟨_, rfl⟩
  have k1 : 1 ≤ k := by omega
  have k4 : k ≤ 4 := by omega
  rw [hk]
  have kd := kd.later l3
  have hMb : ∀ x ∈ M, 0 ≤ x := fun x hx => (HMK.out.2.2 x hx).1
  have hml := HMK.out.1
  have HLOW : Hid (LowIs C.length M.length M M h) := ⟨HMK.out.1, fun x hx => ⟨hMb x hx, Int.le_trans (mem_le_sum hMb x hx) HMK.out.2.1⟩, HMK.out.2.1, .inr ⟨HMK.out.1, rfl⟩⟩
  have hCn : ∀ x ∈ C, 0 ≤ x := fun x hx => (HCP.out x hx).1
  have hCz := (census_iff.1 HCS.out).2.2
  have HHA := Lib.hid (giveQ_hare (s := h) hCn hMb hml HMK.out.2.1 hCz)
  obtain ⟨B, hB1, hB2, hB3, hB4⟩ := giveQ_hare0 (s := h) hCn (by omega) hCz
  have HB1 := Lib.hid hB1
  have HB4 := Lib.hid hB4
  obtain ⟨F, hF⟩ : ∃ F, giveQ k C M h = F := ⟨_, rfl⟩
  have HQO : Hid (∀ A, F = some A → QuoOk (atI C) (atI M) (List.range C.length) (List.replicate C.length 0) h A) := fun A hA => giveQ_ok hCn hMb hml HMK.out.2.1 (hF.trans hA)
  have HF := Lib.hid hF
  have HB3 := Lib.hid hB3
  have HMb := Lib.hid hMb
  have HML := Lib.hid hml
  have HB2 := Lib.hid hB2
  clear hml hB2 L2 HMK hF hMb hCn hk0 hk3 t2 t3 hkk HX HH' HM' HC' hB1 hB3 hB4 hCz
  have e0 := kd.cell 0
  have e1 := kd.cell 1
  have e2 := kd.cell 2
  have e3 := kd.cell 3
  go_wp2_with fail
  refine (HY.out wc l3).mono ?_
  rintro e w6 ⟨Am, cm, rfl, r1, rc1, l6, _⟩
  clear e0 e1 e2 e3 kd HY
  replace q1 := q1.later l6
  have Lr := L3.trans l6
  clear L3 l3 l6
  go_wp2_with fail
  refine (give_any Ac C.length cc C Am M.length cm M M h k w6 q1 r1 hc0 (by omega) HCS.out hh0 hh1 k1 k4 HLOW.out).mono ?_
  rintro e w7 hp7
  rw [HF.out] at hp7
  cases F with
  | none =>
    as_aux_lemma =>
    obtain ⟨l7, h7⟩ := hp7
    obtain rfl : e = _ := h7
    have hk1 : k ≠ 1 := by
     rintro rfl
     obtain ⟨A, hA⟩ := HHA.out
     rw [HF.out] at hA
     cases hA
    have hkb : (k != 1) = true := by simp [hk1]
    clear hk1 HHA HF HB1 HB4 HQO HLOW HCS HMb HB3
    go_wp2
    go_ret
    exact ⟨rfl, (Lr.trans l7).trans (Lat.alloc _ _)⟩
  | some A =>
    obtain ⟨l7, gS, cS, At, ct, rfl, s1, s2, s3, _, _⟩ := hp7
    have hsi := sumsIs (k := k) (HQO.out A rfl) HMb.out HML.out
    revert hsi s1 s2 s3
    generalize A.seats = S
    generalize A.tied = T
    generalize A.left = o
    intro s1 s2 s3 hsi
    have HSI := Lib.hid hsi
    have hob := hsi.sum
    have hS0 := sum_nn hsi.nn
    have ho0 : 0 ≤ o := by rcases hsi.left with ⟨_, h9⟩ | ⟨h9, _⟩ <;> omega
    have hTn : T.length ≤ 9 := Nat.le_trans (asc_len hsi.asc hsi.lt) hc9
    obtain ⟨su, hsu⟩ : ∃ z, S.sum = z := ⟨_, rfl⟩
    rw [hsu] at hob hS0
    have HSU := Lib.hid hsu
    obtain ⟨mt, hmt⟩ : ∃ z, T.length = z := ⟨_, rfl⟩
    rw [hmt] at s2 s3 hTn ⊢
    have HMT := Lib.hid hmt
    clear hsi HQO HF HHA hsu hmt
    go_upto_region 6 with (fail)
    refine name1 (Q := fun W => Code.wp _ _ _ _ W) ?_
    intro w8 l8 _ k9
    have l78 := l7.trans l8
    replace q1 := q1.later l78
    replace r1 := r1.later l78
    replace s1 := s1.later l8
    replace s2 := s2.later l8
    replace Lr := Lr.trans l78
    obtain ⟨g9, hg9⟩ : ∃ z, w7.heap.size = z := ⟨_, rfl⟩
    rw [hg9] at k9 ⊢
    rw [HML.out] at r1 ⊢
    clear l7 l8 l78 hg9
    have c0 := k9.cell 0
    have c1 := k9.cell 1
    have c2 := k9.cell 2
    go_wp2
    go_loopw [71, 11] (fun it ts wr => ∃ j : Nat, j ≤ C.length ∧ it = .int .i64 (j : Nat) ∧ ts = .int .i64 (o + (S.take j).sum) ∧ Lat w8 wr) (fun it _ _ => C.length - (intOf it).toNat)
    case atStart => exact ⟨0, Nat.zero_le _, rfl, by simp, Lat.refl _⟩
    case round =>
     obtain ⟨j, hj, rfl, rfl, hlr⟩ := hrel
     clear c0 c1 c2
     by_cases hjn : j < C.length
     ·as_aux_lemma =>
      obtain ⟨x, hx⟩ : ∃ x, S[j]? = some x := ⟨_, List.getElem?_eq_getElem (by rw [HSI.out.len]; exact hjn)⟩
      obtain ⟨m, hm⟩ : ∃ m, M[j]? = some m := ⟨_, List.getElem?_eq_getElem (by rw [HML.out]; exact hjn)⟩
      have hmx := HSI.out.low j x m hx hm
      have hx0 := HSI.out.nn x (List.mem_of_getElem? hx)
      have ht := take_sum HSI.out.nn j
      have ht2 := take_sum HSI.out.nn (j + 1)
      have hsn := take_snoc hx
      have HSN := Lib.hid hsn
      rw [hsn, HSU.out] at ht2
      rw [HSU.out] at ht
      have hxc := (s1.later hlr).cell hx
      obtain ⟨am, m', hAm, _, hm', hmc⟩ := (r1.later hlr).at hjn
      rw [hm] at hm'
      obtain rfl := Option.some.inj hm'
      subst hAm
      obtain ⟨sj, hsj⟩ : ∃ z, (S.take j).sum = z := ⟨_, rfl⟩
      rw [hsj] at ht ht2 HSN ⊢
      have hjI : (j : Int) < (C.length : Int) := by omega
      have hj0 : (0 : Int) ≤ (j : Int) := by omega
      have hnl : ¬ x < m := by omega
      have w1 : wrap64 (o + sj + x) = o + sj + x := IntWalk.wrap64_in _ (by omega)
      have w2 : IntKind.i64.wrap (o + sj + x) = o + sj + x := IntWalk.i64_in _ (by omega)
      have HE : Hid (o + sj + x = o + (S.take (j + 1)).sum) := by show _ = _; rw [HSN.out]; omega
      clear hx hm hsn hsj hm' ht ht2 HSI HSN HB4 HB1 HLOW HCS HB3
      go_wp2
      go_roundw
      case rel =>
       have HRel : ∃ j' : Nat, j' ≤ C.length ∧ Value.int .i64 ((j : Int) + 1) = .int .i64 (j' : Nat) ∧ Value.int .i64 (o + sj + x) = .int .i64 (o + (S.take j').sum) ∧ Lat w8 wr := ⟨j + 1, by omega, by go_num, by rw [HE.out], hlr⟩
       first | exact HRel | exact ⟨_, HRel, rfl⟩ | exact ⟨_, _, HRel, rfl⟩ | exact ⟨_, _, _, HRel, rfl⟩
      case measure => simp [intOf]; omega
     ·as_aux_lemma =>
      obtain rfl : C.length = j := by omega
      rw [List.take_of_length_le (by rw [HSI.out.len]; exact Nat.le_refl _), HSU.out, show o + su = h by omega]
      replace k9 := k9.later hlr
      replace q1 := q1.later hlr
      replace s1 := s1.later hlr
      replace s2 := s2.later hlr
      replace Lr := Lr.trans hlr
      clear hlr r1 hj hjn
      obtain ⟨w8b, rfl⟩ : ∃ W, W = wr := ⟨wr, rfl⟩
      have c0 := k9.cell 0
      have c1 := k9.cell 1
      have c2 := k9.cell 2
      go_wp2
      rename_i Qx Ka Aa Kb Ab
      clear Aa Ka Qx
      go_loopw [89] (fun it wr => ∃ j : Nat, j ≤ mt ∧ it = .int .i64 (j : Nat) ∧ Lat w8b wr) (fun it _ => mt - (intOf it).toNat)
      case atStart => exact ⟨0, Nat.zero_le _, rfl, Lat.refl _⟩
      case round =>
       obtain ⟨j, hj, rfl, hlr⟩ := hrel
       clear c0 c1 c2
       by_cases hjn : j < mt
       ·as_aux_lemma =>
        obtain ⟨t, ht⟩ : ∃ t, T[j]? = some t := ⟨_, List.getElem?_eq_getElem (by rw [HMT.out]; exact hjn)⟩
        have hmem := List.mem_of_getElem? ht
        have htn := HSI.out.lt t hmem
        obtain ⟨p, hp⟩ : ∃ p, C[t]? = some p := ⟨_, List.getElem?_eq_getElem htn⟩
        have hpp := HSI.out.people t p hmem hp
        obtain ⟨b2, o2, hA2, _⟩ := s2.plain (by omega)
        subst hA2
        have hx2 : (T.map fun t : Nat => (t : Int))[j]? = some (t : Int) := by rw [List.getElem?_map, ht]; rfl
        have hc2 := sl_cell (s2.later hlr) hx2
        obtain ⟨b1, o1, hA1, _⟩ := q1.plain hc0
        subst hA1
        have hjI : (j : Int) < (mt : Int) := by omega
        have hj0 : (0 : Int) ≤ (j : Int) := by omega
        have ht0 : ¬ (t : Int) < 0 := by omega
        have ht00 : (0 : Int) ≤ (t : Int) := by omega
        have htl : ¬ (C.length : Int) ≤ (t : Int) := by omega
        have htl2 : (t : Int) < (C.length : Int) := by omega
        have hpb : (p == 0) = false := by simp; omega
        have HC1 : Hid (∀ w', Lat wr w' → w'.cell? ⟨b1, o1 + t, none⟩ = some (.int .i64 p)) := fun w' h => sl_cell ((q1.later hlr).later h) hp
        have HT0 := Lib.hid ht0
        have HT1 := Lib.hid ht00
        have HT2 := Lib.hid htl
        have HT3 := Lib.hid htl2
        have HT4 := Lib.hid hpb
        clear hpp ht0 ht00 htl htl2 hpb
        by_cases hz : j = 0
        ·as_aux_lemma =>
         have HZ := Lib.hid hz
         clear hp hx2 hmem ht HSI HB4 HB1 HLOW HCS HB3 hz
         go_upto_region 21 with (fail)
         rename_i KN hKN
         refine wp_region_slotsN (sm21a_rows b1 o1 C.length cc g9 t j p) (sm21a_base b1 o1 C.length cc g9 t j p _ _ _ _ _ _ _ _ _ _ _ _ _ _ _ _ _ _ _ _ _ _ _ _ _ _ _ _ _ _ _ _ _ _ _ _ _ _ _ _ _ _ _ _ _ _ _ _ _ _ _ _ _ _ _ _ _ _ _ _ _ _ _ _ _ _ _ _ _ _ _ _ _ _ _ _ _ _ _ _ _ _ _ _ _ _ _ _ _ _ _ _ _ _ _ _ _ _ _ _ _ _ _ _ _ _ _ _ _ _ _ _ _ _ _ _ _ _ _ _ _ _ _ _ _ _ _ _ _ _ _ _ _ _ _ _ _ _ _ _ _ _ _ _ _ _ _ _ _ _ _ _ _ _ _ _ _ _ _ _ _ _ _ _ _ _ _ _ _ _ _ _ _ _ _ _ _ _ _ _ _ _ _ _ _ _ _ _ _ _ _ _ _ _ _ _ _ _ _) 232 29 [[], [0], [1], [2], [2], [4, 2], [3, 5, 2], [2, 6], [7, 2], [8], [8], [9, 10, 8], [11, 8], [12, 8], [8, 13], [14, 8], [15], [16, 15], [17, 15, 15], [18], [18], [20, 18], [18], [22, 18], [21, 23, 18], [24, 18], [19, 25, 18], [18, 26, 15], [15, 27]] (by kernel_rfl) (by kernel_rfl) (by kernel_rfl) (by kernel_rfl) (by kernel_rfl) (by kernel_rfl) (by rfl) rfl (base_of (by repeat (first | exact base_nil _ | refine base_consL rfl ?_))) (sm21a_steps wr b1 o1 C.length cc g9 t j p _ _ _ _ _ _ _ _ _ _ _ _ _ _ _ _ _ _ _ _ _ _ _ _ _ _ _ _ _ _ _ _ _ _ _ _ _ _ _ _ _ _ _ _ _ _ _ _ _ _ _ _ _ _ _ _ _ _ _ _ _ _ _ _ _ _ _ _ _ _ _ _ _ _ _ _ _ _ _ _ _ _ _ _ _ _ _ _ _ _ _ _ _ _ _ _ _ _ _ _ _ _ _ _ _ _ _ _ _ _ _ _ _ _ _ _ _ _ _ _ _ _ _ _ _ _ _ _ _ _ _ _ _ _ _ _ _ _ _ _ _ _ _ _ _ _ _ _ _ _ _ _ _ _ _ _ _ _ _ _ _ _ _ _ _ _ _ _ _ _ _ _ _ _ _ _ _ _ _ _ _ _ _ _ _ _ _ _ _ _ _ _ _ _ _ _ _ _ _ (by have h9 := HT0.out; omega) (by have h9 := HT1.out; omega) (by have h9 := HT2.out; omega) (by have h9 := HT3.out; omega) (by have h9 := HT4.out; simpa using h9) HC1.out (by have h9 := HZ.out; omega)) ?_
         ·intro a9 W9 hsz9 hdf9 hL9 hbs hsl
          obtain ⟨v9, h9, q9⟩ := hsl 28 _ _ rfl rfl
          obtain rfl : v9 = .bool false := q9
          have w122 := slot_getD h9
          clear h9
          refine hKN _ _ ?_
          obtain ⟨T9, df9⟩ := a9
          obtain rfl : df9 = [] := hdf9
          obtain ⟨f, hf, rfl⟩ := spell232 T9 hsz9
          have Y := fun k {v} h => (hf k).trans (slot_getD (hbs k v h))
          have x122 := (hf 122).trans w122
          clear hbs hsl hf hsz9 hKN w122
          simp only [Y 5 rfl, Y 9 rfl, Y 14 rfl, Y 15 rfl, Y 0 rfl, Y 1 rfl, Y 2 rfl, Y 3 rfl, Y 4 rfl, Y 6 rfl, Y 7 rfl, Y 8 rfl, Y 10 rfl, Y 11 rfl, Y 12 rfl, Y 13 rfl, Y 16 rfl, Y 17 rfl, Y 18 rfl, Y 19 rfl, Y 20 rfl, Y 21 rfl, Y 22 rfl, Y 23 rfl, Y 24 rfl, Y 25 rfl, Y 26 rfl, Y 27 rfl, Y 28 rfl, Y 29 rfl, Y 30 rfl, Y 31 rfl, Y 32 rfl, Y 33 rfl, Y 34 rfl, Y 35 rfl, Y 36 rfl, Y 37 rfl, Y 38 rfl, Y 39 rfl, Y 40 rfl, Y 41 rfl, Y 42 rfl, Y 43 rfl, Y 44 rfl, Y 45 rfl, Y 46 rfl, Y 47 rfl, Y 48 rfl, Y 49 rfl, Y 50 rfl, Y 51 rfl, Y 52 rfl, Y 53 rfl, Y 54 rfl, Y 55 rfl, Y 56 rfl, Y 57 rfl, Y 58 rfl, Y 59 rfl, Y 60 rfl, Y 61 rfl, Y 62 rfl, Y 63 rfl, Y 64 rfl, Y 65 rfl, Y 66 rfl, Y 67 rfl, Y 68 rfl, Y 69 rfl, Y 70 rfl, Y 71 rfl, Y 72 rfl, Y 73 rfl, Y 74 rfl, Y 75 rfl, Y 76 rfl, Y 77 rfl, Y 78 rfl, Y 79 rfl, Y 80 rfl, Y 81 rfl, Y 82 rfl, Y 83 rfl, Y 84 rfl, Y 85 rfl, Y 86 rfl, Y 87 rfl, Y 88 rfl, Y 89 rfl, Y 90 rfl, Y 91 rfl, Y 92 rfl, Y 93 rfl, Y 123 rfl, Y 124 rfl, Y 125 rfl, Y 126 rfl, Y 127 rfl, Y 128 rfl, Y 129 rfl, Y 130 rfl, Y 131 rfl, Y 132 rfl, Y 133 rfl, Y 134 rfl, Y 135 rfl, Y 136 rfl, Y 137 rfl, Y 138 rfl, Y 139 rfl, Y 140 rfl, Y 141 rfl, Y 142 rfl, Y 143 rfl, Y 144 rfl, Y 145 rfl, Y 146 rfl, Y 147 rfl, Y 148 rfl, Y 149 rfl, Y 150 rfl, Y 151 rfl, Y 152 rfl, Y 153 rfl, Y 154 rfl, Y 155 rfl, Y 156 rfl, Y 157 rfl, Y 158 rfl, Y 159 rfl, Y 160 rfl, Y 161 rfl, Y 162 rfl, Y 163 rfl, Y 164 rfl, Y 165 rfl, Y 166 rfl, Y 167 rfl, Y 168 rfl, Y 169 rfl, Y 170 rfl, Y 171 rfl, Y 172 rfl, Y 173 rfl, Y 174 rfl, Y 175 rfl, Y 176 rfl, Y 177 rfl, Y 178 rfl, Y 179 rfl, Y 180 rfl, Y 181 rfl, Y 182 rfl, Y 183 rfl, Y 184 rfl, Y 185 rfl, Y 186 rfl, Y 187 rfl, Y 188 rfl, Y 189 rfl, Y 190 rfl, Y 191 rfl, Y 192 rfl, Y 193 rfl, Y 194 rfl, Y 195 rfl, Y 196 rfl, Y 197 rfl, Y 198 rfl, Y 199 rfl, Y 200 rfl, Y 201 rfl, Y 202 rfl, Y 203 rfl, Y 204 rfl, Y 205 rfl, Y 206 rfl, Y 207 rfl, Y 208 rfl, Y 209 rfl, Y 210 rfl, Y 211 rfl, Y 212 rfl, Y 213 rfl, Y 214 rfl, Y 215 rfl, Y 216 rfl, Y 217 rfl, Y 218 rfl, Y 219 rfl, Y 220 rfl, Y 221 rfl, Y 222 rfl, Y 223 rfl, Y 224 rfl, Y 225 rfl, Y 226 rfl, Y 227 rfl, Y 228 rfl, Y 229 rfl, Y 230 rfl, Y 231 rfl, x122]
          clear x122 Y
          go_wp2
          go_roundw
          case rel =>
           have HRel : ∃ j' : Nat, j' ≤ mt ∧ Value.int .i64 ((j : Int) + 1) = .int .i64 (j' : Nat) ∧ Lat w8b W9 := ⟨j + 1, by omega, by go_num, hlr.trans hL9⟩
           first | exact HRel | exact ⟨_, HRel, rfl⟩ | exact ⟨_, _, HRel, rfl, rfl⟩ | exact ⟨_, _, _, HRel, rfl, rfl, rfl⟩ | exact ⟨_, _, _, _, HRel, rfl, rfl, rfl, rfl⟩ | exact ⟨_, _, _, _, _, HRel, rfl, rfl, rfl, rfl, rfl⟩ | exact ⟨_, _, _, _, _, _, HRel, rfl, rfl, rfl, rfl, rfl, rfl⟩ | exact ⟨_, _, _, _, _, _, _, HRel, rfl, rfl, rfl, rfl, rfl, rfl, rfl⟩ | exact ⟨_, _, _, _, _, _, _, _, HRel, rfl, rfl, rfl, rfl, rfl, rfl, rfl, rfl⟩ | exact ⟨_, _, _, _, _, _, _, _, _, HRel, rfl, rfl, rfl, rfl, rfl, rfl, rfl, rfl, rfl⟩
          case measure => simp [intOf]; omega
        ·as_aux_lemma =>
         obtain ⟨i, hji⟩ : ∃ i, j = i + 1 := ⟨j - 1, by omega⟩
         obtain ⟨t', ht'⟩ : ∃ t, T[i]? = some t := ⟨_, List.getElem?_eq_getElem (by rw [HMT.out]; omega)⟩
         have hlt : t' < t := by
          subst hji
          obtain ⟨h1, e1⟩ := List.getElem?_eq_some_iff.1 ht'
          obtain ⟨h2, e2⟩ := List.getElem?_eq_some_iff.1 ht
          have := List.pairwise_iff_getElem.1 HSI.out.asc i (i + 1) h1 h2 (by omega)
          rw [e1, e2] at this
          exact this
         have hx3 : (T.map fun t : Nat => (t : Int))[i]? = some (t' : Int) := by rw [List.getElem?_map, ht']; rfl
         have HC2 : Hid (∀ w', Lat wr w' → w'.cell? ⟨b2, o2 + i, none⟩ = some (.int .i64 (t' : Int))) := fun w' h => sl_cell ((s2.later hlr).later h) hx3
         have HC9 : Hid (∀ w', Lat wr w' → w'.cell? ⟨g9, 1, none⟩ = some (.slice (some ⟨b2, o2, none⟩) mt ct)) := fun w' h => ((k9.later hlr).later h).cell 1
         have hzp : 0 < j := by omega
         have hji1 : (j : Int) - 1 = (i : Int) := by omega
         have hw1 : Hid (wrap64 ((j : Int) - 1) = (i : Int)) := by show _ = _; rw [hji1]; exact IntWalk.wrap64_in _ (by omega)
         have hw2 : Hid (IntKind.i64.wrap ((j : Int) - 1) = (i : Int)) := by show _ = _; rw [hji1]; exact IntWalk.i64_in _ (by omega)
         have hi0 : (0 : Int) ≤ (i : Int) := by omega
         have hil : (i : Int) < (mt : Int) := by omega
         have hle : ¬ (t : Int) ≤ (t' : Int) := by omega
         have HT5 := Lib.hid hzp
         have HT6 := Lib.hid hi0
         have HT7 := Lib.hid hil
         have HT8 := Lib.hid hle
         clear hp hx2 hmem ht HSI HB4 HB1 HLOW HCS HB3 ht' hx3 hji1 hlt hji hz hzp hi0 hil hle
         go_upto_region 21 with (fail)
         rename_i KN hKN
         refine wp_region_slotsN (sm21b_rows b1 o1 C.length cc g9 t j p b2 o2 mt ct i t') (sm21b_base b1 o1 C.length cc g9 t j p b2 o2 mt ct i t' _ _ _ _ _ _ _ _ _ _ _ _ _ _ _ _ _ _ _ _ _ _ _ _ _ _ _ _ _ _ _ _ _ _ _ _ _ _ _ _ _ _ _ _ _ _ _ _ _ _ _ _ _ _ _ _ _ _ _ _ _ _ _ _ _ _ _ _ _ _ _ _ _ _ _ _ _ _ _ _ _ _ _ _ _ _ _ _ _ _ _ _ _ _ _ _ _ _ _ _ _ _ _ _ _ _ _ _ _ _ _ _ _ _ _ _ _ _ _ _ _ _ _ _ _ _ _ _ _ _ _ _ _ _ _ _ _ _ _ _ _ _ _ _ _ _ _ _ _ _ _ _ _ _ _ _ _ _ _ _ _ _ _ _ _ _ _ _ _ _ _ _ _ _ _ _ _ _ _ _ _ _ _ _ _ _ _ _ _ _ _ _ _ _ _ _ _ _ _) 232 29 [[], [0], [1], [2], [2], [4, 2], [3, 5, 2], [2, 6], [7, 2], [8], [8], [9, 10, 8], [11, 8], [12, 8], [8, 13], [14, 8], [15], [16, 15], [17, 15, 15], [18], [18], [20, 18], [18], [22, 18], [21, 23, 18], [24, 18], [19, 25, 18], [18, 26, 15], [15, 27]] (by kernel_rfl) (by kernel_rfl) (by kernel_rfl) (by kernel_rfl) (by kernel_rfl) (by kernel_rfl) (by rfl) rfl (base_of (by repeat (first | exact base_nil _ | refine base_consL rfl ?_))) (sm21b_steps wr b1 o1 C.length cc g9 t j p b2 o2 mt ct i t' _ _ _ _ _ _ _ _ _ _ _ _ _ _ _ _ _ _ _ _ _ _ _ _ _ _ _ _ _ _ _ _ _ _ _ _ _ _ _ _ _ _ _ _ _ _ _ _ _ _ _ _ _ _ _ _ _ _ _ _ _ _ _ _ _ _ _ _ _ _ _ _ _ _ _ _ _ _ _ _ _ _ _ _ _ _ _ _ _ _ _ _ _ _ _ _ _ _ _ _ _ _ _ _ _ _ _ _ _ _ _ _ _ _ _ _ _ _ _ _ _ _ _ _ _ _ _ _ _ _ _ _ _ _ _ _ _ _ _ _ _ _ _ _ _ _ _ _ _ _ _ _ _ _ _ _ _ _ _ _ _ _ _ _ _ _ _ _ _ _ _ _ _ _ _ _ _ _ _ _ _ _ _ _ _ _ _ _ _ _ _ _ _ _ _ _ _ _ _ (by have h9 := HT0.out; omega) (by have h9 := HT1.out; omega) (by have h9 := HT2.out; omega) (by have h9 := HT3.out; omega) (by have h9 := HT4.out; simpa using h9) HC1.out (by have h9 := HT5.out; omega) hw1.out hw2.out (by have h9 := HT6.out; omega) (by have h9 := HT7.out; omega) (by have h9 := HT8.out; omega) HC9.out HC2.out) ?_
         ·intro a9 W9 hsz9 hdf9 hL9 hbs hsl
          obtain ⟨v9, h9, q9⟩ := hsl 28 _ _ rfl rfl
          obtain rfl : v9 = .bool false := q9
          have w122 := slot_getD h9
          clear h9
          refine hKN _ _ ?_
          obtain ⟨T9, df9⟩ := a9
          obtain rfl : df9 = [] := hdf9
          obtain ⟨f, hf, rfl⟩ := spell232 T9 hsz9
          have Y := fun k {v} h => (hf k).trans (slot_getD (hbs k v h))
          have x122 := (hf 122).trans w122
          clear hbs hsl hf hsz9 hKN w122
          simp only [Y 5 rfl, Y 9 rfl, Y 14 rfl, Y 15 rfl, Y 0 rfl, Y 1 rfl, Y 2 rfl, Y 3 rfl, Y 4 rfl, Y 6 rfl, Y 7 rfl, Y 8 rfl, Y 10 rfl, Y 11 rfl, Y 12 rfl, Y 13 rfl, Y 16 rfl, Y 17 rfl, Y 18 rfl, Y 19 rfl, Y 20 rfl, Y 21 rfl, Y 22 rfl, Y 23 rfl, Y 24 rfl, Y 25 rfl, Y 26 rfl, Y 27 rfl, Y 28 rfl, Y 29 rfl, Y 30 rfl, Y 31 rfl, Y 32 rfl, Y 33 rfl, Y 34 rfl, Y 35 rfl, Y 36 rfl, Y 37 rfl, Y 38 rfl, Y 39 rfl, Y 40 rfl, Y 41 rfl, Y 42 rfl, Y 43 rfl, Y 44 rfl, Y 45 rfl, Y 46 rfl, Y 47 rfl, Y 48 rfl, Y 49 rfl, Y 50 rfl, Y 51 rfl, Y 52 rfl, Y 53 rfl, Y 54 rfl, Y 55 rfl, Y 56 rfl, Y 57 rfl, Y 58 rfl, Y 59 rfl, Y 60 rfl, Y 61 rfl, Y 62 rfl, Y 63 rfl, Y 64 rfl, Y 65 rfl, Y 66 rfl, Y 67 rfl, Y 68 rfl, Y 69 rfl, Y 70 rfl, Y 71 rfl, Y 72 rfl, Y 73 rfl, Y 74 rfl, Y 75 rfl, Y 76 rfl, Y 77 rfl, Y 78 rfl, Y 79 rfl, Y 80 rfl, Y 81 rfl, Y 82 rfl, Y 83 rfl, Y 84 rfl, Y 85 rfl, Y 86 rfl, Y 87 rfl, Y 88 rfl, Y 89 rfl, Y 90 rfl, Y 91 rfl, Y 92 rfl, Y 93 rfl, Y 123 rfl, Y 124 rfl, Y 125 rfl, Y 126 rfl, Y 127 rfl, Y 128 rfl, Y 129 rfl, Y 130 rfl, Y 131 rfl, Y 132 rfl, Y 133 rfl, Y 134 rfl, Y 135 rfl, Y 136 rfl, Y 137 rfl, Y 138 rfl, Y 139 rfl, Y 140 rfl, Y 141 rfl, Y 142 rfl, Y 143 rfl, Y 144 rfl, Y 145 rfl, Y 146 rfl, Y 147 rfl, Y 148 rfl, Y 149 rfl, Y 150 rfl, Y 151 rfl, Y 152 rfl, Y 153 rfl, Y 154 rfl, Y 155 rfl, Y 156 rfl, Y 157 rfl, Y 158 rfl, Y 159 rfl, Y 160 rfl, Y 161 rfl, Y 162 rfl, Y 163 rfl, Y 164 rfl, Y 165 rfl, Y 166 rfl, Y 167 rfl, Y 168 rfl, Y 169 rfl, Y 170 rfl, Y 171 rfl, Y 172 rfl, Y 173 rfl, Y 174 rfl, Y 175 rfl, Y 176 rfl, Y 177 rfl, Y 178 rfl, Y 179 rfl, Y 180 rfl, Y 181 rfl, Y 182 rfl, Y 183 rfl, Y 184 rfl, Y 185 rfl, Y 186 rfl, Y 187 rfl, Y 188 rfl, Y 189 rfl, Y 190 rfl, Y 191 rfl, Y 192 rfl, Y 193 rfl, Y 194 rfl, Y 195 rfl, Y 196 rfl, Y 197 rfl, Y 198 rfl, Y 199 rfl, Y 200 rfl, Y 201 rfl, Y 202 rfl, Y 203 rfl, Y 204 rfl, Y 205 rfl, Y 206 rfl, Y 207 rfl, Y 208 rfl, Y 209 rfl, Y 210 rfl, Y 211 rfl, Y 212 rfl, Y 213 rfl, Y 214 rfl, Y 215 rfl, Y 216 rfl, Y 217 rfl, Y 218 rfl, Y 219 rfl, Y 220 rfl, Y 221 rfl, Y 222 rfl, Y 223 rfl, Y 224 rfl, Y 225 rfl, Y 226 rfl, Y 227 rfl, Y 228 rfl, Y 229 rfl, Y 230 rfl, Y 231 rfl, x122]
          clear x122 Y
          go_wp2
          go_roundw
          case rel =>
           have HRel : ∃ j' : Nat, j' ≤ mt ∧ Value.int .i64 ((j : Int) + 1) = .int .i64 (j' : Nat) ∧ Lat w8b W9 := ⟨j + 1, by omega, by go_num, hlr.trans hL9⟩
           first | exact HRel | exact ⟨_, HRel, rfl⟩ | exact ⟨_, _, HRel, rfl, rfl⟩ | exact ⟨_, _, _, HRel, rfl, rfl, rfl⟩ | exact ⟨_, _, _, _, HRel, rfl, rfl, rfl, rfl⟩ | exact ⟨_, _, _, _, _, HRel, rfl, rfl, rfl, rfl, rfl⟩ | exact ⟨_, _, _, _, _, _, HRel, rfl, rfl, rfl, rfl, rfl, rfl⟩ | exact ⟨_, _, _, _, _, _, _, HRel, rfl, rfl, rfl, rfl, rfl, rfl, rfl⟩ | exact ⟨_, _, _, _, _, _, _, _, HRel, rfl, rfl, rfl, rfl, rfl, rfl, rfl, rfl⟩ | exact ⟨_, _, _, _, _, _, _, _, _, HRel, rfl, rfl, rfl, rfl, rfl, rfl, rfl, rfl, rfl⟩
          case measure => simp [intOf]; omega
       ·as_aux_lemma =>
        obtain rfl : mt = j := by omega
        replace k9 := k9.later hlr
        replace q1 := q1.later hlr
        replace Lr := Lr.trans hlr
        clear hlr hj hjn
        obtain ⟨w9, rfl⟩ : ∃ W, W = wr := ⟨wr, rfl⟩
        have HK1 : Hid (∀ w', Lat w9 w' → w'.cell? ⟨g9, 1, none⟩ = some (.slice At mt ct)) := fun w' h => (k9.later h).cell 1
        have HK2 : Hid (∀ w', Lat w9 w' → w'.cell? ⟨g9, 2, none⟩ = some (.int .i64 o)) := fun w' h => (k9.later h).cell 2
        go_upto_region 24 with (fail)
        go_cut [156] from 124 to 156 (fun v wx => v = .bool false ∧ Lat w9 wx)
        case first =>
         rcases HSI.out.left with ⟨hT, ho⟩ | ⟨ho, hoT⟩
         ·as_aux_lemma =>
          have hm0 : mt = 0 := by rw [← HMT.out, hT]; rfl
          have HM0 := Lib.hid hm0
          have HO0 := Lib.hid ho
          clear hm0 ho hT HSI HB4 HB1 HLOW HCS HB3
          rename_i KN hKN
          refine wp_region_slotsN (sm24b_rows g9 mt h o At ct) (sm24b_base g9 mt h o At ct _ _ _ _ _ _ _ _ _ _ _ _ _ _ _ _ _ _ _ _ _ _ _ _ _ _ _ _ _ _ _ _ _ _ _ _ _ _ _ _ _ _ _ _ _ _ _ _ _ _ _ _ _ _ _ _ _ _ _ _ _ _ _ _ _ _ _ _ _ _ _ _ _ _ _ _ _ _ _ _ _ _ _ _ _ _ _ _ _ _ _ _ _ _ _ _ _ _ _ _ _ _ _ _ _ _ _ _ _ _ _ _ _ _ _ _ _ _ _ _ _ _ _ _ _ _ _ _ _ _ _ _ _ _ _ _ _ _ _ _ _ _ _ _ _ _ _ _ _ _ _ _ _ _ _ _ _ _ _ _ _ _ _ _ _ _ _ _ _ _ _ _ _ _ _ _ _ _ _ _ _ _ _ _ _ _ _ _ _ _ _ _ _ _ _ _) 232 33 [[], [], [0, 1], [2], [3], [4, 3], [5, 3], [6, 3], [7, 3, 3], [8], [9, 8], [10, 8], [11, 8, 8], [12], [13, 12], [12], [15, 12], [16, 12], [14, 17, 12], [12, 18, 8], [8, 19, 3], [3, 20], [21, 12], [22], [23, 22], [24, 22], [25, 22], [26, 22, 22], [27], [28, 27], [29, 27], [27, 30, 22], [22, 31]] (by kernel_rfl) (by kernel_rfl) (by kernel_rfl) (by kernel_rfl) (by kernel_rfl) (by kernel_rfl) (by rfl) rfl (base_of (by repeat (first | exact base_nil _ | refine base_consL rfl ?_))) (sm24b_steps w9 g9 mt h o At ct _ _ _ _ _ _ _ _ _ _ _ _ _ _ _ _ _ _ _ _ _ _ _ _ _ _ _ _ _ _ _ _ _ _ _ _ _ _ _ _ _ _ _ _ _ _ _ _ _ _ _ _ _ _ _ _ _ _ _ _ _ _ _ _ _ _ _ _ _ _ _ _ _ _ _ _ _ _ _ _ _ _ _ _ _ _ _ _ _ _ _ _ _ _ _ _ _ _ _ _ _ _ _ _ _ _ _ _ _ _ _ _ _ _ _ _ _ _ _ _ _ _ _ _ _ _ _ _ _ _ _ _ _ _ _ _ _ _ _ _ _ _ _ _ _ _ _ _ _ _ _ _ _ _ _ _ _ _ _ _ _ _ _ _ _ _ _ _ _ _ _ _ _ _ _ _ _ _ _ _ _ _ _ _ _ _ _ _ _ _ _ _ _ _ _ _ HK1.out HK2.out HM0.out HO0.out) ?_
          ·intro a9 W9 hsz9 hdf9 hL9 hbs hsl
           obtain ⟨v9, h9, q9⟩ := hsl 32 _ _ rfl rfl
           obtain rfl : v9 = .bool false := q9
           have w156 := slot_getD h9
           clear h9
           refine hKN _ _ ?_
           obtain ⟨T9, df9⟩ := a9
           obtain rfl : df9 = [] := hdf9
           obtain ⟨f, hf, rfl⟩ := spell232 T9 hsz9
           have Y := fun k {v} h => (hf k).trans (slot_getD (hbs k v h))
           have x156 := (hf 156).trans w156
           clear hbs hsl hf hsz9 hKN w156
           simp only [Y 7 rfl, Y 9 rfl, Y 11 rfl, Y 0 rfl, Y 1 rfl, Y 2 rfl, Y 3 rfl, Y 4 rfl, Y 5 rfl, Y 6 rfl, Y 8 rfl, Y 10 rfl, Y 12 rfl, Y 13 rfl, Y 14 rfl, Y 15 rfl, Y 16 rfl, Y 17 rfl, Y 18 rfl, Y 19 rfl, Y 20 rfl, Y 21 rfl, Y 22 rfl, Y 23 rfl, Y 24 rfl, Y 25 rfl, Y 26 rfl, Y 27 rfl, Y 28 rfl, Y 29 rfl, Y 30 rfl, Y 31 rfl, Y 32 rfl, Y 33 rfl, Y 34 rfl, Y 35 rfl, Y 36 rfl, Y 37 rfl, Y 38 rfl, Y 39 rfl, Y 40 rfl, Y 41 rfl, Y 42 rfl, Y 43 rfl, Y 44 rfl, Y 45 rfl, Y 46 rfl, Y 47 rfl, Y 48 rfl, Y 49 rfl, Y 50 rfl, Y 51 rfl, Y 52 rfl, Y 53 rfl, Y 54 rfl, Y 55 rfl, Y 56 rfl, Y 57 rfl, Y 58 rfl, Y 59 rfl, Y 60 rfl, Y 61 rfl, Y 62 rfl, Y 63 rfl, Y 64 rfl, Y 65 rfl, Y 66 rfl, Y 67 rfl, Y 68 rfl, Y 69 rfl, Y 70 rfl, Y 71 rfl, Y 72 rfl, Y 73 rfl, Y 74 rfl, Y 75 rfl, Y 76 rfl, Y 77 rfl, Y 78 rfl, Y 79 rfl, Y 80 rfl, Y 81 rfl, Y 82 rfl, Y 83 rfl, Y 84 rfl, Y 85 rfl, Y 86 rfl, Y 87 rfl, Y 88 rfl, Y 89 rfl, Y 90 rfl, Y 91 rfl, Y 92 rfl, Y 93 rfl, Y 94 rfl, Y 95 rfl, Y 96 rfl, Y 97 rfl, Y 98 rfl, Y 99 rfl, Y 100 rfl, Y 101 rfl, Y 102 rfl, Y 103 rfl, Y 104 rfl, Y 105 rfl, Y 106 rfl, Y 107 rfl, Y 108 rfl, Y 109 rfl, Y 110 rfl, Y 111 rfl, Y 112 rfl, Y 113 rfl, Y 114 rfl, Y 115 rfl, Y 116 rfl, Y 117 rfl, Y 118 rfl, Y 119 rfl, Y 120 rfl, Y 121 rfl, Y 122 rfl, Y 123 rfl, Y 157 rfl, Y 158 rfl, Y 159 rfl, Y 160 rfl, Y 161 rfl, Y 162 rfl, Y 163 rfl, Y 164 rfl, Y 165 rfl, Y 166 rfl, Y 167 rfl, Y 168 rfl, Y 169 rfl, Y 170 rfl, Y 171 rfl, Y 172 rfl, Y 173 rfl, Y 174 rfl, Y 175 rfl, Y 176 rfl, Y 177 rfl, Y 178 rfl, Y 179 rfl, Y 180 rfl, Y 181 rfl, Y 182 rfl, Y 183 rfl, Y 184 rfl, Y 185 rfl, Y 186 rfl, Y 187 rfl, Y 188 rfl, Y 189 rfl, Y 190 rfl, Y 191 rfl, Y 192 rfl, Y 193 rfl, Y 194 rfl, Y 195 rfl, Y 196 rfl, Y 197 rfl, Y 198 rfl, Y 199 rfl, Y 200 rfl, Y 201 rfl, Y 202 rfl, Y 203 rfl, Y 204 rfl, Y 205 rfl, Y 206 rfl, Y 207 rfl, Y 208 rfl, Y 209 rfl, Y 210 rfl, Y 211 rfl, Y 212 rfl, Y 213 rfl, Y 214 rfl, Y 215 rfl, Y 216 rfl, Y 217 rfl, Y 218 rfl, Y 219 rfl, Y 220 rfl, Y 221 rfl, Y 222 rfl, Y 223 rfl, Y 224 rfl, Y 225 rfl, Y 226 rfl, Y 227 rfl, Y 228 rfl, Y 229 rfl, Y 230 rfl, Y 231 rfl, x156]
           clear x156 Y
           go_wp2_with fail
           go_meet
           exact ⟨rfl, hL9⟩
         ·as_aux_lemma =>
          rw [HMT.out] at hoT
          have HO1 := Lib.hid ho
          have HO2 := Lib.hid hoT
          clear ho hoT HSI HB4 HB1 HLOW HCS HB3
          rename_i KN hKN
          refine wp_region_slotsN (sm24a_rows g9 mt h o At ct) (sm24a_base g9 mt h o At ct _ _ _ _ _ _ _ _ _ _ _ _ _ _ _ _ _ _ _ _ _ _ _ _ _ _ _ _ _ _ _ _ _ _ _ _ _ _ _ _ _ _ _ _ _ _ _ _ _ _ _ _ _ _ _ _ _ _ _ _ _ _ _ _ _ _ _ _ _ _ _ _ _ _ _ _ _ _ _ _ _ _ _ _ _ _ _ _ _ _ _ _ _ _ _ _ _ _ _ _ _ _ _ _ _ _ _ _ _ _ _ _ _ _ _ _ _ _ _ _ _ _ _ _ _ _ _ _ _ _ _ _ _ _ _ _ _ _ _ _ _ _ _ _ _ _ _ _ _ _ _ _ _ _ _ _ _ _ _ _ _ _ _ _ _ _ _ _ _ _ _ _ _ _ _ _ _ _ _ _ _ _ _ _ _ _ _ _ _ _ _ _ _ _ _ _) 232 33 [[], [], [0, 1], [2], [3], [4, 3], [5, 3], [6, 3], [7, 3, 3], [8], [9, 8], [10, 8], [11, 8, 8], [12], [13, 12], [12], [15, 12], [16, 12], [14, 17, 12], [12, 18, 8], [8, 19, 3], [3, 20], [21, 12], [22], [23, 22], [24, 22], [25, 22], [26, 22, 22], [27], [28, 27], [29, 27], [27, 30, 22], [22, 31]] (by kernel_rfl) (by kernel_rfl) (by kernel_rfl) (by kernel_rfl) (by kernel_rfl) (by kernel_rfl) (by rfl) rfl (base_of (by repeat (first | exact base_nil _ | refine base_consL rfl ?_))) (sm24a_steps w9 g9 mt h o At ct _ _ _ _ _ _ _ _ _ _ _ _ _ _ _ _ _ _ _ _ _ _ _ _ _ _ _ _ _ _ _ _ _ _ _ _ _ _ _ _ _ _ _ _ _ _ _ _ _ _ _ _ _ _ _ _ _ _ _ _ _ _ _ _ _ _ _ _ _ _ _ _ _ _ _ _ _ _ _ _ _ _ _ _ _ _ _ _ _ _ _ _ _ _ _ _ _ _ _ _ _ _ _ _ _ _ _ _ _ _ _ _ _ _ _ _ _ _ _ _ _ _ _ _ _ _ _ _ _ _ _ _ _ _ _ _ _ _ _ _ _ _ _ _ _ _ _ _ _ _ _ _ _ _ _ _ _ _ _ _ _ _ _ _ _ _ _ _ _ _ _ _ _ _ _ _ _ _ _ _ _ _ _ _ _ _ _ _ _ _ _ _ _ _ _ _ HK1.out HK2.out (by have h8 := HO1.out; have h9 := HO2.out; omega) (by have h8 := HO1.out; have h9 := HO2.out; omega) (by have h8 := HO1.out; omega) HO1.out (by have h9 := HO2.out; omega) HO2.out) ?_
          ·intro a9 W9 hsz9 hdf9 hL9 hbs hsl
           obtain ⟨v9, h9, q9⟩ := hsl 32 _ _ rfl rfl
           obtain rfl : v9 = .bool false := q9
           have w156 := slot_getD h9
           clear h9
           refine hKN _ _ ?_
           obtain ⟨T9, df9⟩ := a9
           obtain rfl : df9 = [] := hdf9
           obtain ⟨f, hf, rfl⟩ := spell232 T9 hsz9
           have Y := fun k {v} h => (hf k).trans (slot_getD (hbs k v h))
           have x156 := (hf 156).trans w156
           clear hbs hsl hf hsz9 hKN w156
           simp only [Y 7 rfl, Y 9 rfl, Y 11 rfl, Y 0 rfl, Y 1 rfl, Y 2 rfl, Y 3 rfl, Y 4 rfl, Y 5 rfl, Y 6 rfl, Y 8 rfl, Y 10 rfl, Y 12 rfl, Y 13 rfl, Y 14 rfl, Y 15 rfl, Y 16 rfl, Y 17 rfl, Y 18 rfl, Y 19 rfl, Y 20 rfl, Y 21 rfl, Y 22 rfl, Y 23 rfl, Y 24 rfl, Y 25 rfl, Y 26 rfl, Y 27 rfl, Y 28 rfl, Y 29 rfl, Y 30 rfl, Y 31 rfl, Y 32 rfl, Y 33 rfl, Y 34 rfl, Y 35 rfl, Y 36 rfl, Y 37 rfl, Y 38 rfl, Y 39 rfl, Y 40 rfl, Y 41 rfl, Y 42 rfl, Y 43 rfl, Y 44 rfl, Y 45 rfl, Y 46 rfl, Y 47 rfl, Y 48 rfl, Y 49 rfl, Y 50 rfl, Y 51 rfl, Y 52 rfl, Y 53 rfl, Y 54 rfl, Y 55 rfl, Y 56 rfl, Y 57 rfl, Y 58 rfl, Y 59 rfl, Y 60 rfl, Y 61 rfl, Y 62 rfl, Y 63 rfl, Y 64 rfl, Y 65 rfl, Y 66 rfl, Y 67 rfl, Y 68 rfl, Y 69 rfl, Y 70 rfl, Y 71 rfl, Y 72 rfl, Y 73 rfl, Y 74 rfl, Y 75 rfl, Y 76 rfl, Y 77 rfl, Y 78 rfl, Y 79 rfl, Y 80 rfl, Y 81 rfl, Y 82 rfl, Y 83 rfl, Y 84 rfl, Y 85 rfl, Y 86 rfl, Y 87 rfl, Y 88 rfl, Y 89 rfl, Y 90 rfl, Y 91 rfl, Y 92 rfl, Y 93 rfl, Y 94 rfl, Y 95 rfl, Y 96 rfl, Y 97 rfl, Y 98 rfl, Y 99 rfl, Y 100 rfl, Y 101 rfl, Y 102 rfl, Y 103 rfl, Y 104 rfl, Y 105 rfl, Y 106 rfl, Y 107 rfl, Y 108 rfl, Y 109 rfl, Y 110 rfl, Y 111 rfl, Y 112 rfl, Y 113 rfl, Y 114 rfl, Y 115 rfl, Y 116 rfl, Y 117 rfl, Y 118 rfl, Y 119 rfl, Y 120 rfl, Y 121 rfl, Y 122 rfl, Y 123 rfl, Y 157 rfl, Y 158 rfl, Y 159 rfl, Y 160 rfl, Y 161 rfl, Y 162 rfl, Y 163 rfl, Y 164 rfl, Y 165 rfl, Y 166 rfl, Y 167 rfl, Y 168 rfl, Y 169 rfl, Y 170 rfl, Y 171 rfl, Y 172 rfl, Y 173 rfl, Y 174 rfl, Y 175 rfl, Y 176 rfl, Y 177 rfl, Y 178 rfl, Y 179 rfl, Y 180 rfl, Y 181 rfl, Y 182 rfl, Y 183 rfl, Y 184 rfl, Y 185 rfl, Y 186 rfl, Y 187 rfl, Y 188 rfl, Y 189 rfl, Y 190 rfl, Y 191 rfl, Y 192 rfl, Y 193 rfl, Y 194 rfl, Y 195 rfl, Y 196 rfl, Y 197 rfl, Y 198 rfl, Y 199 rfl, Y 200 rfl, Y 201 rfl, Y 202 rfl, Y 203 rfl, Y 204 rfl, Y 205 rfl, Y 206 rfl, Y 207 rfl, Y 208 rfl, Y 209 rfl, Y 210 rfl, Y 211 rfl, Y 212 rfl, Y 213 rfl, Y 214 rfl, Y 215 rfl, Y 216 rfl, Y 217 rfl, Y 218 rfl, Y 219 rfl, Y 220 rfl, Y 221 rfl, Y 222 rfl, Y 223 rfl, Y 224 rfl, Y 225 rfl, Y 226 rfl, Y 227 rfl, Y 228 rfl, Y 229 rfl, Y 230 rfl, Y 231 rfl, x156]
           clear x156 Y
           go_wp2_with fail
           go_meet
           exact ⟨rfl, hL9⟩
        case rest =>
         obtain ⟨rfl, l9⟩ := hcut
         replace q1 := q1.later l9
         replace Lr := Lr.trans l9
         clear l9 k9 HK1 HK2 s1 s2 s3
         obtain ⟨Wc, rfl⟩ : ∃ W, W = wc := ⟨wc, rfl⟩
         go_wp2_with fail
         refine (give_any Ac C.length cc C none 0 0 [] (List.replicate C.length 0) h 1 Wc q1 (Sl.nil _ _ _) hc0 (by omega) HCS.out hh0 hh1 (by omega) (by omega) (lowIs_nil (by omega))).mono ?_
         rintro e w10 hp7
         rw [HB1.out] at hp7
         obtain ⟨l7, gB, cB, Bt, cbt, rfl, t1, t2, _, _, _⟩ := hp7
         go_upto_region 27 with (fail)
         refine name1 (Q := fun W => Code.wp _ _ _ _ W) ?_
         intro w11 l8 _ k16
         obtain ⟨g16, hg16⟩ : ∃ z, w10.heap.size = z := ⟨_, rfl⟩
         rw [hg16] at k16 ⊢
         have l78 := l7.trans l8
         replace q1 := q1.later l78
         replace t1 := t1.later l8
         replace t2 := t2.later l8
         replace Lr := Lr.trans l78
         clear l7 l8 l78 hg16 HB1 HLOW
         go_wp2_with fail
         refine (qTotal_yes Ac C.length cc C w11 q1 (by omega) HCS.out).mono ?_
         rintro e w12 ⟨rfl, l9⟩
         replace q1 := q1.later l9
         replace t1 := t1.later l9
         replace t2 := t2.later l9
         replace k16 := k16.later l9
         replace Lr := Lr.trans l9
         clear l9
         have HK0 : Hid (∀ w', Lat w12 w' → w'.cell? ⟨g16, 0, none⟩ = some (.slice (some ⟨gB, 0, none⟩) C.length cB)) := fun w' h => (k16.later h).cell 0
         go_upto_region 28 with (fail)
         rename_i KN hKN
         refine wp_region_slotsN (sm28_rows g16 gB cB C.length cc Ac) (sm28_base g16 gB cB C.length cc Ac _ _ _ _ _ _ _ _ _ _ _ _ _ _ _ _ _ _ _ _ _ _ _ _ _ _ _ _ _ _ _ _ _ _ _ _ _ _ _ _ _ _ _ _ _ _ _ _ _ _ _ _ _ _ _ _ _ _ _ _ _ _ _ _ _ _ _ _ _ _ _ _ _ _ _ _ _ _ _ _ _ _ _ _ _ _ _ _ _ _ _ _ _ _ _ _ _ _ _ _ _ _ _ _ _ _ _ _ _ _ _ _ _ _ _ _ _ _ _ _ _ _ _ _ _ _ _ _ _ _ _ _ _ _ _ _ _ _ _ _ _ _ _ _ _ _ _ _ _ _ _ _ _ _ _ _ _ _ _ _ _ _ _ _ _ _ _ _ _ _ _ _ _ _ _ _ _ _ _ _ _ _ _ _ _ _ _ _ _ _ _ _ _ _ _ _ _ _ _ _ _ _ _ _ _ _ _ _ _ _ _ _ _ _) 232 14 [[], [0], [1], [2], [3, 2], [2, 4], [5, 2], [6], [7, 6], [8, 6], [6], [10, 6], [9, 11, 6], [6, 12]] (by kernel_rfl) (by kernel_rfl) (by kernel_rfl) (by kernel_rfl) (by kernel_rfl) (by kernel_rfl) (by rfl) rfl (base_of (by repeat (first | exact base_nil _ | refine base_consL rfl ?_))) (sm28_steps w12 g16 gB cB C.length cc Ac _ _ _ _ _ _ _ _ _ _ _ _ _ _ _ _ _ _ _ _ _ _ _ _ _ _ _ _ _ _ _ _ _ _ _ _ _ _ _ _ _ _ _ _ _ _ _ _ _ _ _ _ _ _ _ _ _ _ _ _ _ _ _ _ _ _ _ _ _ _ _ _ _ _ _ _ _ _ _ _ _ _ _ _ _ _ _ _ _ _ _ _ _ _ _ _ _ _ _ _ _ _ _ _ _ _ _ _ _ _ _ _ _ _ _ _ _ _ _ _ _ _ _ _ _ _ _ _ _ _ _ _ _ _ _ _ _ _ _ _ _ _ _ _ _ _ _ _ _ _ _ _ _ _ _ _ _ _ _ _ _ _ _ _ _ _ _ _ _ _ _ _ _ _ _ _ _ _ _ _ _ _ _ _ _ _ _ _ _ _ _ _ _ _ _ _ _ _ _ _ _ _ _ _ _ _ _ _ _ _ _ _ _ _ HK0.out) ?_
         ·intro a9 W9 hsz9 hdf9 hL9 hbs hsl
          obtain ⟨v9, h9, q9⟩ := hsl 13 _ _ rfl rfl
          obtain rfl : v9 = .bool false := q9
          have w181 := slot_getD h9
          clear h9
          refine hKN _ _ ?_
          obtain ⟨T9, df9⟩ := a9
          obtain rfl : df9 = [] := hdf9
          obtain ⟨f, hf, rfl⟩ := spell232 T9 hsz9
          have Y := fun k {v} h => (hf k).trans (slot_getD (hbs k v h))
          have x181 := (hf 181).trans w181
          clear hbs hsl hf hsz9 hKN w181
          simp only [Y 5 rfl, Y 16 rfl, Y 17 rfl, Y 19 rfl, Y 0 rfl, Y 1 rfl, Y 2 rfl, Y 3 rfl, Y 4 rfl, Y 6 rfl, Y 7 rfl, Y 8 rfl, Y 9 rfl, Y 10 rfl, Y 11 rfl, Y 12 rfl, Y 13 rfl, Y 14 rfl, Y 15 rfl, Y 18 rfl, Y 20 rfl, Y 21 rfl, Y 22 rfl, Y 23 rfl, Y 24 rfl, Y 25 rfl, Y 26 rfl, Y 27 rfl, Y 28 rfl, Y 29 rfl, Y 30 rfl, Y 31 rfl, Y 32 rfl, Y 33 rfl, Y 34 rfl, Y 35 rfl, Y 36 rfl, Y 37 rfl, Y 38 rfl, Y 39 rfl, Y 40 rfl, Y 41 rfl, Y 42 rfl, Y 43 rfl, Y 44 rfl, Y 45 rfl, Y 46 rfl, Y 47 rfl, Y 48 rfl, Y 49 rfl, Y 50 rfl, Y 51 rfl, Y 52 rfl, Y 53 rfl, Y 54 rfl, Y 55 rfl, Y 56 rfl, Y 57 rfl, Y 58 rfl, Y 59 rfl, Y 60 rfl, Y 61 rfl, Y 62 rfl, Y 63 rfl, Y 64 rfl, Y 65 rfl, Y 66 rfl, Y 67 rfl, Y 68 rfl, Y 69 rfl, Y 70 rfl, Y 71 rfl, Y 72 rfl, Y 73 rfl, Y 74 rfl, Y 75 rfl, Y 76 rfl, Y 77 rfl, Y 78 rfl, Y 79 rfl, Y 80 rfl, Y 81 rfl, Y 82 rfl, Y 83 rfl, Y 84 rfl, Y 85 rfl, Y 86 rfl, Y 87 rfl, Y 88 rfl, Y 89 rfl, Y 90 rfl, Y 91 rfl, Y 92 rfl, Y 93 rfl, Y 94 rfl, Y 95 rfl, Y 96 rfl, Y 97 rfl, Y 98 rfl, Y 99 rfl, Y 100 rfl, Y 101 rfl, Y 102 rfl, Y 103 rfl, Y 104 rfl, Y 105 rfl, Y 106 rfl, Y 107 rfl, Y 108 rfl, Y 109 rfl, Y 110 rfl, Y 111 rfl, Y 112 rfl, Y 113 rfl, Y 114 rfl, Y 115 rfl, Y 116 rfl, Y 117 rfl, Y 118 rfl, Y 119 rfl, Y 120 rfl, Y 121 rfl, Y 122 rfl, Y 123 rfl, Y 124 rfl, Y 125 rfl, Y 126 rfl, Y 127 rfl, Y 128 rfl, Y 129 rfl, Y 130 rfl, Y 131 rfl, Y 132 rfl, Y 133 rfl, Y 134 rfl, Y 135 rfl, Y 136 rfl, Y 137 rfl, Y 138 rfl, Y 139 rfl, Y 140 rfl, Y 141 rfl, Y 142 rfl, Y 143 rfl, Y 144 rfl, Y 145 rfl, Y 146 rfl, Y 147 rfl, Y 148 rfl, Y 149 rfl, Y 150 rfl, Y 151 rfl, Y 152 rfl, Y 153 rfl, Y 154 rfl, Y 155 rfl, Y 156 rfl, Y 157 rfl, Y 158 rfl, Y 159 rfl, Y 160 rfl, Y 161 rfl, Y 162 rfl, Y 163 rfl, Y 164 rfl, Y 165 rfl, Y 166 rfl, Y 167 rfl, Y 182 rfl, Y 183 rfl, Y 184 rfl, Y 185 rfl, Y 186 rfl, Y 187 rfl, Y 188 rfl, Y 189 rfl, Y 190 rfl, Y 191 rfl, Y 192 rfl, Y 193 rfl, Y 194 rfl, Y 195 rfl, Y 196 rfl, Y 197 rfl, Y 198 rfl, Y 199 rfl, Y 200 rfl, Y 201 rfl, Y 202 rfl, Y 203 rfl, Y 204 rfl, Y 205 rfl, Y 206 rfl, Y 207 rfl, Y 208 rfl, Y 209 rfl, Y 210 rfl, Y 211 rfl, Y 212 rfl, Y 213 rfl, Y 214 rfl, Y 215 rfl, Y 216 rfl, Y 217 rfl, Y 218 rfl, Y 219 rfl, Y 220 rfl, Y 221 rfl, Y 222 rfl, Y 223 rfl, Y 224 rfl, Y 225 rfl, Y 226 rfl, Y 227 rfl, Y 228 rfl, Y 229 rfl, Y 230 rfl, Y 231 rfl, x181]
          clear x181 Y
          replace k16 := k16.later hL9
          replace q1 := q1.later hL9
          replace t1 := t1.later hL9
          replace t2 := t2.later hL9
          replace Lr := Lr.trans hL9
          clear HK0 hL9
          obtain ⟨b1, o1, hA1, _⟩ := q1.plain hc0
          subst hA1
          have hNz := (census_iff.1 HCS.out).2.2
          have hNb := sum_bound (census_iff.1 HCS.out).2.1
          obtain ⟨N, hNe⟩ : ∃ z, C.sum = z := ⟨_, rfl⟩
          have HNB : Hid (C.sum ≤ 1000000000000) := by show _ ≤ _; have h9 := hNb.2; omega
          rw [hNe] at hNz HB4 HNB ⊢
          clear hNe hNb
          obtain ⟨WL, rfl⟩ : ∃ W, W = W9 := ⟨W9, rfl⟩
          have c0 := k16.cell 0
          have c1 := k16.cell 1
          have c2 := k16.cell 2
          go_wp2
          rename_i Qy Ay Ry Kz Az
          clear Ay Qy Ry
          go_loopw [185] (fun it wr => ∃ j : Nat, j ≤ C.length ∧ it = .int .i64 (j : Nat) ∧ Lat WL wr) (fun it _ => C.length - (intOf it).toNat)
          case atStart => exact ⟨0, Nat.zero_le _, rfl, Lat.refl _⟩
          case round =>
           obtain ⟨j, hj, rfl, hlr⟩ := hrel
           clear c0 c1 c2
           by_cases hjn : j < C.length
           ·as_aux_lemma =>
            obtain ⟨x, hx⟩ : ∃ x, C[j]? = some x := ⟨_, List.getElem?_eq_getElem hjn⟩
            obtain ⟨y, hy⟩ : ∃ y, B.seats[j]? = some y := ⟨_, List.getElem?_eq_getElem (by rw [HB2.out]; exact hjn)⟩
            obtain ⟨f1, f2⟩ := HB4.out j x y hx hy
            have hxb := HCP.out x (List.mem_of_getElem? hx)
            obtain ⟨z, q, r, SN⟩ := sm_nums hxb.1 hxb.2 hh0 hh1 hNz HNB.out
            rw [SN.mul, SN.quo, SN.rem] at f1 f2
            have SY := Lib.hid (sm_y SN.q0 SN.q1 f1)
            have HSN := Lib.hid SN
            have G9 : Hid (∀ w', Lat wr w' → w'.cell? ⟨b1, o1 + j, none⟩ = some (.int .i64 x)) := fun w' h9 => sl_cell ((q1.later hlr).later h9) hx
            have hjI : (j : Int) < (C.length : Int) := by omega
            have hj0 : (0 : Int) ≤ (j : Int) := by omega
            have HJ := Lib.hid hjn
            have HF1 := Lib.hid f1
            have HF2 := Lib.hid f2
            have HNZ := Lib.hid hNz
            have cy := (t1.later hlr).cell hy
            have HCT : Hid (∀ w', Lat wr w' → Calls Tryz.prog 34 #[.slice Bt B.tied.length cbt, .int .i64 (j : Int)] w' (fun e w'' => e = .returned (.bool ((B.tied.map fun t : Nat => (t : Int)).contains (j : Int))) ∧ Lat w' w'')) := fun w' h9 =>
             (contains_any Bt B.tied.length cbt _ (j : Int) w' ((t2.later hlr).later h9) (by have h8 := HB3.out.length_le; rw [List.length_range] at h8; omega)).mono (fun e w'' h8 => ⟨h8.1, h8.2 ▸ Lat.refl _⟩)
            have HK6 : Hid (∀ w', Lat wr w' → w'.cell? ⟨g16, 1, none⟩ = some (.slice Bt B.tied.length cbt)) := fun w' h9 => ((k16.later hlr).later h9).cell 1
            obtain ⟨cb, hcb⟩ : ∃ cb, (B.tied.map fun t : Nat => (t : Int)).contains (j : Int) = cb := ⟨_, rfl⟩
            have HCBT : Hid (cb = true → y = q ∧ 0 < r) := fun h9 => by
             rw [h9, List.contains_iff_mem] at hcb
             obtain ⟨t, ht, e⟩ := List.mem_map.1 hcb
             have : t = j := by omega
             subst this
             exact HF2.out ht
            rw [hcb] at HCT
            clear hx hy f1 f2 SN HF2 HB4 HB3 hNz hxb hcb HCS HNB
            go_upto_region 33 with (fail)
            rename_i KN hKN
            refine wp_region_slotsN (sm33_rows b1 o1 C.length cc j x h N z q r) (sm33_base b1 o1 C.length cc j x h N z q r _ _ _ _ _ _ _ _ _ _ _ _ _ _ _ _ _ _ _ _ _ _ _ _ _ _ _ _ _ _ _ _ _ _ _ _ _ _ _ _ _ _ _ _ _ _ _ _ _ _ _ _ _ _ _ _ _ _ _ _ _ _ _ _ _ _ _ _ _ _ _ _ _ _ _ _ _ _ _ _ _ _ _ _ _ _ _ _ _ _ _ _ _ _ _ _ _ _ _ _ _ _ _ _ _ _ _ _ _ _ _ _ _ _ _ _ _ _ _ _ _ _ _ _ _ _ _ _ _ _ _ _ _ _ _ _ _ _ _ _ _ _ _ _ _ _ _ _ _ _ _ _ _ _ _ _ _ _ _ _ _ _ _ _ _ _ _ _ _ _ _ _ _ _ _ _ _ _ _ _ _ _ _ _ _ _ _ _ _ _ _ _ _ _ _ _ _ _ _ _ _ _ _ _ _ _ _ _ _ _) 232 18 [[], [], [0, 1], [2], [], [3, 4], [], [5, 6], [], [], [8, 9], [10], [], [11, 12], [], [13, 14], [7, 0, 1, 2, 3, 4, 5, 6, 7], [15, 16, 0, 1, 2, 3, 4, 5, 6, 7, 8, 9, 10, 11, 12, 13, 14, 15, 16]] (by kernel_rfl) (by kernel_rfl) (by kernel_rfl) (by kernel_rfl) (by kernel_rfl) (by kernel_rfl) (by rfl) rfl (base_of (by repeat (first | exact base_nil _ | refine base_consL rfl ?_))) (sm33_steps wr b1 o1 C.length cc j x h N z q r _ _ _ _ _ _ _ _ _ _ _ _ _ _ _ _ _ _ _ _ _ _ _ _ _ _ _ _ _ _ _ _ _ _ _ _ _ _ _ _ _ _ _ _ _ _ _ _ _ _ _ _ _ _ _ _ _ _ _ _ _ _ _ _ _ _ _ _ _ _ _ _ _ _ _ _ _ _ _ _ _ _ _ _ _ _ _ _ _ _ _ _ _ _ _ _ _ _ _ _ _ _ _ _ _ _ _ _ _ _ _ _ _ _ _ _ _ _ _ _ _ _ _ _ _ _ _ _ _ _ _ _ _ _ _ _ _ _ _ _ _ _ _ _ _ _ _ _ _ _ _ _ _ _ _ _ _ _ _ _ _ _ _ _ _ _ _ _ _ _ _ _ _ _ _ _ _ _ _ _ _ _ _ _ _ _ _ _ _ _ _ _ _ _ _ _ _ _ _ _ _ _ _ _ _ _ _ _ _ _ (by have h9 := HJ.out; omega) (by have h9 := HNZ.out; omega) HSN.out.w1 HSN.out.w2 HSN.out.d1 HSN.out.w3 HSN.out.w4 HSN.out.d2 HSN.out.w5 HSN.out.w6 G9.out) ?_
            ·intro a9 W9 hsz9 hdf9 hL9 hbs hsl
             obtain ⟨v9, h9, q9⟩ := hsl 16 _ _ rfl rfl
             obtain rfl : v9 = .int .i64 q := q9
             have w22 := slot_getD h9
             clear h9
             obtain ⟨v9, h9, q9⟩ := hsl 17 _ _ rfl rfl
             obtain rfl : v9 = .int .i64 r := q9
             have w23 := slot_getD h9
             clear h9
             refine hKN _ _ ?_
             obtain ⟨T9, df9⟩ := a9
             obtain rfl : df9 = [] := hdf9
             obtain ⟨f, hf, rfl⟩ := spell232 T9 hsz9
             have Y := fun k {v} h => (hf k).trans (slot_getD (hbs k v h))
             have x22 := (hf 22).trans w22
             have x23 := (hf 23).trans w23
             clear hbs hsl hf hsz9 hKN w22 w23
             simp only [Y 5 rfl, Y 7 rfl, Y 18 rfl, Y 20 rfl, Y 0 rfl, Y 1 rfl, Y 2 rfl, Y 3 rfl, Y 4 rfl, Y 6 rfl, Y 8 rfl, Y 9 rfl, Y 10 rfl, Y 11 rfl, Y 12 rfl, Y 13 rfl, Y 14 rfl, Y 15 rfl, Y 16 rfl, Y 17 rfl, Y 19 rfl, Y 21 rfl, Y 24 rfl, Y 25 rfl, Y 26 rfl, Y 27 rfl, Y 28 rfl, Y 29 rfl, Y 30 rfl, Y 31 rfl, Y 32 rfl, Y 33 rfl, Y 34 rfl, Y 35 rfl, Y 36 rfl, Y 37 rfl, Y 38 rfl, Y 39 rfl, Y 40 rfl, Y 41 rfl, Y 42 rfl, Y 43 rfl, Y 44 rfl, Y 45 rfl, Y 46 rfl, Y 47 rfl, Y 48 rfl, Y 49 rfl, Y 50 rfl, Y 51 rfl, Y 52 rfl, Y 53 rfl, Y 54 rfl, Y 55 rfl, Y 56 rfl, Y 57 rfl, Y 58 rfl, Y 59 rfl, Y 60 rfl, Y 61 rfl, Y 62 rfl, Y 63 rfl, Y 64 rfl, Y 65 rfl, Y 66 rfl, Y 67 rfl, Y 68 rfl, Y 69 rfl, Y 70 rfl, Y 71 rfl, Y 72 rfl, Y 73 rfl, Y 74 rfl, Y 75 rfl, Y 76 rfl, Y 77 rfl, Y 78 rfl, Y 79 rfl, Y 80 rfl, Y 81 rfl, Y 82 rfl, Y 83 rfl, Y 84 rfl, Y 85 rfl, Y 86 rfl, Y 87 rfl, Y 88 rfl, Y 89 rfl, Y 90 rfl, Y 91 rfl, Y 92 rfl, Y 93 rfl, Y 94 rfl, Y 95 rfl, Y 96 rfl, Y 97 rfl, Y 98 rfl, Y 99 rfl, Y 100 rfl, Y 101 rfl, Y 102 rfl, Y 103 rfl, Y 104 rfl, Y 105 rfl, Y 106 rfl, Y 107 rfl, Y 108 rfl, Y 109 rfl, Y 110 rfl, Y 111 rfl, Y 112 rfl, Y 113 rfl, Y 114 rfl, Y 115 rfl, Y 116 rfl, Y 117 rfl, Y 118 rfl, Y 119 rfl, Y 120 rfl, Y 121 rfl, Y 122 rfl, Y 123 rfl, Y 124 rfl, Y 125 rfl, Y 126 rfl, Y 127 rfl, Y 128 rfl, Y 129 rfl, Y 130 rfl, Y 131 rfl, Y 132 rfl, Y 133 rfl, Y 134 rfl, Y 135 rfl, Y 136 rfl, Y 137 rfl, Y 138 rfl, Y 139 rfl, Y 140 rfl, Y 141 rfl, Y 142 rfl, Y 143 rfl, Y 144 rfl, Y 145 rfl, Y 146 rfl, Y 147 rfl, Y 148 rfl, Y 149 rfl, Y 150 rfl, Y 151 rfl, Y 152 rfl, Y 153 rfl, Y 154 rfl, Y 155 rfl, Y 156 rfl, Y 157 rfl, Y 158 rfl, Y 159 rfl, Y 160 rfl, Y 161 rfl, Y 162 rfl, Y 163 rfl, Y 164 rfl, Y 165 rfl, Y 166 rfl, Y 167 rfl, Y 168 rfl, Y 169 rfl, Y 170 rfl, Y 171 rfl, Y 172 rfl, Y 173 rfl, Y 174 rfl, Y 175 rfl, Y 176 rfl, Y 177 rfl, Y 178 rfl, Y 179 rfl, Y 180 rfl, Y 181 rfl, Y 182 rfl, Y 183 rfl, Y 184 rfl, Y 185 rfl, Y 186 rfl, Y 187 rfl, Y 188 rfl, Y 189 rfl, Y 206 rfl, Y 207 rfl, Y 208 rfl, Y 209 rfl, Y 210 rfl, Y 211 rfl, Y 212 rfl, Y 213 rfl, Y 214 rfl, Y 215 rfl, Y 216 rfl, Y 217 rfl, Y 218 rfl, Y 219 rfl, Y 220 rfl, Y 221 rfl, Y 222 rfl, Y 223 rfl, Y 224 rfl, Y 225 rfl, Y 226 rfl, Y 227 rfl, Y 228 rfl, Y 229 rfl, Y 230 rfl, Y 231 rfl, x22, x23]
             clear x22 x23 Y
             have hlr9 := hlr.trans hL9
             obtain ⟨WX, hWX⟩ : ∃ W, W = W9 := ⟨W9, rfl⟩
             have HL9 := Lib.hid hL9
             by_cases hr : 0 < r
             ·have e1 := HSN.out.u1
              have e2 := HSN.out.u2
              go_upto_region 37 with (fail)
              clear e1 e2
              cases cb with
              | true =>
                as_aux_lemma =>
                rename_i KN hKN
                refine wp_region_slotsN (sm37a_rows g16 y q (q + 1) j Bt B.tied.length cbt) (sm37a_base g16 y q (q + 1) j Bt B.tied.length cbt _ _ _ _ _ _ _ _ _ _ _ _ _ _ _ _ _ _ _ _ _ _ _ _ _ _ _ _ _ _ _ _ _ _ _ _ _ _ _ _ _ _ _ _ _ _ _ _ _ _ _ _ _ _ _ _ _ _ _ _ _ _ _ _ _ _ _ _ _ _ _ _ _ _ _ _ _ _ _ _ _ _ _ _ _ _ _ _ _ _ _ _ _ _ _ _ _ _ _ _ _ _ _ _ _ _ _ _ _ _ _ _ _ _ _ _ _ _ _ _ _ _ _ _ _ _ _ _ _ _ _ _ _ _ _ _ _ _ _ _ _ _ _ _ _ _ _ _ _ _ _ _ _ _ _ _ _ _ _ _ _ _ _ _ _ _ _ _ _ _ _ _ _ _ _ _ _ _ _ _ _ _ _ _ _ _ _ _ _ _ _ _ _ _ _ _ _ _ _ _ _ _ _ _ _ _ _) 232 20 [[], [], [0, 1], [2], [3], [3], [4, 5, 3], [3, 6], [7, 3], [8], [9, 8], [8], [10, 11, 8, 8], [12, 12, 8], [13], [14, 13], [13], [15, 16, 13], [13, 17, 8], [8, 18]] (by kernel_rfl) (by kernel_rfl) (by kernel_rfl) (by kernel_rfl) (by kernel_rfl) (by kernel_rfl) (by rfl) rfl (base_of (by repeat (first | exact base_nil _ | refine base_consL rfl ?_))) (sm37a_steps W9 g16 y q (q + 1) j Bt B.tied.length cbt _ _ _ _ _ _ _ _ _ _ _ _ _ _ _ _ _ _ _ _ _ _ _ _ _ _ _ _ _ _ _ _ _ _ _ _ _ _ _ _ _ _ _ _ _ _ _ _ _ _ _ _ _ _ _ _ _ _ _ _ _ _ _ _ _ _ _ _ _ _ _ _ _ _ _ _ _ _ _ _ _ _ _ _ _ _ _ _ _ _ _ _ _ _ _ _ _ _ _ _ _ _ _ _ _ _ _ _ _ _ _ _ _ _ _ _ _ _ _ _ _ _ _ _ _ _ _ _ _ _ _ _ _ _ _ _ _ _ _ _ _ _ _ _ _ _ _ _ _ _ _ _ _ _ _ _ _ _ _ _ _ _ _ _ _ _ _ _ _ _ _ _ _ _ _ _ _ _ _ _ _ _ _ _ _ _ _ _ _ _ _ _ _ _ _ _ _ _ _ _ _ _ _ _ _ _ _ (fun w' h9 => HK6.out w' (HL9.out.trans h9)) (fun w' h9 => HCT.out w' (HL9.out.trans h9)) SY.out.2.2.1 SY.out.2.2.2.1 SY.out.2.2.2.2.1 SY.out.2.2.2.2.2 SY.out.1 SY.out.2.1 (by have h9 := (HCBT.out rfl).1; omega) (by have h9 := (HCBT.out rfl).1; omega)) ?_
                ·intro a9 W8 hsz9 hdf9 hL8 hbs hsl
                 obtain ⟨v9, h9, q9⟩ := hsl 19 _ _ rfl rfl
                 obtain rfl : v9 = .bool false := q9
                 have w230 := slot_getD h9
                 clear h9
                 refine hKN _ _ ?_
                 obtain ⟨T9, df9⟩ := a9
                 obtain rfl : df9 = [] := hdf9
                 obtain ⟨f, hf, rfl⟩ := spell232 T9 hsz9
                 have Y := fun k {v} h => (hf k).trans (slot_getD (hbs k v h))
                 have x230 := (hf 230).trans w230
                 clear hbs hsl hf hsz9 hKN w230
                 simp only [Y 16 rfl, Y 20 rfl, Y 21 rfl, Y 22 rfl, Y 24 rfl, Y 0 rfl, Y 1 rfl, Y 2 rfl, Y 3 rfl, Y 4 rfl, Y 5 rfl, Y 6 rfl, Y 7 rfl, Y 8 rfl, Y 9 rfl, Y 10 rfl, Y 11 rfl, Y 12 rfl, Y 13 rfl, Y 14 rfl, Y 15 rfl, Y 17 rfl, Y 18 rfl, Y 19 rfl, Y 23 rfl, Y 25 rfl, Y 26 rfl, Y 27 rfl, Y 28 rfl, Y 29 rfl, Y 30 rfl, Y 31 rfl, Y 32 rfl, Y 33 rfl, Y 34 rfl, Y 35 rfl, Y 36 rfl, Y 37 rfl, Y 38 rfl, Y 39 rfl, Y 40 rfl, Y 41 rfl, Y 42 rfl, Y 43 rfl, Y 44 rfl, Y 45 rfl, Y 46 rfl, Y 47 rfl, Y 48 rfl, Y 49 rfl, Y 50 rfl, Y 51 rfl, Y 52 rfl, Y 53 rfl, Y 54 rfl, Y 55 rfl, Y 56 rfl, Y 57 rfl, Y 58 rfl, Y 59 rfl, Y 60 rfl, Y 61 rfl, Y 62 rfl, Y 63 rfl, Y 64 rfl, Y 65 rfl, Y 66 rfl, Y 67 rfl, Y 68 rfl, Y 69 rfl, Y 70 rfl, Y 71 rfl, Y 72 rfl, Y 73 rfl, Y 74 rfl, Y 75 rfl, Y 76 rfl, Y 77 rfl, Y 78 rfl, Y 79 rfl, Y 80 rfl, Y 81 rfl, Y 82 rfl, Y 83 rfl, Y 84 rfl, Y 85 rfl, Y 86 rfl, Y 87 rfl, Y 88 rfl, Y 89 rfl, Y 90 rfl, Y 91 rfl, Y 92 rfl, Y 93 rfl, Y 94 rfl, Y 95 rfl, Y 96 rfl, Y 97 rfl, Y 98 rfl, Y 99 rfl, Y 100 rfl, Y 101 rfl, Y 102 rfl, Y 103 rfl, Y 104 rfl, Y 105 rfl, Y 106 rfl, Y 107 rfl, Y 108 rfl, Y 109 rfl, Y 110 rfl, Y 111 rfl, Y 112 rfl, Y 113 rfl, Y 114 rfl, Y 115 rfl, Y 116 rfl, Y 117 rfl, Y 118 rfl, Y 119 rfl, Y 120 rfl, Y 121 rfl, Y 122 rfl, Y 123 rfl, Y 124 rfl, Y 125 rfl, Y 126 rfl, Y 127 rfl, Y 128 rfl, Y 129 rfl, Y 130 rfl, Y 131 rfl, Y 132 rfl, Y 133 rfl, Y 134 rfl, Y 135 rfl, Y 136 rfl, Y 137 rfl, Y 138 rfl, Y 139 rfl, Y 140 rfl, Y 141 rfl, Y 142 rfl, Y 143 rfl, Y 144 rfl, Y 145 rfl, Y 146 rfl, Y 147 rfl, Y 148 rfl, Y 149 rfl, Y 150 rfl, Y 151 rfl, Y 152 rfl, Y 153 rfl, Y 154 rfl, Y 155 rfl, Y 156 rfl, Y 157 rfl, Y 158 rfl, Y 159 rfl, Y 160 rfl, Y 161 rfl, Y 162 rfl, Y 163 rfl, Y 164 rfl, Y 165 rfl, Y 166 rfl, Y 167 rfl, Y 168 rfl, Y 169 rfl, Y 170 rfl, Y 171 rfl, Y 172 rfl, Y 173 rfl, Y 174 rfl, Y 175 rfl, Y 176 rfl, Y 177 rfl, Y 178 rfl, Y 179 rfl, Y 180 rfl, Y 181 rfl, Y 182 rfl, Y 183 rfl, Y 184 rfl, Y 185 rfl, Y 186 rfl, Y 187 rfl, Y 188 rfl, Y 189 rfl, Y 190 rfl, Y 191 rfl, Y 192 rfl, Y 193 rfl, Y 194 rfl, Y 195 rfl, Y 196 rfl, Y 197 rfl, Y 198 rfl, Y 199 rfl, Y 200 rfl, Y 201 rfl, Y 202 rfl, Y 203 rfl, Y 204 rfl, Y 205 rfl, Y 206 rfl, Y 207 rfl, Y 208 rfl, Y 209 rfl, Y 210 rfl, Y 231 rfl, x230]
                 clear x230 Y
                 go_wp2
                 go_roundw
                 case rel =>
                  have HRel : ∃ j' : Nat, j' ≤ C.length ∧ Value.int .i64 ((j : Int) + 1) = .int .i64 (j' : Nat) ∧ Lat WL W8 := ⟨j + 1, by have h9 := HJ.out; omega, by go_num, hlr9.trans hL8⟩
                  first | exact HRel | exact ⟨_, HRel, rfl⟩ | exact ⟨_, _, HRel, rfl, rfl⟩ | exact ⟨_, _, _, HRel, rfl, rfl, rfl⟩ | exact ⟨_, _, _, _, HRel, rfl, rfl, rfl, rfl⟩ | exact ⟨_, _, _, _, _, HRel, rfl, rfl, rfl, rfl, rfl⟩ | exact ⟨_, _, _, _, _, _, HRel, rfl, rfl, rfl, rfl, rfl, rfl⟩ | exact ⟨_, _, _, _, _, _, _, HRel, rfl, rfl, rfl, rfl, rfl, rfl, rfl⟩ | exact ⟨_, _, _, _, _, _, _, _, HRel, rfl, rfl, rfl, rfl, rfl, rfl, rfl, rfl⟩ | exact ⟨_, _, _, _, _, _, _, _, _, HRel, rfl, rfl, rfl, rfl, rfl, rfl, rfl, rfl, rfl⟩
                 case measure =>
                  have h9 := HJ.out
                  simp [intOf]; omega
              | false =>
                as_aux_lemma =>
                rename_i KN hKN
                refine wp_region_slotsN (sm37b_rows g16 y q (q + 1) j Bt B.tied.length cbt) (sm37b_base g16 y q (q + 1) j Bt B.tied.length cbt _ _ _ _ _ _ _ _ _ _ _ _ _ _ _ _ _ _ _ _ _ _ _ _ _ _ _ _ _ _ _ _ _ _ _ _ _ _ _ _ _ _ _ _ _ _ _ _ _ _ _ _ _ _ _ _ _ _ _ _ _ _ _ _ _ _ _ _ _ _ _ _ _ _ _ _ _ _ _ _ _ _ _ _ _ _ _ _ _ _ _ _ _ _ _ _ _ _ _ _ _ _ _ _ _ _ _ _ _ _ _ _ _ _ _ _ _ _ _ _ _ _ _ _ _ _ _ _ _ _ _ _ _ _ _ _ _ _ _ _ _ _ _ _ _ _ _ _ _ _ _ _ _ _ _ _ _ _ _ _ _ _ _ _ _ _ _ _ _ _ _ _ _ _ _ _ _ _ _ _ _ _ _ _ _ _ _ _ _ _ _ _ _ _ _ _ _ _ _ _ _ _ _ _ _ _ _) 232 20 [[], [], [0, 1], [2], [3], [3], [4, 5, 3], [3, 6], [7, 3], [8], [9, 8], [8], [10, 11, 8, 8], [12, 12, 8], [13], [14, 13], [13], [15, 16, 13], [13, 17, 8], [8, 18]] (by kernel_rfl) (by kernel_rfl) (by kernel_rfl) (by kernel_rfl) (by kernel_rfl) (by kernel_rfl) (by rfl) rfl (base_of (by repeat (first | exact base_nil _ | refine base_consL rfl ?_))) (sm37b_steps W9 g16 y q (q + 1) j Bt B.tied.length cbt _ _ _ _ _ _ _ _ _ _ _ _ _ _ _ _ _ _ _ _ _ _ _ _ _ _ _ _ _ _ _ _ _ _ _ _ _ _ _ _ _ _ _ _ _ _ _ _ _ _ _ _ _ _ _ _ _ _ _ _ _ _ _ _ _ _ _ _ _ _ _ _ _ _ _ _ _ _ _ _ _ _ _ _ _ _ _ _ _ _ _ _ _ _ _ _ _ _ _ _ _ _ _ _ _ _ _ _ _ _ _ _ _ _ _ _ _ _ _ _ _ _ _ _ _ _ _ _ _ _ _ _ _ _ _ _ _ _ _ _ _ _ _ _ _ _ _ _ _ _ _ _ _ _ _ _ _ _ _ _ _ _ _ _ _ _ _ _ _ _ _ _ _ _ _ _ _ _ _ _ _ _ _ _ _ _ _ _ _ _ _ _ _ _ _ _ _ _ _ _ _ _ _ _ _ _ _ (fun w' h9 => HK6.out w' (HL9.out.trans h9)) (fun w' h9 => HCT.out w' (HL9.out.trans h9)) SY.out.2.2.1 SY.out.2.2.2.1 SY.out.2.2.2.2.1 SY.out.2.2.2.2.2) ?_
                ·intro a9 W8 hsz9 hdf9 hL8 hbs hsl
                 obtain ⟨v9, h9, q9⟩ := hsl 19 _ _ rfl rfl
                 obtain rfl : v9 = .bool false := q9
                 have w230 := slot_getD h9
                 clear h9
                 refine hKN _ _ ?_
                 obtain ⟨T9, df9⟩ := a9
                 obtain rfl : df9 = [] := hdf9
                 obtain ⟨f, hf, rfl⟩ := spell232 T9 hsz9
                 have Y := fun k {v} h => (hf k).trans (slot_getD (hbs k v h))
                 have x230 := (hf 230).trans w230
                 clear hbs hsl hf hsz9 hKN w230
                 simp only [Y 16 rfl, Y 20 rfl, Y 21 rfl, Y 22 rfl, Y 24 rfl, Y 0 rfl, Y 1 rfl, Y 2 rfl, Y 3 rfl, Y 4 rfl, Y 5 rfl, Y 6 rfl, Y 7 rfl, Y 8 rfl, Y 9 rfl, Y 10 rfl, Y 11 rfl, Y 12 rfl, Y 13 rfl, Y 14 rfl, Y 15 rfl, Y 17 rfl, Y 18 rfl, Y 19 rfl, Y 23 rfl, Y 25 rfl, Y 26 rfl, Y 27 rfl, Y 28 rfl, Y 29 rfl, Y 30 rfl, Y 31 rfl, Y 32 rfl, Y 33 rfl, Y 34 rfl, Y 35 rfl, Y 36 rfl, Y 37 rfl, Y 38 rfl, Y 39 rfl, Y 40 rfl, Y 41 rfl, Y 42 rfl, Y 43 rfl, Y 44 rfl, Y 45 rfl, Y 46 rfl, Y 47 rfl, Y 48 rfl, Y 49 rfl, Y 50 rfl, Y 51 rfl, Y 52 rfl, Y 53 rfl, Y 54 rfl, Y 55 rfl, Y 56 rfl, Y 57 rfl, Y 58 rfl, Y 59 rfl, Y 60 rfl, Y 61 rfl, Y 62 rfl, Y 63 rfl, Y 64 rfl, Y 65 rfl, Y 66 rfl, Y 67 rfl, Y 68 rfl, Y 69 rfl, Y 70 rfl, Y 71 rfl, Y 72 rfl, Y 73 rfl, Y 74 rfl, Y 75 rfl, Y 76 rfl, Y 77 rfl, Y 78 rfl, Y 79 rfl, Y 80 rfl, Y 81 rfl, Y 82 rfl, Y 83 rfl, Y 84 rfl, Y 85 rfl, Y 86 rfl, Y 87 rfl, Y 88 rfl, Y 89 rfl, Y 90 rfl, Y 91 rfl, Y 92 rfl, Y 93 rfl, Y 94 rfl, Y 95 rfl, Y 96 rfl, Y 97 rfl, Y 98 rfl, Y 99 rfl, Y 100 rfl, Y 101 rfl, Y 102 rfl, Y 103 rfl, Y 104 rfl, Y 105 rfl, Y 106 rfl, Y 107 rfl, Y 108 rfl, Y 109 rfl, Y 110 rfl, Y 111 rfl, Y 112 rfl, Y 113 rfl, Y 114 rfl, Y 115 rfl, Y 116 rfl, Y 117 rfl, Y 118 rfl, Y 119 rfl, Y 120 rfl, Y 121 rfl, Y 122 rfl, Y 123 rfl, Y 124 rfl, Y 125 rfl, Y 126 rfl, Y 127 rfl, Y 128 rfl, Y 129 rfl, Y 130 rfl, Y 131 rfl, Y 132 rfl, Y 133 rfl, Y 134 rfl, Y 135 rfl, Y 136 rfl, Y 137 rfl, Y 138 rfl, Y 139 rfl, Y 140 rfl, Y 141 rfl, Y 142 rfl, Y 143 rfl, Y 144 rfl, Y 145 rfl, Y 146 rfl, Y 147 rfl, Y 148 rfl, Y 149 rfl, Y 150 rfl, Y 151 rfl, Y 152 rfl, Y 153 rfl, Y 154 rfl, Y 155 rfl, Y 156 rfl, Y 157 rfl, Y 158 rfl, Y 159 rfl, Y 160 rfl, Y 161 rfl, Y 162 rfl, Y 163 rfl, Y 164 rfl, Y 165 rfl, Y 166 rfl, Y 167 rfl, Y 168 rfl, Y 169 rfl, Y 170 rfl, Y 171 rfl, Y 172 rfl, Y 173 rfl, Y 174 rfl, Y 175 rfl, Y 176 rfl, Y 177 rfl, Y 178 rfl, Y 179 rfl, Y 180 rfl, Y 181 rfl, Y 182 rfl, Y 183 rfl, Y 184 rfl, Y 185 rfl, Y 186 rfl, Y 187 rfl, Y 188 rfl, Y 189 rfl, Y 190 rfl, Y 191 rfl, Y 192 rfl, Y 193 rfl, Y 194 rfl, Y 195 rfl, Y 196 rfl, Y 197 rfl, Y 198 rfl, Y 199 rfl, Y 200 rfl, Y 201 rfl, Y 202 rfl, Y 203 rfl, Y 204 rfl, Y 205 rfl, Y 206 rfl, Y 207 rfl, Y 208 rfl, Y 209 rfl, Y 210 rfl, Y 231 rfl, x230]
                 clear x230 Y
                 go_wp2
                 go_roundw
                 case rel =>
                  have HRel : ∃ j' : Nat, j' ≤ C.length ∧ Value.int .i64 ((j : Int) + 1) = .int .i64 (j' : Nat) ∧ Lat WL W8 := ⟨j + 1, by have h9 := HJ.out; omega, by go_num, hlr9.trans hL8⟩
                  first | exact HRel | exact ⟨_, HRel, rfl⟩ | exact ⟨_, _, HRel, rfl, rfl⟩ | exact ⟨_, _, _, HRel, rfl, rfl, rfl⟩ | exact ⟨_, _, _, _, HRel, rfl, rfl, rfl, rfl⟩ | exact ⟨_, _, _, _, _, HRel, rfl, rfl, rfl, rfl, rfl⟩ | exact ⟨_, _, _, _, _, _, HRel, rfl, rfl, rfl, rfl, rfl, rfl⟩ | exact ⟨_, _, _, _, _, _, _, HRel, rfl, rfl, rfl, rfl, rfl, rfl, rfl⟩ | exact ⟨_, _, _, _, _, _, _, _, HRel, rfl, rfl, rfl, rfl, rfl, rfl, rfl, rfl⟩ | exact ⟨_, _, _, _, _, _, _, _, _, HRel, rfl, rfl, rfl, rfl, rfl, rfl, rfl, rfl, rfl⟩
                 case measure =>
                  have h9 := HJ.out
                  simp [intOf]; omega
             ·cases cb with
              | true => exact absurd (HCBT.out rfl).2 hr
              | false =>
                as_aux_lemma =>
                go_upto_region 37 with (fail)
                rename_i KN hKN
                refine wp_region_slotsN (sm37b_rows g16 y q q j Bt B.tied.length cbt) (sm37b_base g16 y q q j Bt B.tied.length cbt _ _ _ _ _ _ _ _ _ _ _ _ _ _ _ _ _ _ _ _ _ _ _ _ _ _ _ _ _ _ _ _ _ _ _ _ _ _ _ _ _ _ _ _ _ _ _ _ _ _ _ _ _ _ _ _ _ _ _ _ _ _ _ _ _ _ _ _ _ _ _ _ _ _ _ _ _ _ _ _ _ _ _ _ _ _ _ _ _ _ _ _ _ _ _ _ _ _ _ _ _ _ _ _ _ _ _ _ _ _ _ _ _ _ _ _ _ _ _ _ _ _ _ _ _ _ _ _ _ _ _ _ _ _ _ _ _ _ _ _ _ _ _ _ _ _ _ _ _ _ _ _ _ _ _ _ _ _ _ _ _ _ _ _ _ _ _ _ _ _ _ _ _ _ _ _ _ _ _ _ _ _ _ _ _ _ _ _ _ _ _ _ _ _ _ _ _ _ _ _ _ _ _ _ _ _ _) 232 20 [[], [], [0, 1], [2], [3], [3], [4, 5, 3], [3, 6], [7, 3], [8], [9, 8], [8], [10, 11, 8, 8], [12, 12, 8], [13], [14, 13], [13], [15, 16, 13], [13, 17, 8], [8, 18]] (by kernel_rfl) (by kernel_rfl) (by kernel_rfl) (by kernel_rfl) (by kernel_rfl) (by kernel_rfl) (by rfl) rfl (base_of (by repeat (first | exact base_nil _ | refine base_consL rfl ?_))) (sm37b_steps W9 g16 y q q j Bt B.tied.length cbt _ _ _ _ _ _ _ _ _ _ _ _ _ _ _ _ _ _ _ _ _ _ _ _ _ _ _ _ _ _ _ _ _ _ _ _ _ _ _ _ _ _ _ _ _ _ _ _ _ _ _ _ _ _ _ _ _ _ _ _ _ _ _ _ _ _ _ _ _ _ _ _ _ _ _ _ _ _ _ _ _ _ _ _ _ _ _ _ _ _ _ _ _ _ _ _ _ _ _ _ _ _ _ _ _ _ _ _ _ _ _ _ _ _ _ _ _ _ _ _ _ _ _ _ _ _ _ _ _ _ _ _ _ _ _ _ _ _ _ _ _ _ _ _ _ _ _ _ _ _ _ _ _ _ _ _ _ _ _ _ _ _ _ _ _ _ _ _ _ _ _ _ _ _ _ _ _ _ _ _ _ _ _ _ _ _ _ _ _ _ _ _ _ _ _ _ _ _ _ _ _ _ _ _ _ _ _ (fun w' h9 => HK6.out w' (HL9.out.trans h9)) (fun w' h9 => HCT.out w' (HL9.out.trans h9)) (by rcases HF1.out with h9 | ⟨h9, h8⟩ <;> omega) (by rcases HF1.out with h9 | ⟨h9, h8⟩ <;> omega) (by rcases HF1.out with h9 | ⟨h9, h8⟩ <;> omega) (by rcases HF1.out with h9 | ⟨h9, h8⟩ <;> omega)) ?_
                ·intro a9 W8 hsz9 hdf9 hL8 hbs hsl
                 obtain ⟨v9, h9, q9⟩ := hsl 19 _ _ rfl rfl
                 obtain rfl : v9 = .bool false := q9
                 have w230 := slot_getD h9
                 clear h9
                 refine hKN _ _ ?_
                 obtain ⟨T9, df9⟩ := a9
                 obtain rfl : df9 = [] := hdf9
                 obtain ⟨f, hf, rfl⟩ := spell232 T9 hsz9
                 have Y := fun k {v} h => (hf k).trans (slot_getD (hbs k v h))
                 have x230 := (hf 230).trans w230
                 clear hbs hsl hf hsz9 hKN w230
                 simp only [Y 16 rfl, Y 20 rfl, Y 21 rfl, Y 22 rfl, Y 24 rfl, Y 0 rfl, Y 1 rfl, Y 2 rfl, Y 3 rfl, Y 4 rfl, Y 5 rfl, Y 6 rfl, Y 7 rfl, Y 8 rfl, Y 9 rfl, Y 10 rfl, Y 11 rfl, Y 12 rfl, Y 13 rfl, Y 14 rfl, Y 15 rfl, Y 17 rfl, Y 18 rfl, Y 19 rfl, Y 23 rfl, Y 25 rfl, Y 26 rfl, Y 27 rfl, Y 28 rfl, Y 29 rfl, Y 30 rfl, Y 31 rfl, Y 32 rfl, Y 33 rfl, Y 34 rfl, Y 35 rfl, Y 36 rfl, Y 37 rfl, Y 38 rfl, Y 39 rfl, Y 40 rfl, Y 41 rfl, Y 42 rfl, Y 43 rfl, Y 44 rfl, Y 45 rfl, Y 46 rfl, Y 47 rfl, Y 48 rfl, Y 49 rfl, Y 50 rfl, Y 51 rfl, Y 52 rfl, Y 53 rfl, Y 54 rfl, Y 55 rfl, Y 56 rfl, Y 57 rfl, Y 58 rfl, Y 59 rfl, Y 60 rfl, Y 61 rfl, Y 62 rfl, Y 63 rfl, Y 64 rfl, Y 65 rfl, Y 66 rfl, Y 67 rfl, Y 68 rfl, Y 69 rfl, Y 70 rfl, Y 71 rfl, Y 72 rfl, Y 73 rfl, Y 74 rfl, Y 75 rfl, Y 76 rfl, Y 77 rfl, Y 78 rfl, Y 79 rfl, Y 80 rfl, Y 81 rfl, Y 82 rfl, Y 83 rfl, Y 84 rfl, Y 85 rfl, Y 86 rfl, Y 87 rfl, Y 88 rfl, Y 89 rfl, Y 90 rfl, Y 91 rfl, Y 92 rfl, Y 93 rfl, Y 94 rfl, Y 95 rfl, Y 96 rfl, Y 97 rfl, Y 98 rfl, Y 99 rfl, Y 100 rfl, Y 101 rfl, Y 102 rfl, Y 103 rfl, Y 104 rfl, Y 105 rfl, Y 106 rfl, Y 107 rfl, Y 108 rfl, Y 109 rfl, Y 110 rfl, Y 111 rfl, Y 112 rfl, Y 113 rfl, Y 114 rfl, Y 115 rfl, Y 116 rfl, Y 117 rfl, Y 118 rfl, Y 119 rfl, Y 120 rfl, Y 121 rfl, Y 122 rfl, Y 123 rfl, Y 124 rfl, Y 125 rfl, Y 126 rfl, Y 127 rfl, Y 128 rfl, Y 129 rfl, Y 130 rfl, Y 131 rfl, Y 132 rfl, Y 133 rfl, Y 134 rfl, Y 135 rfl, Y 136 rfl, Y 137 rfl, Y 138 rfl, Y 139 rfl, Y 140 rfl, Y 141 rfl, Y 142 rfl, Y 143 rfl, Y 144 rfl, Y 145 rfl, Y 146 rfl, Y 147 rfl, Y 148 rfl, Y 149 rfl, Y 150 rfl, Y 151 rfl, Y 152 rfl, Y 153 rfl, Y 154 rfl, Y 155 rfl, Y 156 rfl, Y 157 rfl, Y 158 rfl, Y 159 rfl, Y 160 rfl, Y 161 rfl, Y 162 rfl, Y 163 rfl, Y 164 rfl, Y 165 rfl, Y 166 rfl, Y 167 rfl, Y 168 rfl, Y 169 rfl, Y 170 rfl, Y 171 rfl, Y 172 rfl, Y 173 rfl, Y 174 rfl, Y 175 rfl, Y 176 rfl, Y 177 rfl, Y 178 rfl, Y 179 rfl, Y 180 rfl, Y 181 rfl, Y 182 rfl, Y 183 rfl, Y 184 rfl, Y 185 rfl, Y 186 rfl, Y 187 rfl, Y 188 rfl, Y 189 rfl, Y 190 rfl, Y 191 rfl, Y 192 rfl, Y 193 rfl, Y 194 rfl, Y 195 rfl, Y 196 rfl, Y 197 rfl, Y 198 rfl, Y 199 rfl, Y 200 rfl, Y 201 rfl, Y 202 rfl, Y 203 rfl, Y 204 rfl, Y 205 rfl, Y 206 rfl, Y 207 rfl, Y 208 rfl, Y 209 rfl, Y 210 rfl, Y 231 rfl, x230]
                 clear x230 Y
                 go_wp2
                 go_roundw
                 case rel =>
                  have HRel : ∃ j' : Nat, j' ≤ C.length ∧ Value.int .i64 ((j : Int) + 1) = .int .i64 (j' : Nat) ∧ Lat WL W8 := ⟨j + 1, by have h9 := HJ.out; omega, by go_num, hlr9.trans hL8⟩
                  first | exact HRel | exact ⟨_, HRel, rfl⟩ | exact ⟨_, _, HRel, rfl, rfl⟩ | exact ⟨_, _, _, HRel, rfl, rfl, rfl⟩ | exact ⟨_, _, _, _, HRel, rfl, rfl, rfl, rfl⟩ | exact ⟨_, _, _, _, _, HRel, rfl, rfl, rfl, rfl, rfl⟩ | exact ⟨_, _, _, _, _, _, HRel, rfl, rfl, rfl, rfl, rfl, rfl⟩ | exact ⟨_, _, _, _, _, _, _, HRel, rfl, rfl, rfl, rfl, rfl, rfl, rfl⟩ | exact ⟨_, _, _, _, _, _, _, _, HRel, rfl, rfl, rfl, rfl, rfl, rfl, rfl, rfl⟩ | exact ⟨_, _, _, _, _, _, _, _, _, HRel, rfl, rfl, rfl, rfl, rfl, rfl, rfl, rfl, rfl⟩
                 case measure =>
                  have h9 := HJ.out
                  simp [intOf]; omega
           ·as_aux_lemma =>
            obtain rfl : C.length = j := by omega
            go_wp2
            go_ret
            exact ⟨rfl, Lr.trans hlr⟩
end Go.Proofs.YtbgngmamnonlbaaGreat
