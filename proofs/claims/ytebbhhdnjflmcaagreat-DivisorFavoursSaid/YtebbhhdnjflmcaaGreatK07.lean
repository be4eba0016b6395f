/- Several texts in one: Ranks. -/
import Derived.Test.YtebbhhdnjflmcaaGreatK06

/- DivisorRanks: the walk. -/
namespace Go.Proofs.YtebbhhdnjflmcaaGreat
open Go.RowKit Go.Shelf
set_option linter.unusedSimpArgs false
set_option linter.unusedVariables false

/-- What is told of the ranks of an award. -/
structure RanksOk (m : Int) (C : List Int) (F : Aw) : Prop where
  last : ∀ i j, i < C.length → j < C.length → atI F.seats i ≠ 0 → 1 ≤ atI C i → 1 ≤ atI C j → 0 ≤ cmpR m (atI C i) (atI F.seats i - 1) (atI C j) (atI F.seats j)
  tied : ∀ t ∈ F.tied, ∀ u ∈ F.tied, cmpR m (atI C t) (atI F.seats t) (atI C u) (atI F.seats u) = 0
  pos : ∀ t ∈ F.tied, 1 ≤ atI C t
theorem ranksOk {C : List Int} {s m : Int} (hc : censusB C = true) (s0 : 0 ≤ s) : RanksOk m C (awardOf (cmpR m) C (List.replicate C.length 0) s) := by
  have hcen := census_iff.1 hc
  have hz : ∀ i, atI (List.replicate C.length (0 : Int)) i = 0 := fun i => by
    unfold atI
    rw [List.getElem?_replicate]
    split <;> rfl
  have hP : ∀ i ∈ full C, 1 ≤ atI C i := fun i hi => by have := (mem_full.1 hi).2; omega
  obtain ⟨a, b, c⟩ := award_last (cmpR_rank m) hP (full_nodup C) s.toNat (List.replicate C.length 0) s [] (fun i => by rw [hz]; exact Int.le_refl _) (fun i hi => by rw [List.length_replicate]; exact (mem_full.1 hi).1)
    (fun i hi h => by rw [hz] at h; omega)
  have h := awardOf_adds (f := cmpR m) (Z := List.replicate C.length 0) (full_ne hcen.2.2) (by simp) s0
  refine ⟨fun i j hi hj h0 h1 h2 => ?_, b, fun t ht => hP t (h.tied t ht)⟩
  have h3 := c i
  exact a i (mem_full.2 ⟨hi, by omega⟩) (by unfold awardOf at h0; omega) j (mem_full.2 ⟨hj, by omega⟩)
theorem cmpR_range (m p s q t : Int) : -1 ≤ cmpR m p s q t ∧ cmpR m p s q t ≤ 1 := by
  have hs : ∀ x, -1 ≤ sideOf x ∧ sideOf x ≤ 1 := fun x => by unfold sideOf; split <;> (try split) <;> omega
  unfold cmpR
  split
  · split
    · exact hs _
    · omega
  · split
    · omega
    · exact hs _

set_option maxRecDepth 100000 in
set_option maxHeartbeats 8000000 in
theorem dRanks_any (Ap : Option Addr) (np cp : Nat) (ps : List Int) (u : Int) (Al : Option Addr) (nl cl : Nat) (ls : List Int) (s me : Int) (w : World)
    (hp : Sl w .u16 Ap np ps) (hnp : np ≤ 9223372036854775807) (hrp : ∀ x ∈ ps, 0 ≤ x ∧ x ≤ 65535) (u0 : 0 ≤ u) (u1 : u ≤ 255) (s0 : 0 ≤ s) (s1 : s ≤ 65535) (a0 : 0 ≤ me) (a1 : me ≤ 255) :
    Calls Tryz.prog 6 #[.agg #[.slice Ap np cp, .int .u8 u, .slice Al nl cl, .int .u16 s], .int .u8 me] w (Yes w) := by
  have HC := fun w (h : Sl w .u16 Ap np ps) => census_any Ap np cp ps u Al nl cl s w h hnp hrp u0 u1
  have HH := fun w => house_any Ap np cp u Al nl cl s w s0 s1
  have hok := draftC_ok u0 u1 hrp
  have hcs := draftC_census u0 u1 hrp
  have hhr := @houseN_range s
  obtain ⟨C, hC⟩ : ∃ C, draftC u ps = C := ⟨_, rfl⟩
  obtain ⟨h, hh⟩ : ∃ h, houseN s = h := ⟨_, rfl⟩
  rw [hC] at HC hok hcs
  rw [hh] at HH hhr
  have hc0 := hok.2.2.1
  have hc9 := hok.2.2.2
  have HCP := Lib.hid hok.1
  have HCS := Lib.hid hcs
  have hh0 := hhr.1
  have hh1 := hhr.2
  have HC' := Lib.hid HC
  have HH' := Lib.hid HH
  clear hrp hC hh hok HC HH hcs hhr
  go_enter Tryz.func6, Tryz.ntmps6
  go_wp2_with fail
  refine name1 (Q := fun W => Calls _ _ _ W _) ?_
  intro W1 L1 hs1 k1
  refine (wakes_any W1).mono ?_
  rintro e W2 ⟨rfl, l1⟩
  have L2 := L1.trans l1
  have k2 := k1.later l1
  have hp2 := hp.later L2
  clear l1 k1
  have HX := fun w (h : Lat W2 w) => HC'.out w (hp2.later h)
  go_upto_region 3 with (fail)
  go_cut [5, 6, 7] from 22 to 30 (fun c k t wx => ∃ Ac cc m, c = .slice Ac C.length cc ∧ k = .int .i64 m ∧ t = .int .i64 (min h 40) ∧ Sl wx .i64 Ac C.length C ∧ 11 ≤ m ∧ m ≤ 15 ∧ Lat W2 wx)
  case first =>
    have hnn : w.heap.size ∉ ([] : List Nat) := by simp
    have b0 := k2.evS hnn 0 rfl
    have b1 := k2.evS hnn 1 rfl
    have b2 := k2.evS hnn 2 rfl
    have b3 := k2.evS hnn 3 rfl
    have L0 := Lat.drew W2
    have M0 := L0.s ([] : List Nat)
    obtain ⟨kk, hkk⟩ : ∃ kk, me.tmod 5 = kk := ⟨_, rfl⟩
    obtain ⟨mm, hmm0, hmm1, hix⟩ := idx61 (k := kk) (by rw [← hkk, Int.tmod_eq_emod_of_nonneg a0]; omega) (by rw [← hkk, Int.tmod_eq_emod_of_nonneg a0]; omega)
    go_region_held3 (fun w' => LatS W2 ([] : List Nat) w') (first | (with_reducible assumption) | ((repeat refine LatS.set ?_ (by simp) _); (with_reducible assumption)))
      (first
        | (go_at_call 16; (with_reducible refine (HX _ ?_).mono ?_); (first | exact LM | exact L0); rintro e wc ⟨Ac, cc, rfl, q1, q2, q3, q4⟩; (first | have LC := LM.trans q3 | have LC := L0.trans q3); have MC := LC.s ([] : List Nat))
        | (go_at_call 26; (with_reducible refine (methods_any _).mono ?_); rintro e wn ⟨rfl, s3⟩; (first | have LN := LC.trans s3 | have LN := L0.trans s3); have MN := LN.s ([] : List Nat))
        | (go_at_call 19; (with_reducible refine (HH'.out _).mono ?_); rintro e wm ⟨rfl, r3⟩; (first | have LM := LN.trans r3 | have LM := L0.trans r3); have MM := LM.s ([] : List Nat)))
    all_goals
      go_wp2_with fail
      go_meet
      exact ⟨Ac, cc, _, rfl, rfl, rfl, (q1.later s3).later r3, hmm0, hmm1, LM⟩
  case rest =>
    obtain ⟨Ac, cc, m, rfl, rfl, rfl, q1, m0, m1, l3⟩ := hcut
    have L3 := L2.trans l3
    obtain ⟨t, ht⟩ : ∃ t, min h 40 = t := ⟨_, rfl⟩
    have t0 : 1 ≤ t := by omega
    have t1 : t ≤ 60 := by omega
    rw [ht]
    have hF := fromNil (m := m) HCS.out (show 0 ≤ t by omega)
    have hR := ranksOk (m := m) HCS.out (show 0 ≤ t by omega)
    have F1 := fun w (h : Sl w .i64 Ac C.length C) => dGive_any Ac C.length cc C none 0 0 [] t m w h (Sl.nil _ _ _) (by omega) (by omega)
    rw [giveE_ok HCS.out t0 (by omega) m0 m1, giveF_eq HCS.out t0 (by omega) m0 m1] at F1
    have hTL := (giveF_len C t m []).2.1
    rw [giveF_eq HCS.out t0 (by omega) m0 m1] at hTL
    obtain ⟨F, hFF⟩ : ∃ F, awardOf (cmpR m) C (List.replicate C.length 0) t = F := ⟨_, rfl⟩
    rw [hFF] at F1 hF hR hTL
    have HF := Lib.hid hF
    have HR := Lib.hid hR
    clear hFF ht hF hR HX k2 l3 hp2 L2 HC' HH' hh0 hh1
    go_wp2_with fail
    refine (F1 wc q1).mono ?_
    rintro e v1 ⟨A1, n1, c1, A2, n2, c2, rfl, f1, f2, x1⟩
    obtain rfl : n1 = C.length := by have := f1.1; have := HF.out.len; omega
    have y1 := L3.trans x1
    have q1 := q1.later x1
    have HAT : Hid (∀ i, 0 ≤ atI F.seats i ∧ atI F.seats i ≤ 60) := fun i => by
      have := atI_sum_le HF.out.pos i
      have := HF.out.sum
      have := HF.out.left
      omega
    have hn2 : n2 ≤ 60 := by have := f2.1; simp only [ints, List.length_map] at this; omega
    have HNT : Hid (n2 = F.tied.length) := by have := f2.1; show _ = _; simpa [ints] using this.symm
    clear F1 x1 L3
    go_upto_region 5 with (fail)
    refine name1 (Q := fun W => Code.wp _ _ _ _ W) ?_
    intro v2 x2 hs2 kb1
    have q1 := q1.later x2
    have f1 := f1.later x2
    have f2 := f2.later x2
    have y2 := y1.trans x2
    clear x2 y1 hs2
    have d1_0 := kb1.cell 0
    have d1_1 := kb1.cell 1
    have d1_2 := kb1.cell 2
    go_wp2
    clear d1_0 d1_1 d1_2
    go_loopw [50] (fun i wr => ∃ k : Nat, k ≤ C.length ∧ i = .int .i64 k ∧ Lat v2 wr) (fun i _ => C.length - (intOf i).toNat)
    case atStart => exact ⟨0, by omega, rfl, Lat.refl _⟩
    case round =>
      obtain ⟨k, hk, rfl, hlr⟩ := hrel
      obtain ⟨wo, rfl⟩ : ∃ wk : World, wk = wr := ⟨_, rfl⟩
      by_cases hlt : k < C.length
      · have hlt' : (k : Int) < C.length := by omega
        go_wp2
        go_loopw [55] (fun i wr => ∃ j : Nat, j ≤ C.length ∧ i = .int .i64 j ∧ Lat v2 wr) (fun i _ => C.length - (intOf i).toNat)
        case atStart => exact ⟨0, by omega, rfl, hlr⟩
        case round =>
          obtain ⟨j, hj, rfl, hlr2⟩ := hrel
          by_cases hlt2 : j < C.length
          · have hlt2' : (j : Int) < C.length := by omega
            have kb := kb1.later hlr2
            have e1 := kb.cell 0
            obtain ⟨a, p, hAc, ha, hpk, hcp⟩ := (q1.later hlr2).at hlt
            obtain ⟨a', q, hAc', ha', hqk, hcq⟩ := (q1.later hlr2).at hlt2
            subst hAc
            obtain rfl : a = a' := by simpa using hAc'
            obtain ⟨b, x, hA1, hb, hxk, hcx⟩ := (f1.later hlr2).at hlt
            obtain ⟨b', y, hA1', hb', hyk, hcy⟩ := (f1.later hlr2).at hlt2
            subst hA1
            obtain rfl : b = b' := by simpa using hA1'
            have HP := Lib.hid (atI_of hpk)
            have HQ := Lib.hid (atI_of hqk)
            have HX := Lib.hid (atI_of hxk)
            have HY := Lib.hid (atI_of hyk)
            have hp01 := HCP.out p (List.mem_of_getElem? hpk)
            have hq01 := HCP.out q (List.mem_of_getElem? hqk)
            have hx01 : 0 ≤ x ∧ x ≤ 60 := by have := HAT.out k; rw [HX.out] at this; exact this
            have hy01 : 0 ≤ y ∧ y ≤ 60 := by have := HAT.out j; rw [HY.out] at this; exact this
            have x0 := hx01.1
            have x1 := hx01.2
            have p0 := hp01.1
            have p1 := hp01.2
            have z0 := hq01.1
            have z1 := hq01.2
            clear hAc' hA1' hpk hqk hxk hyk
            by_cases hx0 : x = 0
            · subst hx0
              go_wp2
              go_roundw
              case rel => exact ⟨j + 1, by omega, by go_num, hlr2⟩
              case measure => simp [intOf]; omega
            · by_cases hp0 : p = 0
              · subst hp0
                have hxb : (x == 0) = false := by simp [hx0]
                go_wp2
                go_roundw
                case rel => exact ⟨j + 1, by omega, by go_num, hlr2⟩
                case measure => simp [intOf]; omega
              · by_cases hq0 : q = 0
                · subst hq0
                  have hxb : (x == 0) = false := by simp [hx0]
                  have hpb : (p == 0) = false := by simp [hp0]
                  go_wp2
                  go_roundw
                  case rel => exact ⟨j + 1, by omega, by go_num, hlr2⟩
                  case measure => simp [intOf]; omega
                · have hxb : (x == 0) = false := by simp [hx0]
                  have hpb : (p == 0) = false := by simp [hp0]
                  have hqb : (q == 0) = false := by simp [hq0]
                  have hge := HR.out.last k j hlt hlt2 (by rw [HX.out]; exact hx0) (by rw [HP.out]; omega) (by rw [HQ.out]; omega)
                  rw [HP.out, HQ.out, HX.out, HY.out] at hge
                  have HA := fun w => dAbove_in m p (x - 1) q y w m0 m1 (by omega) (by omega) (by omega) (by omega) (by omega) (by omega) (by omega) (by omega)
                  obtain ⟨cv, hcv⟩ : ∃ cv, cmpR m p (x - 1) q y = cv := ⟨_, rfl⟩
                  rw [hcv] at hge HA
                  have htx : IntKind.i64.wrap (x - 1) = x - 1 := IntWalk.i64_in _ (by omega)
                  have E0 : ∀ w', LatS wr ([] : List Nat) w' → w'.cell? ⟨v1.heap.size, 0, none⟩ = some (.slice (some b) C.length c1) := fun w' h => h.at_cell (p := ⟨v1.heap.size, 0, none⟩) kb.lt e1
                  have E1 : ∀ w', LatS wr ([] : List Nat) w' → w'.cell? (a.add k) = some (.int .i64 p) := fun w' h => h.at_cell (by rw [block_add]; exact ha) hcp
                  have E2 : ∀ w', LatS wr ([] : List Nat) w' → w'.cell? (a.add j) = some (.int .i64 q) := fun w' h => h.at_cell (by rw [block_add]; exact ha) hcq
                  have E3 : ∀ w', LatS wr ([] : List Nat) w' → w'.cell? (b.add k) = some (.int .i64 x) := fun w' h => h.at_cell (by rw [block_add]; exact hb) hcx
                  have E4 : ∀ w', LatS wr ([] : List Nat) w' → w'.cell? (b.add j) = some (.int .i64 y) := fun w' h => h.at_cell (by rw [block_add]; exact hb) hcy
                  clear hcv HP HQ HX HY hp01 hq01 hx01 hy01 hx0 hp0 hq0
                  go_wp2
                  have L0 := Lat.drew wr
                  have M0 := L0.s ([] : List Nat)
                  go_region_held3 (fun w' => LatS wr ([] : List Nat) w') (first | (with_reducible assumption) | ((repeat refine LatS.set ?_ (by simp) _); (with_reducible assumption)))
                    ((go_at_call 14; (with_reducible refine (HA _).mono ?_); rintro e w5 ⟨rfl, l5⟩; have L5 := L0.trans l5; have M5 := L5.s ([] : List Nat)))
                  have L6 := hlr2.trans L5
                  clear E0 E1 E2 E3 E4 HA M0 M5 L0 L5 e1 hcp hcq hcx hcy kb
                  go_wp2
                  go_roundw
                  case rel => exact ⟨j + 1, by omega, by go_num, L6⟩
                  case measure => simp [intOf]; omega
          · go_wp2
            go_roundw
            case rel => exact ⟨k + 1, by omega, by go_num, hlr2⟩
            case measure => simp [intOf]; omega
      · have kb := kb1.later hlr
        have e1 := kb.cell 1
        go_wp2
        clear e1 kb hlt hk
        go_loopw [113] (fun i wr => ∃ k : Nat, k ≤ n2 ∧ i = .int .i64 k ∧ Lat v2 wr) (fun i _ => n2 - (intOf i).toNat)
        case atStart => exact ⟨0, by omega, rfl, hlr⟩
        case round =>
          clear hlr
          obtain ⟨k, hk, rfl, hlr⟩ := hrel
          obtain ⟨wo2, rfl⟩ : ∃ wk : World, wk = wr := ⟨_, rfl⟩
          by_cases hlt : k < n2
          · have hlt' : (k : Int) < n2 := by omega
            have kb := kb1.later hlr
            have e1 := kb.cell 1
            obtain ⟨d, t0', hA2, hd, htk, hct⟩ := (f2.later hlr).at hlt
            subst hA2
            obtain ⟨tt, htt⟩ : ∃ tt, F.tied[k]? = some tt := ⟨_, List.getElem?_eq_getElem (by have := HNT.out; omega)⟩
            obtain rfl : (tt : Int) = t0' := by simpa [ints, htt] using htk
            have HTM := Lib.hid (List.mem_of_getElem? htt)
            have htn := HF.out.tied tt HTM.out
            have htn' : (tt : Int) < C.length := by omega
            clear htk htt hd
            go_wp2
            clear e1 kb hct
            go_loopw [120] (fun i wr => ∃ j : Nat, j ≤ n2 ∧ i = .int .i64 j ∧ Lat v2 wr) (fun i _ => n2 - (intOf i).toNat)
            case atStart => exact ⟨0, by omega, rfl, hlr⟩
            case round =>
              obtain ⟨j, hj, rfl, hlr2⟩ := hrel
              by_cases hlt2 : j < n2
              · have hlt2' : (j : Int) < n2 := by omega
                obtain ⟨d', u0', hA2', hd', huk, hcu⟩ := (f2.later hlr2).at hlt2
                obtain rfl : d = d' := by simpa using hA2'
                obtain ⟨uu, huu⟩ : ∃ uu, F.tied[j]? = some uu := ⟨_, List.getElem?_eq_getElem (by have := HNT.out; omega)⟩
                obtain rfl : (uu : Int) = u0' := by simpa [ints, huu] using huk
                have HUM := Lib.hid (List.mem_of_getElem? huu)
                have hun := HF.out.tied uu HUM.out
                have hun' : (uu : Int) < C.length := by omega
                have hge1 : ¬ (C.length : Int) ≤ (tt : Int) := by omega
                have hge2 : ¬ (C.length : Int) ≤ (uu : Int) := by omega
                have kb := kb1.later hlr2
                have e0 := kb.cell 0
                obtain ⟨a, p, hAc, ha, hpk, hcp⟩ := (q1.later hlr2).at htn
                obtain ⟨a', q, hAc', ha', hqk, hcq⟩ := (q1.later hlr2).at hun
                subst hAc
                obtain rfl : a = a' := by simpa using hAc'
                obtain ⟨b, x, hA1, hb, hxk, hcx⟩ := (f1.later hlr2).at htn
                obtain ⟨b', y, hA1', hb', hyk, hcy⟩ := (f1.later hlr2).at hun
                subst hA1
                obtain rfl : b = b' := by simpa using hA1'
                have HP := Lib.hid (atI_of hpk)
                have HQ := Lib.hid (atI_of hqk)
                have HX := Lib.hid (atI_of hxk)
                have HY := Lib.hid (atI_of hyk)
                have hp01 := HCP.out p (List.mem_of_getElem? hpk)
                have hq01 := HCP.out q (List.mem_of_getElem? hqk)
                have hx01 : 0 ≤ x ∧ x ≤ 60 := by have := HAT.out tt; rw [HX.out] at this; exact this
                have hy01 : 0 ≤ y ∧ y ≤ 60 := by have := HAT.out uu; rw [HY.out] at this; exact this
                have hp1 : 1 ≤ p := by have := HR.out.pos tt HTM.out; rw [HP.out] at this; exact this
                have hq1 : 1 ≤ q := by have := HR.out.pos uu HUM.out; rw [HQ.out] at this; exact this
                have heq := HR.out.tied tt HTM.out uu HUM.out
                rw [HP.out, HQ.out, HX.out, HY.out] at heq
                have HA := fun w => dAbove_in m p x q y w m0 m1 hx01.1 (by omega) hy01.1 (by omega) hp1 (by omega) hq1 (by omega)
                rw [heq] at HA
                have E0 : ∀ w', LatS wr ([] : List Nat) w' → w'.cell? ⟨v1.heap.size, 0, none⟩ = some (.slice (some b) C.length c1) := fun w' h => h.at_cell (p := ⟨v1.heap.size, 0, none⟩) kb.lt e0
                have E1 : ∀ w', LatS wr ([] : List Nat) w' → w'.cell? (a.add tt) = some (.int .i64 p) := fun w' h => h.at_cell (by rw [block_add]; exact ha) hcp
                have E2 : ∀ w', LatS wr ([] : List Nat) w' → w'.cell? (a.add uu) = some (.int .i64 q) := fun w' h => h.at_cell (by rw [block_add]; exact ha) hcq
                have E3 : ∀ w', LatS wr ([] : List Nat) w' → w'.cell? (b.add tt) = some (.int .i64 x) := fun w' h => h.at_cell (by rw [block_add]; exact hb) hcx
                have E4 : ∀ w', LatS wr ([] : List Nat) w' → w'.cell? (b.add uu) = some (.int .i64 y) := fun w' h => h.at_cell (by rw [block_add]; exact hb) hcy
                clear hA2' hd' huk huu hAc' hA1' hpk hqk hxk hyk heq HP HQ HX HY hp01 hq01 hx01 hy01 hp1 hq1
                go_wp2
                have L0 := Lat.drew wr
                have M0 := L0.s ([] : List Nat)
                go_region_held3 (fun w' => LatS wr ([] : List Nat) w') (first | (with_reducible assumption) | ((repeat refine LatS.set ?_ (by simp) _); (with_reducible assumption)))
                  ((go_at_call 14; (with_reducible refine (HA _).mono ?_); rintro e w5 ⟨rfl, l5⟩; have L5 := L0.trans l5; have M5 := L5.s ([] : List Nat)))
                have L6 := hlr2.trans L5
                clear E0 E1 E2 E3 E4 HA M0 M5 L0 L5 e0 hcp hcq hcx hcy kb hcu
                go_wp2
                go_roundw
                case rel => exact ⟨j + 1, by omega, by go_num, L6⟩
                case measure => simp [intOf]; omega
              · go_wp2
                go_roundw
                case rel => exact ⟨k + 1, by omega, by go_num, hlr2⟩
                case measure => simp [intOf]; omega
          · go_wp2
            go_ret
            exact ⟨rfl, y2.trans hlr⟩
end Go.Proofs.YtebbhhdnjflmcaaGreat
