/- Several texts in one: PxI, PxWi. -/
import Derived.Test.YteocdndanehpnaaGreatH50
import Derived.Test.YteocdndanehpnaaGreatH53
import Derived.Test.YteocdndanehpnaaGreatH30
import Derived.Deep.DeepCutAuto
namespace Go.Proofs.YteocdndanehpnaaGreat
open Go.RowKit
set_option linter.unusedSimpArgs false
set_option linter.unusedVariables false
theorem prs_atP {xs : List (Int × Int)} {k : Nat} {a b : Int} (h : xs[k]? = some (a, b)) : (prs xs)[k]? = some [.int .i64 a, .int .i64 b] := by
 unfold prs
 rw [List.getElem?_map, h]
 rfl
set_option maxRecDepth 100000 in
set_option maxHeartbeats 4000000 in
theorem index22_any (A : Option Addr) (n c : Nat) (xs : List (Int × Int)) (x y : Int) (w : World) (h1 : RowM w A 2 n (prs xs)) (hn : n ≤ 1000000) :
  Calls Tryz.prog 50 #[.slice A n c, .agg #[.int .i64 x, .int .i64 y]] w (fun e w' => ∃ r : Int, e = .returned (.int .i64 r) ∧ ((r = -1 ∧ (x, y) ∉ xs) ∨ (0 ≤ r ∧ (x, y) ∈ xs)) ∧ Lat w w') := by
 have hxl : xs.length = n := by have := h1.1; unfold prs at this; rwa [List.length_map] at this
 go_enter Tryz.func50, Tryz.ntmps50
 go_upto_region 1 with (fail)
 refine name1 (Q := fun W => Code.wp _ _ _ _ W) ?_
 intro W1 l1 _ k3
 obtain ⟨g3, hg3⟩ : ∃ z, w.heap.size = z := ⟨_, rfl⟩
 rw [hg3] at k3 ⊢
 have HK := Lib.hid k3
 have H1 := Lib.hid (h1.later l1)
 have L1 := Lib.hid l1
 clear hg3 k3 h1 l1
 go_wp2
 go_loopw [8] (fun i wr => ∃ k : Nat, k ≤ n ∧ i = .int .i64 k ∧ Hid (∀ z ∈ xs.take k, z ≠ (x, y)) ∧ Hid (Lat W1 wr)) (fun i _ => n - (intOf i).toNat)
 case atStart => exact ⟨0, Nat.zero_le _, rfl, fun z hz => by simp at hz, Lat.refl _⟩
 case round =>
  obtain ⟨k, hk, rfl, hno, hlr⟩ := hrel
  by_cases hlt : k < n
  ·obtain ⟨⟨a, b⟩, hab⟩ : ∃ z, xs[k]? = some z := ⟨_, List.getElem?_eq_getElem (by omega)⟩
   obtain ⟨g, o, z, rfl, hg, hz, hl, hr⟩ := (H1.out.later hlr.out).at hlt
   rw [prs_atP hab] at hz
   cases hz
   have c0 : wr.cell? ⟨g, o + k * 2, none⟩ = some (.int .i64 a) := hr 0 _ rfl
   have c1 : wr.cell? ⟨g, o + k * 2 + 1, none⟩ = some (.int .i64 b) := hr 1 _ rfl
   have d0 := (HK.out.later hlr.out).cell 0
   have d1 := (HK.out.later hlr.out).cell 1
   have hkI : (k : Int) < (n : Int) := by omega
   have hk0 : (0 : Int) ≤ (k : Int) := by omega
   have HAB := Lib.hid hab
   have hmem : Hid (∀ z ∈ xs.take (k + 1), z ∈ xs.take k ∨ z = (a, b)) := by
    intro z hz
    obtain ⟨h9, e9⟩ := List.getElem?_eq_some_iff.1 hab
    rw [List.take_succ_eq_append_getElem h9, List.mem_append, List.mem_singleton, e9] at hz
    exact hz
   clear hab hl hr hg
   cases he : (x == a && y == b) with
   | true =>
     have HN : ∀ w, (Op.equalIn 10000 56 (.agg #[.int .i64 x, .int .i64 y]) (.agg #[.int .i64 a, .int .i64 b])).run Tryz.prog w = .ok true w := fun w => by rw [pr_eq, he]
     have hin : Hid ((x, y) ∈ xs) := by
      simp only [Bool.and_eq_true, beq_iff_eq] at he
      have := List.mem_of_getElem? HAB.out
      rw [← he.1, ← he.2] at this
      exact this
     clear he
     go_wp2
     go_region
     all_goals
      go_wp2
      go_ret
      exact ⟨_, rfl, .inr ⟨hk0, hin.out⟩, (L1.out.trans hlr.out).trans (Lat.drew _)⟩
   | false =>
     have HN : ∀ w, (Op.equalIn 10000 56 (.agg #[.int .i64 x, .int .i64 y]) (.agg #[.int .i64 a, .int .i64 b])).run Tryz.prog w = .ok false w := fun w => by rw [pr_eq, he]
     have hno2 : Hid (∀ z ∈ xs.take (k + 1), z ≠ (x, y)) := by
      intro z hz e9
      rcases hmem.out z hz with h9 | h9
      ·exact hno.out z h9 e9
      ·rw [h9] at e9
       simp only [Prod.mk.injEq] at e9
       rw [e9.1, e9.2] at he
       simp at he
     clear he
     go_wp2
     go_region
     all_goals
      go_wp2
      go_roundw
      case rel => exact ⟨k + 1, by omega, by go_num, hno2, hlr.out.trans (Lat.drew _)⟩
      case measure => simp [intOf]; omega
  ·obtain rfl : k = n := by omega
   have hout : Hid ((x, y) ∉ xs) := fun h9 => by
    have := hno.out (x, y)
    rw [List.take_of_length_le (by omega)] at this
    exact this h9 rfl
   go_wp2
   go_ret
   exact ⟨-1, rfl, .inl ⟨rfl, hout.out⟩, L1.out.trans hlr.out⟩
set_option maxRecDepth 100000 in
set_option maxHeartbeats 4000000 in
theorem contains22_any (A : Option Addr) (n c : Nat) (xs : List (Int × Int)) (x y : Int) (w : World) (h1 : RowM w A 2 n (prs xs)) (hn : n ≤ 1000000) :
  Calls Tryz.prog 23 #[.slice A n c, .agg #[.int .i64 x, .int .i64 y]] w (fun e w' => e = .returned (.bool (decide ((x, y) ∈ xs))) ∧ Lat w w') := by
 have HX := fun w' (h : Lat w w') => index22_any A n c xs x y w' (h1.later h) hn
 clear h1
 go_enter Tryz.func23, Tryz.ntmps23
 go_upto_region 1 with (fail)
 refine name1 (Q := fun W => Code.wp _ _ _ _ W) ?_
 intro W1 l1 _ k3
 have d0 := k3.cell 0
 have d1 := k3.cell 1
 have hx := HX W1 l1
 obtain ⟨g3, hg3⟩ : ∃ z, w.heap.size = z := ⟨_, rfl⟩
 rw [hg3] at k3 d0 d1 ⊢
 clear hg3 HX k3
 go_wp2_with fail
 refine hx.mono ?_
 rintro e W2 ⟨r, rfl, hr, l2⟩
 clear hx d0 d1
 rcases hr with ⟨rfl, hno⟩ | ⟨hr, hin⟩
 ·have HNo := Lib.hid hno
  clear hno
  go_wp2
  go_ret
  exact ⟨by rw [decide_eq_false HNo.out]; rfl, l1.trans l2⟩
 ·have HIn := Lib.hid hin
  have hrb : decide (0 ≤ r) = true := by simpa using hr
  clear hin
  go_wp2
  go_ret
  exact ⟨by rw [decide_eq_true HIn.out]; first | rfl | simp [hr], l1.trans l2⟩
end Go.Proofs.YteocdndanehpnaaGreat
namespace Go.Proofs.YteocdndanehpnaaGreat
open Go.RowKit
set_option linter.unusedSimpArgs false
set_option linter.unusedVariables false
set_option maxRecDepth 100000
theorem mem_lossP {Lx : Int → List Int} {s x y : Int} {i : Nat} : (x, y) ∈ lossP Lx s i ↔ x = s ∧ ∃ j : Nat, j < i ∧ y = j ∧ atI (Lx s) j < atI (Lx (s - 1)) j := by
 unfold lossP
 simp only [List.mem_map, List.mem_filter, List.mem_range, decide_eq_true_eq, Prod.mk.injEq]
 constructor
 ·rintro ⟨j, ⟨h1, h2⟩, rfl, rfl⟩
  exact ⟨rfl, j, h1, rfl, h2⟩
 ·rintro ⟨rfl, j, h1, rfl, h2⟩
  exact ⟨j, ⟨h1, h2⟩, rfl, rfl⟩
theorem mem_lossG {D : Int → Int} {Lx : Int → List Int} {n T : Nat} {a x y : Int} : (x, y) ∈ lossG D Lx n a T ↔ ∃ t : Nat, t < T ∧ D (a + (t : Nat)) = 0 ∧ D (a + (t : Nat) + 1) = 0 ∧ (x, y) ∈ lossP Lx (a + (t : Nat) + 1) n := by
 unfold lossG
 simp only [List.mem_flatMap, List.mem_range]
 constructor
 ·rintro ⟨t, h1, h2⟩
  split at h2
  ·rename_i h3
   exact ⟨t, h1, h3.1, h3.2, h2⟩
  ·cases h2
 ·rintro ⟨t, h1, h2, h3, h4⟩
  refine ⟨t, h1, ?_⟩
  rw [if_pos ⟨h2, h3⟩]
  exact h4
theorem mem_hos {P : List Int} {k a : Int} {T j i : Nat} (hj : j < T) (hi : i < P.length) : (a + (j : Int) + 1, (i : Int)) ∈ hosF P k a T ↔ decE P (a + (j : Int)) k = 0 ∧ decE P (a + (j : Int) + 1) k = 0 ∧ atI (decL P (a + (j : Int) + 1) k) i < atI (decL P (a + (j : Int)) k) i := by
 unfold hosF
 rw [mem_lossG]
 constructor
 ·rintro ⟨t, h1, h2, h3, h4⟩
  rw [mem_lossP] at h4
  obtain ⟨h5, q, h6, h7, h8⟩ := h4
  obtain rfl : j = t := by omega
  obtain rfl : i = q := by omega
  rw [show a + (j : Int) + 1 - 1 = a + (j : Int) by omega] at h8
  exact ⟨h2, h3, h8⟩
 ·rintro ⟨h1, h2, h3⟩
  refine ⟨j, hj, h1, h2, mem_lossP.2 ⟨rfl, i, hi, rfl, ?_⟩⟩
  rw [show a + (j : Int) + 1 - 1 = a + (j : Int) by omega]
  exact h3
theorem span_six {C : List Int} {m t : Int} (hc : censusB C = true) (hm : famB m = true) (t0 : 1 ≤ t) (h : t ≤ 900) : spanE C m t (t + 6) = 0 := by
 unfold spanE
 rw [if_neg (by simp [hc]), if_pos ⟨hm, t0, by omega, by omega, by omega⟩]
set_option maxHeartbeats 8000000 in
theorem pWitness_any (Ap : Option Addr) (np cp : Nat) (ps : List Int) (u : Int) (Al : Option Addr) (nl cl : Nat) (ls : List Int) (s me : Int) (w : World)
  (hp : Sl w .u16 Ap np ps) (hnp : np ≤ 9223372036854775807) (hrp : ∀ x ∈ ps, 0 ≤ x ∧ x ≤ 65535) (u0 : 0 ≤ u) (u1 : u ≤ 255) (hl : Sl w .u8 Al nl ls) (hnl : nl ≤ 9223372036854775807) (hrl : ∀ x ∈ ls, 0 ≤ x ∧ x ≤ 255) (s0 : 0 ≤ s) (s1 : s ≤ 65535) (me0 : 0 ≤ me) (me1 : me ≤ 255) :
  Calls Tryz.prog 6 #[.agg #[.slice Ap np cp, .int .u8 u, .slice Al nl cl, .int .u16 s], .int .u8 me] w (YesP w) := by
 have HC := fun w (h : Sl w .u16 Ap np ps) => census_any Ap np cp ps u Al nl cl s w h hnp hrp u0 u1
 have HH := fun w => house_any Ap np cp u Al nl cl s w s0 s1
 have hok := draftC_ok u0 u1 hrp
 have hcs := draftC_census u0 u1 hrp
 have hhr := @houseN_range s
 obtain ⟨C, hC⟩ : ∃ C, draftC u ps = C := ⟨_, rfl⟩
 obtain ⟨h, hh⟩ : ∃ h, houseN s = h := ⟨_, rfl⟩
 rw [hC] at HC hok hcs
 rw [hh] at HH hhr
 have hc0 := hok.2.2.1
 have hc9 := hok.2.2.2
 have HCS := Lib.hid hcs
 have HCR := Lib.hid hok.1
 have hh0 := hhr.1
 have hh1 := hhr.2
 have HC' := Lib.hid HC
 have HH' := Lib.hid HH
 clear hrp hrl hC hh hok HC HH hcs hhr hl hnl
 go_enter Tryz.func6, Tryz.ntmps6
 go_wp2_with fail
 refine name1 (Q := fun W => Calls _ _ _ W _) ?_
 intro W1 L1 hs1 k1
 refine (wakes10 W1).mono ?_
 rintro e W2 ⟨rfl, l1⟩
 have L2 := L1.trans l1
 have k2 := k1.later l1
 have hp2 := hp.later L2
 clear l1 k1
 have HX := fun w (h : Lat W2 w) => HC'.out w (hp2.later h)
 go_upto_region 3 with (fail)
 go_cut [5, 6, 7] from 22 to 30 (fun c t k wx => ∃ Ac cc m, c = .slice Ac C.length cc ∧ t = .int .i64 (min h 30) ∧ k = .int .i64 m ∧ Sl wx .i64 Ac C.length C ∧ famB m = true ∧ Lat W2 wx)
 case first =>
  have hnn : w.heap.size ∉ ([] : List Nat) := by simp
  have b0 := k2.evS hnn 0 rfl
  have b1 := k2.evS hnn 1 rfl
  have b2 := k2.evS hnn 2 rfl
  have b3 := k2.evS hnn 3 rfl
  have L0 := Lat.drew W2
  have M0 := L0.s ([] : List Nat)
  obtain ⟨kk, hkk⟩ : ∃ kk, me.tmod 9 = kk := ⟨_, rfl⟩
  obtain ⟨mm, hmm, hix⟩ := idx9 (k := kk) (by rw [← hkk, Int.tmod_eq_emod_of_nonneg me0]; omega) (by rw [← hkk, Int.tmod_eq_emod_of_nonneg me0]; omega)
  go_region_held3 (fun w' => LatS W2 ([] : List Nat) w') (first | (with_reducible assumption) | ((repeat refine LatS.set ?_ (by simp) _); (with_reducible assumption)))
   (first
     | (go_at_call 9; (with_reducible refine (HX _ ?_).mono ?_); (first | exact LM | exact LN | exact L0); rintro e wc ⟨Ac, cc, rfl, q1, q2, q3, q4⟩; (first | have LC := LM.trans q3 | have LC := LN.trans q3 | have LC := L0.trans q3); have MC := LC.s ([] : List Nat))
     | (go_at_call 17; (with_reducible refine (methods10_any _).mono ?_); rintro e wn ⟨rfl, s3⟩; (first | have LN := LM.trans s3 | have LN := LC.trans s3 | have LN := L0.trans s3); have MN := LN.s ([] : List Nat))
     | (go_at_call 10; (with_reducible refine (HH'.out _).mono ?_); rintro e wm ⟨rfl, r3⟩; (first | have LM := LN.trans r3 | have LM := LC.trans r3 | have LM := L0.trans r3); have MM := LM.s ([] : List Nat)))
  all_goals
   go_wp2_with fail
   go_meet
   first
    | exact ⟨Ac, cc, _, rfl, rfl, rfl, (q1.later s3).later r3, hmm, LM⟩
    | exact ⟨Ac, cc, _, rfl, rfl, rfl, (q1.later r3).later s3, hmm, LN⟩
    | exact ⟨Ac, cc, _, rfl, rfl, rfl, q1.later r3, hmm, LM⟩
    | exact ⟨Ac, cc, _, rfl, rfl, rfl, q1, hmm, LC⟩
    | exact ⟨Ac, cc, _, rfl, rfl, rfl, q1.later s3, hmm, LN⟩
 case rest =>
  obtain ⟨Ac, cc, m, rfl, rfl, rfl, q1, hm, l3⟩ := hcut
  have L3 := L2.trans l3
  obtain ⟨t, ht⟩ : ∃ t, min h 30 = t := ⟨_, rfl⟩
  have t0 : 1 ≤ t := by omega
  have t1 : t ≤ 30 := by omega
  rw [ht]
  obtain ⟨V3, hV3⟩ : ∃ z, z = wc := ⟨_, rfl⟩
  rw [← hV3] at q1 L3 ⊢
  have HQ := Lib.hid q1
  have HL3 := Lib.hid L3
  have HM := Lib.hid hm
  have HT := Lib.hid (show 1 ≤ t ∧ t ≤ 1000 from ⟨t0, by omega⟩)
  clear hV3 ht hh0 hh1 HX HC' HH' hp2 k2 L2 l3 q1 L3 hm hp
  have hsp := span_six HCS.out HM.out t0 (by omega)
  have hhs : hosL C m t (t + 6) = hosF C m t 6 := by rw [hosL, if_pos hsp, show (t + 6 - t).toNat = 6 by omega]
  have hft : fstL C m t (t + 6) = firstV (hosF C m t 6) := by rw [fstL, if_pos hsp, show (t + 6 - t).toNat = 6 by omega]
  have hh := pHouse_any Ac C.length cc C m t (t + 6) V3 HQ.out (by omega)
  have hf := fun w' (h : Lat V3 w') => pFirst_any Ac C.length cc C m t (t + 6) w' (HQ.out.later h) (by omega)
  have hmem := fun (j : Nat) (hj : j < 6) (i : Nat) (hi : i < C.length) => mem_hos (P := C) (k := m) (a := t) hj hi
  have hlen : (hosF C m t 6).length ≤ 6 * C.length := lossG_len 6
  rw [hhs, hsp] at hh
  rw [hft] at hf
  obtain ⟨L, hL⟩ : ∃ L, hosF C m t 6 = L := ⟨_, rfl⟩
  rw [hL] at hh hf hlen hmem
  have HF := Lib.hid hf
  have HMEM := Lib.hid hmem
  have e1 : wrap64 (t + 6) = t + 6 := IntWalk.wrap64_in _ (by omega)
  have e2 : IntKind.i64.wrap (t + 6) = t + 6 := IntWalk.i64_in _ (by omega)
  have e3 : wrap64 (t + 1) = t + 1 := IntWalk.wrap64_in _ (by omega)
  have e4 : IntKind.i64.wrap (t + 1) = t + 1 := IntWalk.i64_in _ (by omega)
  clear hf hsp hhs hft hL hmem
  go_wp2_with fail
  refine hh.mono ?_
  rintro e W4 ⟨v4, rfl, o4, l4⟩
  obtain ⟨A4, c4, rfl, R4, _⟩ := o4.form
  have hlp : (prs L).length = L.length := by unfold prs; rw [List.length_map]
  rw [hlp] at R4 ⊢
  obtain ⟨N5, hN5⟩ : ∃ N, L.length = N := ⟨_, rfl⟩
  rw [hN5] at R4 hlen ⊢
  have hn5 : N5 ≤ 100 := by omega
  have hR4 := Lib.hid R4
  have HN5 := Lib.hid hN5
  have LV4 := Lib.hid l4
  clear o4 hh l4 hlp R4 hN5 hlen
  go_wp2
  go_loopw [10] (fun nn wr => ∃ j : Nat, j ≤ 6 ∧ nn = .int .i64 (t + (j : Int) + 1) ∧ Hid (Lat W4 wr)) (fun nn _ => (t + 7 - intOf nn).toNat)
  case atStart => exact ⟨0, Nat.zero_le _, by simp, Lat.refl _⟩
  case round =>
   obtain ⟨j, hj, rfl, lr⟩ := hrel
   by_cases hj6 : j < 6
   ·have hHM := HMEM.out j hj6
    clear HMEM HF
    obtain ⟨s0, hs0⟩ : ∃ s0, t + (j : Int) = s0 := ⟨_, rfl⟩
    have hz1 : s0 + 1 ≤ t + 6 := by omega
    have hs1 : 1 ≤ s0 := by omega
    have hs2 : s0 ≤ 100 := by omega
    have hnx : Hid (t + ((j + 1 : Nat) : Int) + 1 = s0 + 1 + 1) := by show _ = _; omega
    have hms : Hid (t + 7 - (s0 + 1) > 0) := by show _ > _; omega
    rw [hs0] at hHM ⊢
    have hd0 := decided_any Ac C.length cc C s0 m wr (HQ.out.later (LV4.out.trans lr.out)) (by omega)
    have hd1 := fun w' (h : Lat wr w') => decided_any Ac C.length cc C (s0 + 1) m w' (HQ.out.later ((LV4.out.trans lr.out).trans h)) (by omega)
    have hl0 : Hid (decE C s0 m = 0 → (decL C s0 m).length = C.length) := decL_len
    have hl1 : Hid (decE C (s0 + 1) m = 0 → (decL C (s0 + 1) m).length = C.length) := decL_len
    have e5 : wrap64 (s0 + 1 - 1) = s0 := by rw [show s0 + 1 - 1 = s0 by omega]; exact IntWalk.wrap64_in _ (by omega)
    have e6 : IntKind.i64.wrap (s0 + 1 - 1) = s0 := by rw [show s0 + 1 - 1 = s0 by omega]; exact IntWalk.i64_in _ (by omega)
    have e7 : wrap64 (s0 + 1 + 1) = s0 + 1 + 1 := IntWalk.wrap64_in _ (by omega)
    have e8 : IntKind.i64.wrap (s0 + 1 + 1) = s0 + 1 + 1 := IntWalk.i64_in _ (by omega)
    obtain ⟨f0, hf0⟩ : ∃ z, decE C s0 m = z := ⟨_, rfl⟩
    obtain ⟨f1, hf1⟩ : ∃ z, decE C (s0 + 1) m = z := ⟨_, rfl⟩
    obtain ⟨X0, hX0⟩ : ∃ z, decL C s0 m = z := ⟨_, rfl⟩
    obtain ⟨X1, hX1⟩ : ∃ z, decL C (s0 + 1) m = z := ⟨_, rfl⟩
    rw [hf0, hX0] at hd0 hl0
    rw [hf1, hX1] at hd1 hl1
    rw [hf0, hf1, hX0, hX1] at hHM
    have HHM := Lib.hid hHM
    have HJ6 := Lib.hid hj6
    have HD1 := Lib.hid hd1
    clear hf0 hf1 hX0 hX1 hHM hd1 hs0 hj6 hj
    go_wp2_with fail
    refine hd0.mono ?_
    rintro e w2 ⟨A0, n0, c0, rfl, q0, _, l2⟩
    have hd1 := HD1.out w2 l2
    have lr2 := Lib.hid (lr.out.trans l2)
    have q0 := Lib.hid q0
    clear hd0 HD1 l2 lr
    go_wp2_with fail
    refine hd1.mono ?_
    rintro e w3 ⟨A1, n1, c1, rfl, q1, _, l3⟩
    have lr3 := Lib.hid (lr2.out.trans l3)
    have q03 := Lib.hid (q0.out.later l3)
    have q1 := Lib.hid q1
    clear hd1 l3 lr2 q0
    go_wp2
    go_loopw [67] (fun it wx => ∃ i : Nat, i ≤ C.length ∧ it = .int .i64 (i : Nat) ∧ Hid (Lat w3 wx)) (fun it _ => C.length - (intOf it).toNat)
    case atStart => exact ⟨0, Nat.zero_le _, rfl, Lat.refl _⟩
    case round =>
     obtain ⟨i, hi, rfl, lx⟩ := hrel
     by_cases hin : i < C.length
     ·have hHI := HHM.out i hin
      clear HHM
      have hiI : (i : Int) < (C.length : Int) := by omega
      have hi0 : (0 : Int) ≤ (i : Int) := by omega
      have hRx := Lib.hid (hR4.out.later (lr3.out.trans lx.out))
      have hct := fun w' (h : Lat wr w') => contains22_any A4 N5 c4 L (s0 + 1) i w' (hRx.out.later h) (by omega)
      by_cases h0 : f0 = 0
      ·subst h0
       by_cases h1 : f1 = 0
       ·subst h1
        have en0 : n0 = C.length := by rw [← q03.out.1]; exact hl0.out rfl
        have en1 : n1 = C.length := by rw [← q1.out.1]; exact hl1.out rfl
        subst en0
        obtain ⟨v1, hv1⟩ : ∃ x, X1[i]? = some x := ⟨_, List.getElem?_eq_getElem (by have := q1.out.1; omega)⟩
        obtain ⟨v0, hv0⟩ : ∃ x, X0[i]? = some x := ⟨_, List.getElem?_eq_getElem (by have := q03.out.1; omega)⟩
        obtain ⟨x0, y0, rfl, _⟩ := q03.out.plain (by omega)
        obtain ⟨x1, y1, rfl, _⟩ := q1.out.plain (by omega)
        have d1 := sl_at (q1.out.later lx.out) hv1
        have d0 := sl_at (q03.out.later lx.out) hv0
        rw [atI_of hv1, atI_of hv0] at hHI
        subst en1
        clear hv1 hv0
        by_cases hxx : v1 < v0
        ·have hdec : decide ((s0 + 1, (i : Int)) ∈ L) = true := decide_eq_true (hHI.2 ⟨rfl, rfl, hxx⟩)
         rw [hdec] at hct
         have HCT := Lib.hid hct
         clear hct hdec hHI
         go_wp2
         go_region
         all_goals
          go_wp2_with fail
          refine (HCT.out _ (by first | exact Lat.refl _ | exact Lat.drew _)).mono ?_
          rintro e w6 ⟨rfl, l6⟩
          have LX6 : Hid (Lat w3 w6) := (by first | exact lx.out.trans ((Lat.drew _).trans l6) | exact lx.out.trans l6)
          clear l6 HCT
          go_wp2
          go_roundw
          case rel =>
           have HRel : ∃ i' : Nat, i' ≤ C.length ∧ Value.int .i64 ((i : Int) + 1) = .int .i64 (i' : Nat) ∧ Hid (Lat w3 w6) := ⟨i + 1, by omega, by go_num, LX6⟩
           first | exact HRel | exact ⟨_, HRel, rfl⟩
          case measure => simp [intOf]; omega
        ·have hdec : decide ((s0 + 1, (i : Int)) ∈ L) = false := decide_eq_false (fun h => hxx (hHI.1 h).2.2)
         have hxb : decide (v1 < v0) = false := by simp [hxx]
         rw [hdec] at hct
         have HCT := Lib.hid hct
         clear hct hdec hHI
         go_wp2
         go_region
         all_goals
          go_wp2_with fail
          refine (HCT.out _ (by first | exact Lat.refl _ | exact Lat.drew _)).mono ?_
          rintro e w6 ⟨rfl, l6⟩
          have LX6 : Hid (Lat w3 w6) := (by first | exact lx.out.trans ((Lat.drew _).trans l6) | exact lx.out.trans l6)
          clear l6 HCT
          go_wp2
          go_roundw
          case rel =>
           have HRel : ∃ i' : Nat, i' ≤ C.length ∧ Value.int .i64 ((i : Int) + 1) = .int .i64 (i' : Nat) ∧ Hid (Lat w3 w6) := ⟨i + 1, by omega, by go_num, LX6⟩
           first | exact HRel | exact ⟨_, HRel, rfl⟩
          case measure => simp [intOf]; omega
       ·have hdec : decide ((s0 + 1, (i : Int)) ∈ L) = false := decide_eq_false (fun h => h1 (hHI.1 h).2.1)
        have h1b : (f1 == 0) = false := by simpa using h1
        rw [hdec] at hct
        have HCT := Lib.hid hct
        clear hct hdec hHI
        go_wp2
        go_region
        all_goals
         go_wp2_with fail
         refine (HCT.out _ (by first | exact Lat.refl _ | exact Lat.drew _)).mono ?_
         rintro e w6 ⟨rfl, l6⟩
         have LX6 : Hid (Lat w3 w6) := (by first | exact lx.out.trans ((Lat.drew _).trans l6) | exact lx.out.trans l6)
         clear l6 HCT
         go_wp2
         go_roundw
         case rel =>
          have HRel : ∃ i' : Nat, i' ≤ C.length ∧ Value.int .i64 ((i : Int) + 1) = .int .i64 (i' : Nat) ∧ Hid (Lat w3 w6) := ⟨i + 1, by omega, by go_num, LX6⟩
          first | exact HRel | exact ⟨_, HRel, rfl⟩
         case measure => simp [intOf]; omega
      ·have hdec : decide ((s0 + 1, (i : Int)) ∈ L) = false := decide_eq_false (fun h => h0 (hHI.1 h).1)
       have h0b : (f0 == 0) = false := by simpa using h0
       rw [hdec] at hct
       have HCT := Lib.hid hct
       clear hct hdec hHI
       go_wp2
       go_region
       all_goals
        go_wp2_with fail
        refine (HCT.out _ (by first | exact Lat.refl _ | exact Lat.drew _)).mono ?_
        rintro e w6 ⟨rfl, l6⟩
        have LX6 : Hid (Lat w3 w6) := (by first | exact lx.out.trans ((Lat.drew _).trans l6) | exact lx.out.trans l6)
        clear l6 HCT
        go_wp2
        go_roundw
        case rel =>
         have HRel : ∃ i' : Nat, i' ≤ C.length ∧ Value.int .i64 ((i : Int) + 1) = .int .i64 (i' : Nat) ∧ Hid (Lat w3 w6) := ⟨i + 1, by omega, by go_num, LX6⟩
         first | exact HRel | exact ⟨_, HRel, rfl⟩
        case measure => simp [intOf]; omega
     ·obtain rfl : i = C.length := by omega
      go_wp2
      go_roundw
      case rel => exact ⟨j + 1, HJ6.out, by rw [hnx.out], lr3.out.trans lx.out⟩
      case measure => have := hms.out; simp [intOf]; omega
   ·obtain rfl : j = 6 := by omega
    obtain ⟨s0, hs0⟩ : ∃ s0, t + ((6 : Nat) : Int) = s0 := ⟨_, rfl⟩
    rw [hs0]
    have hz1 : ¬ s0 + 1 ≤ t + 6 := by omega
    have hR6 := hR4.out.later lr.out
    have hf := HF.out wr (LV4.out.trans lr.out)
    have L6 := Lib.hid ((HL3.out.trans LV4.out).trans lr.out)
    clear hs0 HMEM HF hj hj6 e3 e4
    cases L with
    | nil =>
      obtain rfl : 0 = N5 := HN5.out
      have hf2 : Calls Tryz.prog 12 #[.slice Ac C.length cc, .int .i64 m, .int .i64 t, .int .i64 (t + 6)] wr (fun e w' => e = .returned (.tuple #[.int .i64 0, .int .i64 0, .int .i64 4]) ∧ Lat wr w') := hf
      clear hf hR6 HN5
      go_wp2_with fail
      refine hf2.mono ?_
      rintro e w7 ⟨rfl, l7⟩
      have L7 := Lib.hid (L6.out.trans l7)
      clear hf2 l7
      go_wp2
      go_ret
      exact ⟨rfl, L7.out⟩
    | cons p Ls =>
      obtain ⟨x, y⟩ := p
      have hf2 : Calls Tryz.prog 12 #[.slice Ac C.length cc, .int .i64 m, .int .i64 t, .int .i64 (t + 6)] wr (fun e w' => e = .returned (.tuple #[.int .i64 x, .int .i64 y, .int .i64 0]) ∧ Lat wr w') := hf
      have hpos : 0 < N5 := by rw [← HN5.out]; simp
      have hNb : ((N5 : Int) == 0) = false := by simp; omega
      have hNi : (0 : Int) < (N5 : Int) := by omega
      have HR6 := Lib.hid hR6
      clear hf hR6 HN5
      go_wp2_with fail
      refine hf2.mono ?_
      rintro e w7 ⟨rfl, l7⟩
      have L7 := Lib.hid (L6.out.trans l7)
      obtain ⟨g, o, z, rfl, hg, hz, hl, hr⟩ := (HR6.out.later l7).at hpos
      obtain rfl : [.int .i64 x, .int .i64 y] = z := by simpa [prs] using hz
      have c0 : w7.cell? ⟨g, o, none⟩ = some (.int .i64 x) := by simpa using hr 0 _ rfl
      have c1 : w7.cell? ⟨g, o + 1, none⟩ = some (.int .i64 y) := by simpa using hr 1 _ rfl
      have HN : ∀ w, (Op.equalIn 10000 56 (.agg #[.int .i64 x, .int .i64 y]) (.agg #[.int .i64 x, .int .i64 y])).run Tryz.prog w = .ok true w := fun w => by rw [pr_eq]; simp
      clear hf2 l7 hr hl hz hg HR6
      go_wp2
      go_ret
      exact ⟨rfl, L7.out⟩
end Go.Proofs.YteocdndanehpnaaGreat
