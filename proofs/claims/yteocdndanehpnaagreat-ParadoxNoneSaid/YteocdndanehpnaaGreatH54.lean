/- Several texts in one: PxN, PxO, PxNn. -/
import Derived.Test.YteocdndanehpnaaGreatH53
import Derived.Test.YteocdndanehpnaaGreatH47
import Derived.Test.YteocdndanehpnaaGreatH34
import Derived.Test.YteocdndanehpnaaGreatH30
import Derived.Deep.DeepCutAuto
namespace Go.Proofs.YteocdndanehpnaaGreat
theorem dec_div {P : List Int} {s k : Int} (hk : 11 ≤ k) (h : decE P s k = 0) : censusB P = true ∧ (1 ≤ s ∧ s ≤ 1000) ∧ decL P s k = (divA k P s).seats ∧ (divA k P s).left = 0 ∧ Dec k P s (decL P s k) := by
 obtain ⟨h1, h2, h3, A, hA, h4⟩ := decE_zero h
 have hL := decL_of h hA
 rw [decO, if_pos hk] at hA
 cases hA
 have hp := (census_iff.1 h1).2.2
 have ha : Adds (divA k P s) (List.replicate P.length 0) ((List.replicate P.length (0 : Int)).sum + s) (full P) := awardOf_adds (full_ne hp) (by simp) (by omega)
 have hl0 : (divA k P s).left = 0 := by have := ha.left; omega
 exact ⟨h1, h3, hL, hl0, by rw [hL]; exact dec_of hp (by omega) hl0⟩
theorem decE_div {P : List Int} {s k : Int} (hc : censusB P = true) (hk : famB k = true) (h11 : 11 ≤ k) (hs : 1 ≤ s ∧ s ≤ 1000) : decE P s k = 0 ∨ decE P s k = 8 := by
 unfold decE
 rw [if_neg (by simp [hc]), if_neg (by simp [hk]), if_neg (fun h => h hs), decO, if_pos h11]
 simp only
 split
 ·exact .inr rfl
 ·exact .inl rfl
theorem loss_none {P : List Int} {k s : Int} (hk : 11 ≤ k) (h0 : decE P (s - 1) k = 0) (h1 : decE P s k = 0) (n : Nat) : lossP (fun s => decL P s k) s n = [] := by
 obtain ⟨c1, c2, c3, c4, _⟩ := dec_div hk h0
 obtain ⟨d1, d2, d3, d4, _⟩ := dec_div hk h1
 unfold lossP
 rw [List.filter_eq_nil_iff.2 (fun i _ => ?_)]
 ·rfl
 ·simp only [decide_eq_true_eq]
  rw [c3, d3]
  have := dec_grow (m := k) (census_iff.1 c1).2.2 (show 0 ≤ s - 1 by omega) i
  rw [show s - 1 + 1 = s by omega] at this
  omega
theorem hos_none {P : List Int} {k a : Int} (hk : 11 ≤ k) (T : Nat) : hosF P k a T = [] := by
 unfold hosF
 induction T with
 | zero => rfl
 | succ T ih =>
   by_cases h : decE P (a + (T : Nat)) k = 0 ∧ decE P (a + (T : Nat) + 1) k = 0
   ·rw [lossG_more h, ih]
    have e : a + (T : Nat) = a + (T : Nat) + 1 - 1 := by omega
    rw [loss_none hk (by rw [← e]; exact h.1) h.2]
    rfl
   ·rw [lossG_no h, ih]
theorem filtP_nil {p : Nat → Bool} {q r : Nat → Int} {n : Nat} (h : ∀ i, i < n → p i = false) : filtP p q r n = [] := by
 unfold filtP
 rw [List.filter_eq_nil_iff.2 (fun i hi => by rw [h i (List.mem_range.1 hi)]; decide)]
 rfl
theorem ppl_none {P Q : List Int} {s k : Int} (hk : 11 ≤ k) : pplL P Q (decL P s k) (decL Q s k) (decE P s k) (decE Q s k) = [] := by
 unfold pplL
 split
 ·rename_i h
  unfold pplE at h
  split at h
  ·omega
  ·split at h
   ·omega
   ·split at h
    ·omega
    ·rename_i hcP hcQ hl
     split at h
     ·omega
     ·rename_i h1
      obtain ⟨c1, _, _, _, c5⟩ := dec_div hk (show decE P s k = 0 by omega)
      obtain ⟨d1, _, _, _, d5⟩ := dec_div hk h
      refine filtP_nil (fun i _ => ?_)
      have hQ : ∀ i, 0 ≤ atI Q i := fun i => by
       unfold atI
       cases hx : Q[i]? with
       | none => simp
       | some x => exact ((census_iff.1 d1).2.1 x (List.mem_of_getElem? hx)).1
      cases hb : lossB P Q (decL P s k) (decL Q s k) (i / P.length) (i % P.length) with
      | false => rfl
      | true =>
        exfalso
        simp only [lossB, Bool.and_eq_true, decide_eq_true_eq] at hb
        obtain ⟨⟨⟨_, b2⟩, b3⟩, b4, b5, b6⟩ := hb
        have := c5.people d5 hQ b2 b3 b4 b5
        omega
 ·rfl
theorem filtN_nil {p : Nat → Bool} {n : Nat} (h : ∀ i, i < n → p i = false) : filtN p n = [] := by
 unfold filtN
 rw [List.filter_eq_nil_iff.2 (fun i hi => by rw [h i (List.mem_range.1 hi)]; decide)]
 rfl
theorem arr_none {P : List Int} {s k x m : Int} (hk : 11 ≤ k) : arrL P (decL P s k) (decL (P ++ [x]) (s + m) k) s x m (decE P s k) (decE (P ++ [x]) (s + m) k) = [] := by
 unfold arrL
 split
 ·rename_i h
  unfold arrE at h
  split at h
  ·omega
  ·split at h
   ·omega
   ·split at h
    ·omega
    ·split at h
     ·omega
     ·rename_i h1 h2 h3 h4
      obtain ⟨c1, _, _, _, c5⟩ := dec_div hk (show decE P s k = 0 by omega)
      obtain ⟨d1, _, _, _, d5⟩ := dec_div hk (show decE (P ++ [x]) (s + m) k = 0 by omega)
      have ht := c5.arrival d5 (Classical.not_not.1 h4)
      refine filtN_nil (fun i hi => ?_)
      have e : atI (decL P s k) i = atI (decL (P ++ [x]) (s + m) k) i := by
       rw [ht]
       unfold atI
       rw [List.getElem?_take, if_pos hi]
      simp [e]
 ·rfl
end Go.Proofs.YteocdndanehpnaaGreat
namespace Go.Proofs.YteocdndanehpnaaGreat
open Go.RowKit
set_option linter.unusedSimpArgs false
set_option linter.unusedVariables false
structure GrNum (x b y q : Int) : Prop where
 w1 : wrap64 (x * b) = y
 w2 : IntKind.i64.wrap (x * b) = y
 w3 : y.tdiv 1024 = q
 w4 : wrap64 q = q
 w5 : IntKind.i64.wrap q = q
 w6 : wrap64 (x + q) = x + q
 w7 : IntKind.i64.wrap (x + q) = x + q
 w8 : IntKind.i64.wrap b = b
theorem gr_nums {x b : Int} (h0 : 0 ≤ x) (h1 : x ≤ 1000000000) (b0 : -128 ≤ b) (b1 : b ≤ 127) : ∃ y q, GrNum x b y q := by
 have m1 : x * b ≤ x * 127 := Int.mul_le_mul_of_nonneg_left b1 h0
 have m2 : x * (-128) ≤ x * b := Int.mul_le_mul_of_nonneg_left b0 h0
 obtain ⟨y, hy⟩ : ∃ y, x * b = y := ⟨_, rfl⟩
 rw [hy] at m1 m2
 obtain ⟨q, hq⟩ : ∃ q, y.tdiv 1024 = q := ⟨_, rfl⟩
 have hqb : -128000000000 ≤ q ∧ q ≤ 127000000000 := by
  rw [← hq]
  rcases Int.lt_or_le y 0 with h | h
  ·have e : y.tdiv 1024 = -((-y) / 1024) := by
    rw [show y = -(-y) by omega, Int.neg_tdiv, Int.tdiv_eq_ediv_of_nonneg (by omega)]
    omega
   rw [e]
   omega
  ·rw [Int.tdiv_eq_ediv_of_nonneg h]
   omega
 exact ⟨y, q, by rw [hy]; exact IntWalk.wrap64_in _ (by omega), by rw [hy]; exact IntWalk.i64_in _ (by omega), hq, IntWalk.wrap64_in _ (by omega), IntWalk.i64_in _ (by omega), IntWalk.wrap64_in _ (by omega), IntWalk.i64_in _ (by omega), IntWalk.i64_in _ (by omega)⟩
set_option maxRecDepth 100000 in
set_option maxHeartbeats 8000000 in
theorem grown_any (A : Option Addr) (n c : Nat) (C : List Int) (Ab : Option Addr) (nb cb : Nat) (bs : List Int) (w : World) (hC : Sl w .i64 A n C) (hn : 0 < n) (hn1 : n ≤ 1000) (hCr : ∀ x ∈ C, 0 ≤ x ∧ x ≤ 1000000000) (hB : Sl w .i8 Ab nb bs) (hBr : ∀ x ∈ bs, -128 ≤ x ∧ x ≤ 127) (hnb : nb ≤ 9223372036854775807) :
  Calls Tryz.prog 13 #[.slice A n c, .slice Ab nb cb] w (fun e w' => ∃ g c' Q, e = .returned (.slice (some ⟨g, 0, none⟩) n c') ∧ RowN w' g n Q ∧ w.heap.size ≤ g ∧ Lat w w') := by
 have hcl := cloneOwn_any A n c C w hC hn (by omega)
 have hl := hC.1
 subst hl
 have HB := Lib.hid hB
 have HBR := Lib.hid hBr
 have HCR := Lib.hid hCr
 clear hB hBr hCr hC
 go_enter Tryz.func13, Tryz.ntmps13
 go_wp2_with fail
 refine hcl.mono ?_
 rintro e w4 ⟨v4, rfl, ho, l4⟩
 obtain ⟨g4, c4, rfl, RS, hB4, hg4, hc4⟩ := Own.rowN ho hn
 have L4 := Lib.hid l4
 clear hcl ho l4 hg4
 go_wp2
 go_loopw [11] (fun i wr => ∃ (j : Nat) (Q : List Int), j ≤ C.length ∧ i = .int .i64 (j : Nat) ∧ Hid (RowN wr g4 C.length Q) ∧ Hid (LatP (· = g4) w4 wr) ∧ Hid (∀ i, j ≤ i → Q[i]? = C[i]?)) (fun i _ => C.length - (intOf i).toNat)
 case atStart => exact ⟨0, C, Nat.zero_le _, rfl, RS, LatP.refl _ _, fun _ _ => rfl⟩
 case round =>
  clear RS
  obtain ⟨j, Q, hj, rfl, RS, hlr, hsame⟩ := hrel
  by_cases hjn : j < C.length
  ·obtain ⟨x, hx⟩ : ∃ x, C[j]? = some x := ⟨_, List.getElem?_eq_getElem hjn⟩
   have hxQ : Q[j]? = some x := (hsame.out j (Nat.le_refl _)).trans hx
   have hjI : (j : Int) < (C.length : Int) := by omega
   have hj0 : (0 : Int) ≤ (j : Int) := by omega
   have hnext : ∀ z, Hid (∀ i, j + 1 ≤ i → (Q.set j z)[i]? = C[i]?) := fun z i hi => by
    rw [List.getElem?_set_ne (by omega)]
    exact hsame.out i (by omega)
   by_cases hjb : j < nb
   ·obtain ⟨b, hb⟩ : ∃ b, bs[j]? = some b := ⟨_, List.getElem?_eq_getElem (by have := HB.out.1; omega)⟩
    have LW : Lat w wr := LatP.lat (M := (· = g4)) L4.out hlr.out (fun q e => by subst e; exact hB4)
    obtain ⟨ab, eab, _, hcb⟩ := (HB.out.later LW).2 (by omega)
    subst eab
    have cb0 := hcb j b hb
    obtain ⟨gb, ob, sb⟩ := ab
    have hsb : sb = none := by
     cases sb with
     | none => rfl
     | some z =>
       have h9 := hcb 0 _ (List.getElem?_eq_getElem (show 0 < bs.length by have := HB.out.1; omega))
       unfold World.cell? at h9
       simp only [Addr.add, if_true] at h9
       split at h9
       ·simp at h9
       ·cases h9
    subst hsb
    have ea : (⟨gb, ob, none⟩ : Addr).add j = ⟨gb, ob + j, none⟩ := by unfold Addr.add; split <;> simp_all
    rw [ea] at cb0
    have hxr := HCR.out x (List.mem_of_getElem? hx)
    have hbr := HBR.out b (List.mem_of_getElem? hb)
    obtain ⟨y, q, NN⟩ := gr_nums hxr.1 hxr.2 hbr.1 hbr.2
    have s1 := RS.out.cell hxQ
    have s2 : wr.frozen? ⟨g4, j, none⟩ = false := by
     obtain ⟨_, _, _, h9⟩ := RS.out.slot (i := j) (by have := RS.out; obtain ⟨_, _, _, h8, _⟩ := this; omega)
     exact h9
    have hjbI : (j : Int) < (nb : Int) := by omega
    have RS2 := Lib.hid (RS.out.set (i := j) (by obtain ⟨_, _, _, h8, _⟩ := RS.out; omega) (max 0 (x + q)))
    have hl9 := Lib.hid (hlr.out.trans (Px.latP_set wr g4 j (.int .i64 (max 0 (x + q)))))
    have HNX := hnext (max 0 (x + q))
    have w1 := NN.w1
    have w2 := NN.w2
    have w3 := NN.w3
    have w4' := NN.w4
    have w5 := NN.w5
    have w6 := NN.w6
    have w7 := NN.w7
    have w8 := NN.w8
    clear hx hxQ hb hcb ea hxr hbr NN RS hlr hsame hnext LW
    go_upto_region 6 with (fail)
    go_region
    obtain ⟨W9, hW9⟩ : ∃ z, (wr.setCell ⟨g4, j, none⟩ (.int .i64 (max 0 (x + q)))).drew = z := ⟨_, rfl⟩
    have RS3 : Hid (RowN W9 g4 C.length (Q.set j (max 0 (x + q)))) := by rw [← hW9]; exact RS2.out.later (Lat.drew _)
    have hl3 : Hid (LatP (· = g4) w4 W9) := by rw [← hW9]; exact hl9.out.trans ((Lat.drew _).p _)
    rw [hW9]
    clear hW9 RS2 hl9
    go_wp2
    go_roundw
    case rel => exact ⟨j + 1, _, by omega, by go_num, RS3, hl3, HNX⟩
    case measure => simp [intOf]; omega
   ·have hjb2 : ¬ (j : Int) < (nb : Int) := by omega
    have hs2 : Hid (∀ i, j + 1 ≤ i → Q[i]? = C[i]?) := fun i hi => hsame.out i (by omega)
    clear hx hxQ hnext hsame
    go_wp2
    go_roundw
    case rel => exact ⟨j + 1, Q, by omega, by go_num, RS, hlr, hs2⟩
    case measure => simp [intOf]; omega
  ·obtain rfl : C.length = j := by omega
   have LW : Hid (Lat w wr) := LatP.lat (M := (· = g4)) L4.out hlr.out (fun q e => by subst e; exact hB4)
   clear hlr hsame
   go_wp2
   go_ret
   exact ⟨g4, c4, Q, rfl, RS.out, hB4, LW.out⟩
end Go.Proofs.YteocdndanehpnaaGreat
namespace Go.Proofs.YteocdndanehpnaaGreat
open Go.RowKit
set_option linter.unusedSimpArgs false
set_option linter.unusedVariables false
set_option maxRecDepth 100000
theorem cen_more {C : List Int} {x : Int} (h : censusB C = true) (hn : C.length ≤ 9) (hx0 : 0 ≤ x) (hx1 : x ≤ 1000000000) : censusB (C ++ [x]) = true := by
 obtain ⟨h1, h2, h3⟩ := census_iff.1 h
 refine census_iff.2 ⟨by rw [List.length_append]; simp; omega, fun y hy => ?_, by rw [List.sum_append]; simp; omega⟩
 rcases List.mem_append.1 hy with hy | hy
 ·exact h2 y hy
 ·rw [List.mem_singleton] at hy
  subst hy
  exact ⟨hx0, hx1⟩
theorem span_ok {C : List Int} {m t d : Int} (hc : censusB C = true) (hm : famB m = true) (t0 : 1 ≤ t) (hd : 0 ≤ d) (hd2 : d ≤ 100) (h : t + d ≤ 1000) : spanE C m t (t + d) = 0 := by
 unfold spanE
 rw [if_neg (by simp [hc]), if_pos ⟨hm, t0, h, by omega, by omega⟩]
theorem pplE_div {P Q : List Int} {s k : Int} (hP : censusB P = true) (hQ : censusB Q = true) (hl : P.length = Q.length) (hk : famB k = true) (h11 : 11 ≤ k) (hs : 1 ≤ s ∧ s ≤ 1000) : pplE P Q (decE P s k) (decE Q s k) = 0 ∨ pplE P Q (decE P s k) (decE Q s k) = 8 := by
 unfold pplE
 rw [if_neg (by simp [hP]), if_neg (by simp [hQ]), if_neg (by omega)]
 split
 ·exact decE_div hP hk h11 hs
 ·exact decE_div hQ hk h11 hs
theorem arrE_div {P : List Int} {s k x m : Int} (hP : censusB P = true) (hn : P.length ≤ 9) (hk : famB k = true) (h11 : 11 ≤ k) (hs : 1 ≤ s ∧ s ≤ 30) (hx : 1 ≤ x ∧ x ≤ 1000000000) (hm : 1 ≤ m ∧ m ≤ 4) :
  arrE P s x m (decE P s k) (decE (P ++ [x]) (s + m) k) (decL (P ++ [x]) (s + m) k) = 0 ∨ arrE P s x m (decE P s k) (decE (P ++ [x]) (s + m) k) (decL (P ++ [x]) (s + m) k) = 8 ∨ arrE P s x m (decE P s k) (decE (P ++ [x]) (s + m) k) (decL (P ++ [x]) (s + m) k) = 4 := by
 have a1 := decE_div hP hk h11 (show 1 ≤ s ∧ s ≤ 1000 by omega)
 have a2 := decE_div (cen_more hP hn (by omega) hx.2) hk h11 (show 1 ≤ s + m ∧ s + m ≤ 1000 by omega)
 unfold arrE
 split
 ·omega
 ·rw [if_neg (fun h => h ⟨hx.1, hx.2, hm.1, by omega, by omega⟩)]
  split
  ·omega
  ·split
   ·exact .inr (.inr rfl)
   ·exact .inl rfl
set_option maxHeartbeats 8000000 in
theorem pNone_any (Ap : Option Addr) (np cp : Nat) (ps : List Int) (u : Int) (Al : Option Addr) (nl cl : Nat) (ls : List Int) (s me nw mo : Int) (Ab : Option Addr) (nb cb : Nat) (bs : List Int) (w : World)
  (hp : Sl w .u16 Ap np ps) (hnp : np ≤ 9223372036854775807) (hrp : ∀ x ∈ ps, 0 ≤ x ∧ x ≤ 65535) (u0 : 0 ≤ u) (u1 : u ≤ 255) (hl : Sl w .u8 Al nl ls) (hnl : nl ≤ 9223372036854775807) (hrl : ∀ x ∈ ls, 0 ≤ x ∧ x ≤ 255) (s0 : 0 ≤ s) (s1 : s ≤ 65535) (me0 : 0 ≤ me) (me1 : me ≤ 255) (nw0 : 0 ≤ nw) (nw1 : nw ≤ 65535) (mo0 : 0 ≤ mo) (mo1 : mo ≤ 255) (hB : Sl w .i8 Ab nb bs) (hnb : nb ≤ 9223372036854775807) (hBr : ∀ x ∈ bs, -128 ≤ x ∧ x ≤ 127) :
  Calls Tryz.prog 3 #[.agg #[.slice Ap np cp, .int .u8 u, .slice Al nl cl, .int .u16 s], .slice Ab nb cb, .int .u8 me, .int .u16 nw, .int .u8 mo] w (YesP w) := by
 have HC := fun w (h : Sl w .u16 Ap np ps) => census_any Ap np cp ps u Al nl cl s w h hnp hrp u0 u1
 have HH := fun w => house_any Ap np cp u Al nl cl s w s0 s1
 have hok := draftC_ok u0 u1 hrp
 have hcs := draftC_census u0 u1 hrp
 have hhr := @houseN_range s
 obtain ⟨C, hC⟩ : ∃ C, draftC u ps = C := ⟨_, rfl⟩
 obtain ⟨h, hh⟩ : ∃ h, houseN s = h := ⟨_, rfl⟩
 rw [hC] at HC hok hcs
 rw [hh] at HH hhr
 have hc0 := hok.2.2.1
 have hc9 := hok.2.2.2
 have HCS := Lib.hid hcs
 have HCR := Lib.hid hok.1
 have hh0 := hhr.1
 have hh1 := hhr.2
 have HC' := Lib.hid HC
 have HH' := Lib.hid HH
 have HB := Lib.hid hB
 have HBR := Lib.hid hBr
 obtain ⟨kk, hkk⟩ : ∃ kk, me.tmod 5 = kk := ⟨_, rfl⟩
 have hk0 : 0 ≤ kk := by rw [← hkk, Int.tmod_eq_emod_of_nonneg me0]; omega
 have hk4 : kk ≤ 4 := by rw [← hkk, Int.tmod_eq_emod_of_nonneg me0]; omega
 have t2 : IntKind.i64.wrap kk = kk := IntWalk.i64_in _ (by omega)
 have t3 : IntKind.i64.wrap (11 + kk) = 11 + kk := IntWalk.i64_in _ (by omega)
 clear hrp hrl hC hh hok HC HH hcs hhr hl hnl hB hBr
 go_enter Tryz.func3, Tryz.ntmps3
 go_wp2_with fail
 refine name1 (Q := fun W => Calls _ _ _ W _) ?_
 intro W1 L1 hs1 k1
 refine (wakes10 W1).mono ?_
 rintro e W2 ⟨rfl, l1⟩
 have L2 := L1.trans l1
 have k2 := k1.later l1
 have hp2 := hp.later L2
 clear l1 k1
 have HX := fun w (h : Lat W2 w) => HC'.out w (hp2.later h)
 go_upto_region 3 with (fail)
 go_cut [11, 12, 13] from 26 to 34 (fun c t k wx => ∃ Ac cc, c = .slice Ac C.length cc ∧ t = .int .i64 (min h 30) ∧ k = .int .i64 (11 + kk) ∧ Sl wx .i64 Ac C.length C ∧ Lat W2 wx)
 case first =>
  have hnn : w.heap.size ∉ ([] : List Nat) := by simp
  have b0 := k2.evS hnn 0 rfl
  have b1 := k2.evS hnn 1 rfl
  have b2 := k2.evS hnn 2 rfl
  have b3 := k2.evS hnn 3 rfl
  have L0 := Lat.drew W2
  have M0 := L0.s ([] : List Nat)
  go_region_held3 (fun w' => LatS W2 ([] : List Nat) w') (first | (with_reducible assumption) | ((repeat refine LatS.set ?_ (by simp) _); (with_reducible assumption)))
   (first
     | (go_at_call 9; (with_reducible refine (HX _ ?_).mono ?_); (first | exact LM | exact L0); rintro e wc ⟨Ac, cc, rfl, q1, q2, q3, q4⟩; (first | have LC := LM.trans q3 | have LC := L0.trans q3); have MC := LC.s ([] : List Nat))
     | (go_at_call 10; (with_reducible refine (HH'.out _).mono ?_); rintro e wm ⟨rfl, r3⟩; (first | have LM := LC.trans r3 | have LM := L0.trans r3); have MM := LM.s ([] : List Nat)))
  all_goals
   go_wp2_with fail
   go_meet
   first
    | exact ⟨Ac, cc, rfl, rfl, rfl, q1.later r3, LM⟩
    | exact ⟨Ac, cc, rfl, rfl, rfl, q1, LC⟩
 case rest =>
  obtain ⟨Ac, cc, rfl, rfl, rfl, q1, l3⟩ := hcut
  have L3 := L2.trans l3
  obtain ⟨m, hmk⟩ : ∃ m, 11 + kk = m := ⟨_, rfl⟩
  have h11 : 11 ≤ m := by omega
  have h15 : m ≤ 15 := by omega
  rw [hmk]
  have hm : famB m = true := by simp [famB]; omega
  obtain ⟨t, ht⟩ : ∃ t, min h 30 = t := ⟨_, rfl⟩
  have t0 : 1 ≤ t := by omega
  have t1 : t ≤ 30 := by omega
  rw [ht]
  obtain ⟨V3, hV3⟩ : ∃ z, z = wc := ⟨_, rfl⟩
  rw [← hV3] at q1 L3 ⊢
  have HQ := Lib.hid q1
  have HL3 := Lib.hid L3
  have HM := Lib.hid hm
  have HT := Lib.hid (show 1 ≤ t ∧ t ≤ 1000 from ⟨t0, by omega⟩)
  clear hV3 ht hh0 hh1 HX HC' HH' hp2 k2 L2 l3 q1 L3 hm hp hmk hk0 hk4 t2 t3 hkk
  have hsp := span_ok HCS.out HM.out t0 (show (0 : Int) ≤ 10 by decide) (by decide) (by omega)
  have hhs : hosL C m t (t + 10) = [] := by rw [hosL, if_pos hsp]; exact hos_none h11 _
  have hft : fstL C m t (t + 10) = (0, 0, 4) := by rw [fstL, if_pos hsp, hos_none h11 _]; rfl
  have hh := fun w' (h : Lat V3 w') => pHouse_any Ac C.length cc C m t (t + 10) w' (HQ.out.later h) (by omega)
  have hf := fun w' (h : Lat V3 w') => pFirst_any Ac C.length cc C m t (t + 10) w' (HQ.out.later h) (by omega)
  rw [hhs, hsp] at hh
  rw [hft] at hf
  have HH := Lib.hid hh
  have HF := Lib.hid hf
  have e1 : wrap64 (t + 10) = t + 10 := IntWalk.wrap64_in _ (by omega)
  have e2 : IntKind.i64.wrap (t + 10) = t + 10 := IntWalk.i64_in _ (by omega)
  clear hh hf hsp hhs hft
  go_wp2_with fail
  refine (HH.out V3 (Lat.refl _)).mono ?_
  rintro e W4 ⟨v4, rfl, o4, l4⟩
  obtain ⟨A4, c4, rfl, _⟩ := o4.form
  rw [show (prs []).length = 0 from rfl]
  have LV4 := Lib.hid l4
  clear o4 HH l4
  go_wp2_with fail
  refine (HF.out W4 LV4.out).mono ?_
  rintro e W5 ⟨rfl, l5⟩
  have LV5 := Lib.hid (LV4.out.trans l5)
  clear HF l5 LV4 e1 e2
  have hg := grown_any Ac C.length cc C Ab nb cb bs W5 (HQ.out.later LV5.out) hc0 (by omega) (fun x hx => by have := HCR.out x hx; omega) (HB.out.later (HL3.out.trans LV5.out)) HBR.out hnb
  go_wp2_with fail
  refine hg.mono ?_
  rintro e W6 ⟨g6, c6, Q, rfl, RQ, _, l6⟩
  have LV6 := Lib.hid (LV5.out.trans l6)
  have hQl : Q.length = C.length := by obtain ⟨_, _, _, h9, _⟩ := RQ; exact h9
  have RQ := Lib.hid RQ
  clear hg l6 LV5
  obtain ⟨x, hx⟩ : ∃ x, 1 + nw = x := ⟨_, rfl⟩
  obtain ⟨z, hz⟩ : ∃ z, mo.tmod 4 = z := ⟨_, rfl⟩
  have hz0 : 0 ≤ z := by rw [← hz, Int.tmod_eq_emod_of_nonneg mo0]; omega
  have hz3 : z ≤ 3 := by rw [← hz, Int.tmod_eq_emod_of_nonneg mo0]; omega
  obtain ⟨y, hy⟩ : ∃ y, 1 + z = y := ⟨_, rfl⟩
  have hx1 : 1 ≤ x ∧ x ≤ 1000000000 := by omega
  have hy1 : 1 ≤ y ∧ y ≤ 4 := by omega
  have F1 : Hid (IntKind.i64.wrap nw = nw) := IntWalk.i64_in _ (by omega)
  have F2 : Hid (wrap64 (1 + nw) = x) := by rw [hx]; exact IntWalk.wrap64_in _ (by omega)
  have F3 : Hid (IntKind.i64.wrap (1 + nw) = x) := by rw [hx]; exact IntWalk.i64_in _ (by omega)
  have F4 : Hid (IntKind.i64.wrap z = z) := IntWalk.i64_in _ (by omega)
  have F5 : Hid (wrap64 (1 + z) = y) := by rw [hy]; exact IntWalk.wrap64_in _ (by omega)
  have F6 : Hid (IntKind.i64.wrap (1 + z) = y) := by rw [hy]; exact IntWalk.i64_in _ (by omega)
  have F7 : Hid (mo.tmod 4 = z) := hz
  have hA := fun w' (h : Lat V3 w') => arrivalV_any Ac C.length cc C t m x y w' (HQ.out.later h) (by omega)
  have hAE := arrE_div (x := x) (m := y) HCS.out hc9 HM.out h11 (show 1 ≤ t ∧ t ≤ 30 by omega) hx1 hy1
  rw [arr_none h11] at hA
  obtain ⟨er, her⟩ : ∃ er, arrE C t x y (decE C t m) (decE (C ++ [x]) (t + y) m) (decL (C ++ [x]) (t + y) m) = er := ⟨_, rfl⟩
  rw [her] at hA hAE
  have HA := Lib.hid hA
  have HAE := Lib.hid hAE
  clear hx hz hz0 hz3 hy hx1 hy1 hA hAE her
  have hck := qCheck_any (some ⟨g6, 0, none⟩) C.length c6 Q W6 RQ.out.sl (by omega)
  have TAIL : ∀ W9, Lat V3 W9 → Calls Tryz.prog 16 #[.slice Ac C.length cc, .int .i64 t, .int .i64 m, .int .i64 x, .int .i64 y] W9 (IntsPost W9 [] er) := HA.out
  have HTAIL := Lib.hid TAIL
  clear TAIL HA
  cases hcb : censusB Q with
  | false =>
    rw [cenE_no hcb] at hck
    clear hcb
    go_wp2_with fail
    refine hck.mono ?_
    rintro e w5 ⟨rfl, rfl⟩
    clear hck
    have f1 := F1.out
    have f2 := F2.out
    have f3 := F3.out
    have f4 := F4.out
    have f5 := F5.out
    have f6 := F6.out
    have f7 := F7.out
    go_wp2_with fail
    refine (HTAIL.out _ LV6.out).mono ?_
    rintro e W8 ⟨v8, rfl, o8, l8⟩
    obtain ⟨A8, c8, rfl, _⟩ := o8.form
    rw [show ([] : List Int).length = 0 from rfl]
    have L8 := Lib.hid (HL3.out.trans (LV6.out.trans l8))
    clear o8 HTAIL l8 f1 f2 f3 f4 f5 f6 f7
    rcases HAE.out with rfl | rfl | rfl
    all_goals
     go_wp2
     go_ret
     exact ⟨rfl, L8.out⟩
  | true =>
    rw [cenE_yes hcb] at hck
    have hp := peopleV_any Ac C.length cc C (some ⟨g6, 0, none⟩) C.length c6 Q t m W6 (HQ.out.later LV6.out) RQ.out.sl (by omega) (by omega)
    have hpe := pplE_div HCS.out hcb hQl.symm HM.out h11 HT.out
    rw [ppl_none h11] at hp
    obtain ⟨ep, hep⟩ : ∃ z, pplE C Q (decE C t m) (decE Q t m) = z := ⟨_, rfl⟩
    rw [hep] at hp hpe
    have HP := Lib.hid hp
    have HPE := Lib.hid hpe
    clear hcb hp hpe hep
    go_wp2_with fail
    refine hck.mono ?_
    rintro e w5 ⟨rfl, rfl⟩
    clear hck
    go_wp2_with fail
    refine HP.out.mono ?_
    rintro e W7 ⟨v7, rfl, o7, l7⟩
    obtain ⟨A7, c7, rfl, _⟩ := o7.form
    rw [show (prs []).length = 0 from rfl]
    have LV6 := Lib.hid (LV6.out.trans l7)
    clear o7 HP l7
    rcases HPE.out with rfl | rfl
    ·as_aux_lemma =>
     have f1 := F1.out
     have f2 := F2.out
     have f3 := F3.out
     have f4 := F4.out
     have f5 := F5.out
     have f6 := F6.out
     have f7 := F7.out
     go_wp2_with fail
     refine (HTAIL.out _ LV6.out).mono ?_
     rintro e W8 ⟨v8, rfl, o8, l8⟩
     obtain ⟨A8, c8, rfl, _⟩ := o8.form
     rw [show ([] : List Int).length = 0 from rfl]
     have L8 := Lib.hid (HL3.out.trans (LV6.out.trans l8))
     clear o8 HTAIL l8 f1 f2 f3 f4 f5 f6 f7
     rcases HAE.out with rfl | rfl | rfl
     all_goals
      go_wp2
      go_ret
      exact ⟨rfl, L8.out⟩
    ·as_aux_lemma =>
     have f1 := F1.out
     have f2 := F2.out
     have f3 := F3.out
     have f4 := F4.out
     have f5 := F5.out
     have f6 := F6.out
     have f7 := F7.out
     go_wp2_with fail
     refine (HTAIL.out _ LV6.out).mono ?_
     rintro e W8 ⟨v8, rfl, o8, l8⟩
     obtain ⟨A8, c8, rfl, _⟩ := o8.form
     rw [show ([] : List Int).length = 0 from rfl]
     have L8 := Lib.hid (HL3.out.trans (LV6.out.trans l8))
     clear o8 HTAIL l8 f1 f2 f3 f4 f5 f6 f7
     rcases HAE.out with rfl | rfl | rfl
     all_goals
      go_wp2
      go_ret
      exact ⟨rfl, L8.out⟩
end Go.Proofs.YteocdndanehpnaaGreat
