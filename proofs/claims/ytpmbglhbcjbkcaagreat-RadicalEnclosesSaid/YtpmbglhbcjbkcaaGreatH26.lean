/- Several texts in one: RdK, RdE, RdG, RdV. -/
import Derived.Deep.DeepCutAuto
import Derived.Test.YtpmbglhbcjbkcaaGreatH25
import Derived.Test.YtpmbglhbcjbkcaaGreatH15
import Derived.Test.YtpmbglhbcjbkcaaGreatH23
namespace Go.Proofs.YtpmbglhbcjbkcaaGreat
set_option maxHeartbeats 16000000
set_option maxRecDepth 100000
open Go.RowKit
set_option linter.unusedSimpArgs false
set_option linter.unusedVariables false
theorem zcu (z : Int) (w : World) : Calls Tryz.prog 59 #[.int .i64 z] w (fun e w' => e = .returned (.bool (decide (zbo z))) ∧ w' = w) := by
 by_cases h1 : -1000000000000000 ≤ z
 ·by_cases h2 : z ≤ 1000000000000000
  ·rw [decide_eq_true (show zbo z from ⟨h1, h2⟩)]
   go_enter Tryz.func59, Tryz.ntmps59
   go_wp2
   go_ret
   exact ⟨rfl, rfl⟩
  ·rw [decide_eq_false (show ¬ zbo z from fun h => h2 h.2)]
   go_enter Tryz.func59, Tryz.ntmps59
   go_wp2
   go_ret
   exact ⟨rfl, rfl⟩
 ·rw [decide_eq_false (show ¬ zbo z from fun h => h1 h.1)]
  go_enter Tryz.func59, Tryz.ntmps59
  go_wp2
  go_ret
  exact ⟨rfl, rfl⟩
def zji (x : Int × Int) : List Value := [.int .i64 x.1, .int .i64 x.2]
def zab (l : List (Int × Int)) : List (List Value) := l.map zji
theorem zam (l : List (Int × Int)) : (zab l).length = l.length := by simp [zab]
theorem zl1 {l : List (Int × Int)} {k : Nat} {x : Int × Int} (h : l[k]? = some x) : (zab l)[k]? = some (zji x) := by simp [zab, h]
theorem zaL {w : World} {A : Option Addr} {n k : Nat} {l : List (Int × Int)} (h : RowM w A 2 n (zab l)) (hk : k < n) : ∃ g o x, A = some ⟨g, o, none⟩ ∧ g < w.heap.size ∧ l[k]? = some x ∧ w.cell? ⟨g, o + k * 2, none⟩ = some (.int .i64 x.1) ∧ w.cell? ⟨g, o + k * 2 + 1, none⟩ = some (.int .i64 x.2) := by
 obtain ⟨g, o, y, hA, hg, hy, _, hc⟩ := h.at hk
 have hl : k < l.length := by have := h.1; rw [zam] at this; omega
 rw [zl1 (List.getElem?_eq_getElem hl)] at hy
 cases hy
 exact ⟨g, o, l[k], hA, hg, List.getElem?_eq_getElem hl, hc 0 _ rfl, hc 1 _ rfl⟩
def zbS (l : List (Int × Int)) : Nat → Int
 | 0 => 0
 | k + 1 => ((l[k]?).map (·.2)).getD 0
def okAt (last : Int) (x : Int × Int) : Prop := last < x.2 ∧ x.2 ≤ 10000000000000 ∧ x.1 ≠ 0 ∧ zbo x.1 ∧ zbR x.2.toNat ≤ 1
theorem zbZ {l : List (Int × Int)} {k : Nat} {x : Int × Int} (h : l[k]? = some x) : zbS l (k + 1) = x.2 := by simp [zbS, h]
theorem ValidR.okAt {l : List (Int × Int)} (h : ValidR l) {k : Nat} {x : Int × Int} (hx : l[k]? = some x) : okAt (zbS l k) x := by
 obtain ⟨h1, h2, h3, h4, h5⟩ := h.term x (List.mem_of_getElem? hx)
 refine ⟨?_, h2, h3, h4, h5⟩
 cases k with
 | zero => exact h1
 | succ j =>
   obtain ⟨hl, rfl⟩ := List.getElem?_eq_some_iff.1 hx
   have hj : l[j]? = some l[j] := List.getElem?_eq_getElem (by omega)
   rw [zbZ hj]
   exact List.pairwise_iff_getElem.1 h.asc j (j + 1) (by omega) hl (by omega)
theorem zih {l : List (Int × Int)} (hn : l.length ≤ 200) (h : ∀ (k : Nat) (x : Int × Int), l[k]? = some x → okAt (zbS l k) x) : ValidR l := by
 have hadj : ∀ k (hk : k + 1 < l.length), l[k].2 < l[k + 1].2 := fun k hk => by
  have := (h (k + 1) _ (List.getElem?_eq_getElem hk)).1
  rwa [zbZ (List.getElem?_eq_getElem (by omega))] at this
 have hasc : ∀ i d (hk : i + d + 1 < l.length), l[i].2 < l[i + d + 1].2 := by
  intro i d
  induction d with
  | zero => intro hk; exact hadj i hk
  | succ d ih =>
    intro hk
    have h1 := ih (by omega)
    have h2 := hadj (i + d + 1) (by omega)
    simp only [Nat.add_assoc] at h1 h2 ⊢
    omega
 have hpos : ∀ (k : Nat) (x : Int × Int), l[k]? = some x → 0 < x.2 := fun k x hx => by
  have h1 := (h k x hx).1
  cases k with
  | zero => exact h1
  | succ j =>
    obtain ⟨hl, rfl⟩ := List.getElem?_eq_some_iff.1 hx
    have h0 := (h 0 l[0] (List.getElem?_eq_getElem (by omega))).1
    have h2 := hasc 0 j (by omega)
    simp only [Nat.zero_add] at h2
    simp only [zbS] at h0
    omega
 refine ⟨hn, List.pairwise_iff_getElem.2 fun i j hi hj hij => ?_, fun x hx => ?_⟩
 ·have := hasc i (j - i - 1) (by omega)
  have e : i + (j - i - 1) + 1 = j := by omega
  simp only [e] at this
  exact this
 ·obtain ⟨k, hk, rfl⟩ := List.mem_iff_getElem.1 hx
  have hx' : l[k]? = some l[k] := List.getElem?_eq_getElem hk
  obtain ⟨_, h2, h3, h4, h5⟩ := h k _ hx'
  exact ⟨hpos k _ hx', h2, h3, h4, h5⟩
noncomputable def ckE (l : List (Int × Int)) : Int := @ite _ (ValidR l) (Classical.propDecidable _) 0 30
theorem zaG {l : List (Int × Int)} (h : ValidR l) : ckE l = 0 := by unfold ckE; exact if_pos h
theorem zcm {l : List (Int × Int)} (h : ¬ ValidR l) : ckE l = 30 := by unfold ckE; exact if_neg h
theorem zaP (A : Option Addr) (n c : Nat) (l : List (Int × Int)) (w : World) (hs : RowM w A 2 n (zab l)) (hn : n ≤ 1000000) :
  Calls Tryz.prog 19 #[.slice A n c] w (fun e w' => e = .returned (.int .i64 (ckE l)) ∧ Lat w w') := by
 have hlen := hs.1
 rw [zam] at hlen
 by_cases hbig : 200 < n
 ·have hE : ckE l = 30 := zcm fun h => by have := h.len; omega
  have hbI : (200 : Int) < (n : Int) := by omega
  clear hs hbig
  go_enter Tryz.func19, Tryz.ntmps19
  go_wp2
  go_ret
  exact ⟨by first | rfl | (rw [hE]; rfl), Lat.refl _⟩
 have HLEN := Lib.hid hlen
 have HS := Lib.hid hs
 have hbI : ¬ (200 : Int) < (n : Int) := by omega
 have HB := Lib.hid hbig
 clear hlen hs hn hbig
 go_enter Tryz.func19, Tryz.ntmps19
 go_wp2
 go_loopw [3, 13] (fun last iv wr => ∃ k : Nat, k ≤ n ∧ iv = .int .i64 (k : Nat) ∧ last = .int .i64 (zbS l k) ∧ Hid (∀ j x, j < k → l[j]? = some x → okAt (zbS l j) x) ∧ Hid (0 ≤ zbS l k) ∧ Lat w wr) (fun _ iv _ => n - (intOf iv).toNat)
 case atStart => exact ⟨0, Nat.zero_le _, rfl, rfl, fun j x h => absurd h (by omega), (by show (0 : Int) ≤ 0; omega), Lat.refl _⟩
 case round =>
  obtain ⟨k, hk, rfl, rfl, hI, hP, hl⟩ := hrel
  by_cases hkn : k < n
  ·obtain ⟨g, o, x, rfl, hg, hx, c0, c1⟩ := zaL (HS.out.later hl) hkn
   obtain ⟨t, u⟩ := x
   simp only at c0 c1
   obtain ⟨la, hla⟩ : ∃ z, zbS l k = z := ⟨_, rfl⟩
   have hok : ckE l = 30 ∨ okAt la (t, u) := by
    by_cases h : ValidR l
    ·exact .inr (hla ▸ h.okAt hx)
    ·exact .inl (zcm h)
   have hbad : ¬ okAt la (t, u) → ckE l = 30 := fun h => hok.resolve_right h
   have hsu := zbZ hx
   have hI2 : Hid (okAt la (t, u) → ∀ j x, j < k + 1 → l[j]? = some x → okAt (zbS l j) x) := fun h j y hj hy => by
    rcases Nat.lt_or_ge j k with h1 | h1
    ·exact hI.out j y h1 hy
    ·obtain rfl : j = k := by omega
     rw [hx] at hy; cases hy
     rw [hla]; exact h
   simp only at hsu
   rw [hla] at hP
   rw [hla]
   have hkI : (k : Int) < (n : Int) := by omega
   have hk0 : (0 : Int) ≤ (k : Int) := by omega
   have wk : wrap64 ((k : Int) + 1) = (k : Int) + 1 := IntWalk.wrap64_in _ (by have := HB.out; omega)
   have HBAD := Lib.hid hbad
   have HSU := Lib.hid hsu
   have HKN := Lib.hid hkn
   have HW := Lib.hid (zcu t)
   clear hok hbad hsu hla hI hx hg hk hkn
   go_upto_region 7 with (fail)
   refine zas (Q := fun W => Code.wp _ _ _ _ W) ?_
   intro W5 l5 s5 k5
   have L5 := hl.trans l5
   have d0 := k5.cell 0
   have d1 := k5.cell 1
   clear c0 c1 hl l5 s5
   by_cases h1 : u ≤ la
   ·have hE := HBAD.out (fun h => by have := h.1; simp only at this; omega)
    clear HBAD HSU hI2
    go_wp2
    go_ret
    exact ⟨by first | rfl | (rw [hE]; rfl), L5⟩
   by_cases h2 : 10000000000000 < u
   ·have hE := HBAD.out (fun h => by have := h.2.1; simp only at this; omega)
    clear HBAD HSU hI2
    go_wp2
    go_ret
    exact ⟨by first | rfl | (rw [hE]; rfl), L5⟩
   by_cases h3 : t = 0
   ·have hE := HBAD.out (fun h => h.2.2.1 h3)
    have h3' : ((t : Int) == 0) = true := by simp [h3]
    clear HBAD HSU hI2
    go_wp2
    go_ret
    exact ⟨by first | rfl | (rw [hE]; rfl), L5⟩
   have h3' : ((t : Int) == 0) = false := by simp [h3]
   by_cases h4 : zbo t
   ·have HW1 := HW.out
    rw [decide_eq_true h4] at HW1
    have hu0 : 0 < u := by have := hP.out; omega
    obtain ⟨N, rfl⟩ := Int.eq_ofNat_of_zero_le (Int.le_of_lt hu0)
    have HPA := fun w => zfj N w (by omega) (by omega)
    obtain ⟨s, hs⟩ : ∃ z, zbR N = z := ⟨_, rfl⟩
    obtain ⟨q, hq⟩ : ∃ z, zbs N = z := ⟨_, rfl⟩
    rw [hs, hq] at HPA
    have HH1 := Lib.hid h1
    have HH2 := Lib.hid h2
    clear hq
    go_wp2_with fail
    refine (HW1 W5).mono ?_
    rintro e w' ⟨rfl, rfl⟩
    clear HW1 HW
    go_wp2_with fail
    refine (HPA _).mono ?_
    rintro e w' ⟨rfl, rfl⟩
    clear HPA
    by_cases h5 : s ≤ 1
    ·have h5I : ¬ (1 : Int) < (s : Int) := by omega
     have HOK : Hid (okAt la (t, (N : Int))) := ⟨by have := HH1.out; omega, by have := HH2.out; omega, h3, h4, by rw [Int.toNat_natCast, hs]; exact h5⟩
     clear h5 hs h3 h4 h1 h2
     go_wp2
     go_roundw
     case rel => exact ⟨k + 1, HKN.out, zac k, by rw [HSU.out], hI2.out HOK.out, by show 0 ≤ zbS l (k + 1); rw [HSU.out]; omega, L5⟩
     case measure => exact zar HKN.out
    ·have h5I : (1 : Int) < (s : Int) := by omega
     have hE := HBAD.out (fun h => by have := h.2.2.2.2; rw [Int.toNat_natCast, hs] at this; exact h5 this)
     clear HBAD HSU hI2 hs h5
     go_wp2
     go_ret
     exact ⟨by first | rfl | (rw [hE]; rfl), L5⟩
   ·have hE := HBAD.out (fun h => h4 h.2.2.2.1)
    have HW1 := HW.out
    rw [decide_eq_false h4] at HW1
    clear HBAD HSU hI2 HW
    go_wp2_with fail
    refine (HW1 W5).mono ?_
    rintro e w' ⟨rfl, rfl⟩
    go_wp2
    go_ret
    exact ⟨by first | rfl | (rw [hE]; rfl), L5⟩
  ·obtain rfl : k = n := by omega
   have hE : ckE l = 0 := zaG (zih (by have := HLEN.out; have := HB.out; omega) (fun j x hx => hI.out j x (by have := (List.getElem?_eq_some_iff.1 hx).1; have := HLEN.out; omega) hx))
   have hge : ¬ (k : Int) < (k : Int) := by omega
   clear hI hkn
   go_wp2
   go_ret
   exact ⟨by first | rfl | (rw [hE]; rfl), hl⟩
theorem zkv (a b c d : Int) (w : World) : Calls Tryz.prog 96 #[.agg #[.int .i64 a, .int .i64 b], .agg #[.int .i64 c, .int .i64 d]] w (fun e w' => e = .returned (.bool (decide ((a, b) = (c, d)))) ∧ Lat w w') := by
 by_cases h1 : a = c
 ·subst h1
  by_cases h2 : b = d
  ·subst h2
   rw [decide_eq_true rfl]
   go_enter Tryz.func96, Tryz.ntmps96
   go_upto_region 1 with (fail)
   refine zaK (Q := fun W => Code.wp _ _ _ _ W) ?_
   intro W hl hs k1 k2
   have c0 := k1.cell 0
   have c1 := k1.cell 1
   have d0 := k2.cell 0
   have d1 := k2.cell 1
   go_wp2
   go_ret
   exact ⟨rfl, hl⟩
  ·rw [decide_eq_false (fun h => h2 (Prod.mk.inj h).2)]
   have h3 : ((b : Int) == d) = false := by simpa using h2
   go_enter Tryz.func96, Tryz.ntmps96
   go_upto_region 1 with (fail)
   refine zaK (Q := fun W => Code.wp _ _ _ _ W) ?_
   intro W hl hs k1 k2
   have c0 := k1.cell 0
   have c1 := k1.cell 1
   have d0 := k2.cell 0
   have d1 := k2.cell 1
   go_wp2
   go_ret
   exact ⟨rfl, hl⟩
 ·rw [decide_eq_false (fun h => h1 (Prod.mk.inj h).1)]
  have h3 : ((a : Int) == c) = false := by simpa using h1
  go_enter Tryz.func96, Tryz.ntmps96
  go_upto_region 1 with (fail)
  refine zaK (Q := fun W => Code.wp _ _ _ _ W) ?_
  intro W hl hs k1 k2
  have c0 := k1.cell 0
  have c1 := k1.cell 1
  have d0 := k2.cell 0
  have d1 := k2.cell 1
  go_wp2
  go_ret
  exact ⟨rfl, hl⟩
theorem zl2 (A : Option Addr) (n c : Nat) (a : List (Int × Int)) (A' : Option Addr) (m c' : Nat) (b : List (Int × Int)) (w : World) (hs : RowM w A 2 n (zab a)) (ks : RowM w A' 2 m (zab b)) (hn : n ≤ 1000000) :
  Calls Tryz.prog 56 #[.slice A n c, .slice A' m c'] w (fun e w' => e = .returned (.bool (decide (a = b))) ∧ Lat w w') := by
 have hln := hs.1
 have hlm := ks.1
 rw [zam] at hln hlm
 obtain ⟨v, hv⟩ : ∃ v, decide (a = b) = v := ⟨_, rfl⟩
 rw [hv]
 have HV := Lib.hid hv
 have HS := Lib.hid hs
 have KS := Lib.hid ks
 have HLN := Lib.hid hln
 have HLM := Lib.hid hlm
 clear hv hs ks hln hlm
 suffices H : Calls Tryz.prog 95 #[.slice A n c, .slice A' m c', .func (.func 96) #[] #[]] w (fun e w' => e = .returned (.bool v) ∧ Lat w w') by
  go_enter Tryz.func56, Tryz.ntmps56
  go_wp2_with fail
  refine H.mono ?_
  rintro e w' ⟨rfl, hl⟩
  go_wp2
  go_ret
  exact ⟨rfl, hl⟩
 by_cases hnm : n = m
 ·subst hnm
  go_enter Tryz.func95, Tryz.ntmps95
  go_wp2
  go_loopw [17] (fun iv wr => ∃ k : Nat, k ≤ n ∧ iv = .int .i64 (k : Nat) ∧ Hid (a.take k = b.take k) ∧ Lat w wr) (fun iv _ => n - (intOf iv).toNat)
  case atStart => exact ⟨0, Nat.zero_le _, rfl, rfl, Lat.refl _⟩
  case round =>
   obtain ⟨k, hk, rfl, hI, hl⟩ := hrel
   by_cases hkn : k < n
   ·obtain ⟨g, o, x, rfl, hg, hx, c0, c1⟩ := zaL (HS.out.later hl) hkn
    obtain ⟨g', o', y, rfl, hg', hy, d0, d1⟩ := zaL (KS.out.later hl) hkn
    obtain ⟨t, u⟩ := x
    obtain ⟨t', u'⟩ := y
    simp only at c0 c1 d0 d1
    have hkI : (k : Int) < (n : Int) := by omega
    have hk0 : (0 : Int) ≤ (k : Int) := by omega
    have wk : wrap64 ((k : Int) + 1) = (k : Int) + 1 := IntWalk.wrap64_in _ (by omega)
    have HX := Lib.hid hx
    have HY := Lib.hid hy
    have HKN := Lib.hid hkn
    have HC := fun w => zkv t u t' u' w
    have hcell := (rfl : wr = wr)
    have e0 := fun w' (hl' : Lat wr w') => hl'.cell (p := ⟨g', o' + k * 2, none⟩) hg' d0
    have e1 := fun w' (hl' : Lat wr w') => hl'.cell (p := ⟨g', o' + k * 2 + 1, none⟩) hg' d1
    have L1 := Lat.alloc wr (.cells #[.int .i64 t, .int .i64 u] 72)
    clear hx hy hg hg' hk hkn hcell
    go_upto_region 7 with (fail)
    refine zaK (Q := fun W => Code.wp _ _ _ _ W) ?_
    intro W5 l5 s5 k5 k6
    have L5 := hl.trans l5
    have f0 := k5.cell 0
    have f1 := k5.cell 1
    have f2 := k6.cell 0
    have f3 := k6.cell 1
    clear c0 c1 d0 d1 e0 e1 L1 s5
    go_wp2_with fail
    refine (HC W5).mono ?_
    rintro e w6 ⟨rfl, l6⟩
    have L6 := L5.trans l6
    clear HC
    by_cases he : (t, u) = (t', u')
    ·rw [decide_eq_true he]
     have hI2 : Hid (a.take (k + 1) = b.take (k + 1)) := by
      obtain ⟨h1, h2⟩ := List.getElem?_eq_some_iff.1 HX.out
      obtain ⟨h3, h4⟩ := List.getElem?_eq_some_iff.1 HY.out
      show _ = _
      rw [List.take_succ_eq_append_getElem h1, List.take_succ_eq_append_getElem h3, h2, h4, hI.out, he]
     clear he
     go_wp2
     go_roundw
     case rel => exact ⟨k + 1, HKN.out, zac k, hI2, L6⟩
     case measure => exact zar HKN.out
    ·rw [decide_eq_false he]
     have hv : v = false := by
      rw [← HV.out]
      refine decide_eq_false fun h => he ?_
      have h1 := HX.out
      rw [h, HY.out] at h1
      cases h1; rfl
     clear he
     go_wp2
     go_ret
     exact ⟨by first | rfl | (rw [hv]; rfl), L6⟩
   ·obtain rfl : k = n := by omega
    have hv : v = true := by
     rw [← HV.out]
     refine decide_eq_true ?_
     have := hI.out
     rwa [List.take_of_length_le (by have := HLN.out; omega), List.take_of_length_le (by have := HLM.out; omega)] at this
    have hge : ¬ (k : Int) < (k : Int) := by omega
    clear hkn hI
    go_wp2
    go_ret
    exact ⟨by first | rfl | (rw [hv]; rfl), hl⟩
 ·have hv : v = false := by
   rw [← HV.out]
   refine decide_eq_false fun h => hnm ?_
   have := HLN.out
   have := HLM.out
   rw [h] at *
   omega
  have hne : (((n : Nat) : Int) != ((m : Nat) : Int)) = true := by simp; omega
  clear hnm
  go_enter Tryz.func95, Tryz.ntmps95
  go_wp2
  go_ret
  exact ⟨by first | rfl | (rw [hv]; rfl), Lat.refl _⟩
theorem zkw (t u : Int) (w : World) : Calls Tryz.prog 58 #[.agg #[.int .i64 t, .int .i64 u]] w (fun e w' => e = .returned (.bool (!decide (okT (t, u)))) ∧ Lat w w') := by
 obtain ⟨v, hv⟩ : ∃ v, (!decide (okT (t, u))) = v := ⟨_, rfl⟩
 rw [hv]
 have HW := Lib.hid (fun w => zcu t w)
 by_cases h1 : u < 0
 ·have hE : Hid (v = true) := by
   show v = true
   rw [← hv, decide_eq_false (fun h => by have := h.1; simp only at this; omega)]; rfl
  clear hv
  go_enter Tryz.func58, Tryz.ntmps58
  go_upto_region 1 with (fail)
  refine zas (Q := fun W => Code.wp _ _ _ _ W) ?_
  intro W hl hs k1
  have c0 := k1.cell 0
  have c1 := k1.cell 1
  go_wp2
  go_ret
  exact ⟨by rw [hE.out]; rfl, hl⟩
 by_cases h2 : 10000000000000 < u
 ·have hE : Hid (v = true) := by
   show v = true
   rw [← hv, decide_eq_false (fun h => by have := h.2.1; simp only at this; omega)]; rfl
  clear hv
  go_enter Tryz.func58, Tryz.ntmps58
  go_upto_region 1 with (fail)
  refine zas (Q := fun W => Code.wp _ _ _ _ W) ?_
  intro W hl hs k1
  have c0 := k1.cell 0
  have c1 := k1.cell 1
  go_wp2
  go_ret
  exact ⟨by rw [hE.out]; rfl, hl⟩
 have HV : Hid (v = !decide (zbo t)) := by
  show v = _
  rw [← hv]
  congr 1
  rw [decide_eq_decide]
  exact ⟨fun h => h.2.2, fun h => ⟨by simp only; omega, by simp only; omega, h⟩⟩
 obtain ⟨b, hb⟩ : ∃ b, decide (zbo t) = b := ⟨_, rfl⟩
 rw [hb] at HW HV
 clear hv hb
 go_enter Tryz.func58, Tryz.ntmps58
 go_upto_region 1 with (fail)
 refine zas (Q := fun W => Code.wp _ _ _ _ W) ?_
 intro W hl hs k1
 have c0 := k1.cell 0
 have c1 := k1.cell 1
 go_wp2_with fail
 refine (HW.out W).mono ?_
 rintro e w' ⟨rfl, rfl⟩
 go_wp2
 go_ret
 exact ⟨by rw [HV.out]; rfl, hl⟩
def okB (l : List (Int × Int)) : Bool := decide (∀ x ∈ l, okT x)
theorem zgN (A : Option Addr) (n c : Nat) (l : List (Int × Int)) (w : World) (hs : RowM w A 2 n (zab l)) (hn : n ≤ 1000000) :
  Calls Tryz.prog 57 #[.slice A n c, .func (.func 58) #[] #[]] w (fun e w' => e = .returned (.bool (!okB l)) ∧ Lat w w') := by
 have hln := hs.1
 rw [zam] at hln
 have HS := Lib.hid hs
 have HLN := Lib.hid hln
 have HN := Lib.hid hn
 clear hs hln hn
 suffices H : Calls Tryz.prog 97 #[.slice A n c, .func (.func 58) #[] #[]] w (fun e w' => ∃ z : Int, e = .returned (.int .i64 z) ∧ ((!okB l) = decide (0 ≤ z)) ∧ Lat w w') by
  obtain ⟨v, hv⟩ : ∃ v, (!okB l) = v := ⟨_, rfl⟩
  rw [hv] at H ⊢
  clear hv
  go_enter Tryz.func57, Tryz.ntmps57
  go_wp2_with fail
  refine H.mono ?_
  rintro e w' ⟨z, rfl, hz, hl⟩
  clear H
  have HZ := Lib.hid hz
  clear hz
  go_wp2
  go_ret
  exact ⟨by rw [HZ.out]; rfl, hl⟩
 have hok : Hid (okB l = decide (∀ x ∈ l, okT x)) := rfl
 obtain ⟨v, hv⟩ : ∃ v, okB l = v := ⟨_, rfl⟩
 rw [hv] at hok ⊢
 clear hv
 go_enter Tryz.func97, Tryz.ntmps97
 go_wp2
 go_loopw [8] (fun iv wr => ∃ k : Nat, k ≤ n ∧ iv = .int .i64 (k : Nat) ∧ Hid (∀ x ∈ l.take k, okT x) ∧ Lat w wr) (fun iv _ => n - (intOf iv).toNat)
 case atStart => exact ⟨0, Nat.zero_le _, rfl, (fun x hx => by simp at hx), Lat.refl _⟩
 case round =>
  obtain ⟨k, hk, rfl, hI, hl⟩ := hrel
  by_cases hkn : k < n
  ·obtain ⟨g, o, x, rfl, hg, hx, c0, c1⟩ := zaL (HS.out.later hl) hkn
   obtain ⟨t, u⟩ := x
   simp only at c0 c1
   have hkI : (k : Int) < (n : Int) := by omega
   have hk0 : (0 : Int) ≤ (k : Int) := by omega
   have wk : wrap64 ((k : Int) + 1) = (k : Int) + 1 := IntWalk.wrap64_in _ (by have := HN.out; omega)
   have HX := Lib.hid hx
   have HKN := Lib.hid hkn
   have HC := Lib.hid (fun w => zkw t u w)
   clear hx hg hk hkn
   by_cases he : okT (t, u)
   ·have HC2 := HC.out
    rw [decide_eq_true he] at HC2
    have hI2 : Hid (∀ x ∈ l.take (k + 1), okT x) := fun x hx => by
     obtain ⟨h1, h2⟩ := List.getElem?_eq_some_iff.1 HX.out
     rw [List.take_succ_eq_append_getElem h1, h2] at hx
     rcases List.mem_append.1 hx with h | h
     ·exact hI.out x h
     ·rw [List.mem_singleton] at h; rw [h]; exact he
    clear he HC
    go_wp2_with fail
    refine (HC2 wr).mono ?_
    rintro e w6 ⟨rfl, l6⟩
    have L6 := hl.trans l6
    clear HC2 c0 c1
    go_wp2
    go_roundw
    case rel => exact ⟨k + 1, HKN.out, by first | exact zac k | (rw [wk]; exact zac k), hI2, L6⟩
    case measure => first | exact zar HKN.out | (rw [wk]; exact zar HKN.out)
   ·have HC2 := HC.out
    rw [decide_eq_false he] at HC2
    have hv : Hid (v = false) := by
     show v = false
     rw [hok.out]
     exact decide_eq_false fun h => he (h _ (List.mem_of_getElem? HX.out))
    clear he HC
    go_wp2_with fail
    refine (HC2 wr).mono ?_
    rintro e w6 ⟨rfl, l6⟩
    have L6 := hl.trans l6
    clear HC2 c0 c1
    go_wp2
    go_ret
    exact ⟨(k : Int), rfl, by rw [hv.out]; simp, L6⟩
  ·obtain rfl : k = n := by omega
   have hv : Hid (v = true) := by
    show v = true
    rw [hok.out]
    refine decide_eq_true ?_
    have := hI.out
    rwa [List.take_of_length_le (by have := HLN.out; omega)] at this
   have hge : ¬ (k : Int) < (k : Int) := by omega
   clear hkn hI
   go_wp2
   go_ret
   exact ⟨-1, rfl, by rw [hv.out]; decide, hl⟩
open Go.Maps
def GV (z : Int) (N : Nat) (v : Value) (w : World) : Prop := ∃ b A n c, v = .agg #[.bool b, .slice A n c] ∧ Lg w b A n c z ∧ n ≤ N
theorem GV.mono {z : Int} {N : Nat} {v : Value} {w w' : World} (h : GV z N v w) (hl : Lat w w') : GV z N v w' := by
 obtain ⟨b, A, n, c, e, hr, hn⟩ := h
 exact ⟨b, A, n, c, e, hr.later hl, hn⟩
theorem LongPost.run {w w' : World} {z : Int} {N : Nat} {e : Ending} {d : Prop} (h : LongPost w z N e w') : ∃ v, e = .returned v ∧ (Lat w w' ∧ (d → GV z N v w')) := by
 obtain ⟨b, A, n, c, e, hr, hn, hl⟩ := h
 exact ⟨_, e, hl, fun _ => ⟨b, A, n, c, rfl, hr, hn⟩⟩
theorem MapL.mono {w : World} {b n n' M M' : Nat} {D : DataW Value} {f g : Int → Int} (h : MapL w b n M D f) (hn : n ≤ n') (hM : M ≤ M') (hf : ∀ u, f u = g u) : MapL w b n' M' D g := by
 refine ⟨h.1.mono hn, fun u => ?_⟩
 obtain ⟨bb, A, m, c, a1, a2, a3⟩ := h.2 u
 exact ⟨bb, A, m, c, a1, by rw [← hf u]; exact a2, by omega⟩
theorem znt {o : Oper} {a : Act} {w : World} {K : Act → World → Prop} {Q : Exit → Act → World → Prop} (m x v : Operand) (hop : o.op = .mapUpdate 122 m x v) (hd : o.dst = none) {b n M N : Nat} {D : DataW Value} {f : Int → Int}
  (hm : a.eval m = .map (some b)) (u : Int) (h0 : -9223372036854775808 ≤ u) (h1 : u < 9223372036854775808) (hx : a.eval x = .int .i64 u) {bb : Bool} {A : Option Addr} {mm c : Nat} {z : Int} (hv : a.eval v = .agg #[.bool bb, .slice A mm c])
  (hML : MapL w b n M D f) (hn : n ≤ 1000000) (hlg : Lg w bb A mm c z) (hmN : mm ≤ N) (hMN : M ≤ N)
  (h : ∀ w', MapL w' b (n + 1) N (D.put (lk u) (.held (.agg #[.bool bb, .slice A mm c]))) (fun x => if x = u then z else f x) → LatP (· = b) w w' → K a w') : o.wp Tryz.prog a w K Q := by
 obtain ⟨w', hrun, r1, r2⟩ := hML.1.update keyI Tryz.underlying122 (by unfold maxLen; omega) (keyOf_int_mk Tryz.underlying3 (wf_i64 h0 h1)) (d := .held (.agg #[.bool bb, .slice A mm c])) (ps := []) rfl
 have hk := h w' (hML.upd u hlg hmN hMN r1 r2) (ze8 r2)
 unfold Oper.wp
 simp [execOp, hop, hm, hx, hv, hrun, Result.andThen]
 have e : a.put o.dst undef = a := by rw [hd]; rfl
 show K (a.put o.dst undef) w'
 rw [e]
 exact hk
theorem OwnM.base {w : World} {B B' m : Nat} {E : TypeId} {v : Value} {xs : List (List Value)} (h : OwnM w B E m v xs) (hB : B' ≤ B) : OwnM w B' E m v xs := by
 obtain ⟨h0, h1, h2⟩ := h
 refine ⟨h0, h1, ?_⟩
 rcases h2 with h2 | ⟨g, cap, cur, a1, a2, a3⟩
 ·exact .inl h2
 ·exact .inr ⟨g, cap, cur, a1, Nat.le_trans hB a2, a3⟩
theorem zkx (u : Nat) : ∀ l : List (Int × Int), (∀ x ∈ l, okT x) → -(10000000000000000000000000000 * (l.length : Int)) ≤ cf u l ∧ cf u l ≤ 10000000000000000000000000000 * (l.length : Int)
 | [], _ => by simp [zfg]
 | x :: r, h => by
   have ih := zkx u r (fun y hy => h y (.tail _ hy))
   obtain ⟨h1, h2, h3, h4⟩ := h x (.head _)
   have h5 : -10000000000000000000000000000 ≤ cfT u x ∧ cfT u x ≤ 10000000000000000000000000000 := by
    unfold cfT
    split
    ·rename_i hx
     have := (zb6 (n := x.2.toNat) (by omega)).1
     exact zek (M := 1000000000000000) (N := 10000000000000) (by omega) h4 (by omega) (by omega)
    ·omega
   rw [zcl, List.length_cons]
   omega
theorem zky : (10000000000000000000000000000 : Int) * 1000 < zaV := by decide
theorem zkz {l : List (Int × Int)} {j : Nat} {x : Int × Int} (h : l[j]? = some x) (u : Nat) : cf u (l.take (j + 1)) = cf u (l.take j) + cfT u x := by
 obtain ⟨h1, h2⟩ := List.getElem?_eq_some_iff.1 h
 rw [List.take_succ_eq_append_getElem h1, h2, zei, zcl, zfg, Int.add_zero]
theorem zii {l : List (Int × Int)} {j : Nat} {x : Int × Int} (h : l[j]? = some x) (P : Int × Int → Prop) : (∃ y ∈ l.take (j + 1), P y) ↔ P x ∨ ∃ y ∈ l.take j, P y := by
 obtain ⟨h1, h2⟩ := List.getElem?_eq_some_iff.1 h
 rw [List.take_succ_eq_append_getElem h1, h2]
 constructor
 ·rintro ⟨y, hy, hp⟩
  rcases List.mem_append.1 hy with hy | hy
  ·exact .inr ⟨y, hy, hp⟩
  ·rw [List.mem_singleton] at hy; subst hy; exact .inl hp
 ·rintro (hp | ⟨y, hy, hp⟩)
  ·exact ⟨x, by simp, hp⟩
  ·exact ⟨y, by simp [hy], hp⟩
def Occ (l : List (Int × Int)) (u : Int) : Prop := ∃ x ∈ l, 0 < x.2 ∧ x.1 ≠ 0 ∧ ((zbs x.2.toNat : Nat) : Int) = u
theorem zl3 {l : List (Int × Int)} {j : Nat} {x : Int × Int} (h : l[j]? = some x) (hx : ¬ (0 < x.2 ∧ x.1 ≠ 0)) (u : Int) : Occ (l.take (j + 1)) u ↔ Occ (l.take j) u := by
 unfold Occ
 rw [zii h]
 exact ⟨fun h => h.resolve_left (fun k => hx ⟨k.1, k.2.1⟩), .inr⟩
theorem znu {l : List (Int × Int)} {j : Nat} {x : Int × Int} (h : l[j]? = some x) (hx : 0 < x.2) (h0 : x.1 ≠ 0) (u : Int) : Occ (l.take (j + 1)) u ↔ (u = ((zbs x.2.toNat : Nat) : Int) ∨ Occ (l.take j) u) := by
 unfold Occ
 rw [zii h]
 constructor
 ·rintro (k | k)
  ·exact .inl k.2.2.symm
  ·exact .inr k
 ·rintro (rfl | k)
  ·exact .inl ⟨hx, h0, rfl⟩
  ·exact .inr k
theorem zl4 {x : Int × Int} (hx : ¬ (0 < x.2 ∧ x.1 ≠ 0)) (u : Nat) : cfT u x = 0 := by
 unfold cfT
 split
 ·rename_i h
  by_cases h0 : x.1 = 0
  ·rw [h0, Int.zero_mul]
  ·exact absurd ⟨h.1, h0⟩ hx
 ·rfl
theorem zom {l : List (Int × Int)} {j : Nat} {x : Int × Int} (h : l[j]? = some x) (hx : 0 < x.2) (u : Int) :
  (if u = ((zbs x.2.toNat : Nat) : Int) then cf (zbs x.2.toNat) (l.take j) + x.1 * (zbR x.2.toNat : Nat) else cf u.toNat (l.take j)) = cf u.toNat (l.take (j + 1)) := by
 have hq := zlY hx
 rw [zkz h]
 by_cases hu : u = ((zbs x.2.toNat : Nat) : Int)
 ·rw [if_pos hu]
  subst hu
  rw [Int.toNat_natCast]
  congr 1
  unfold cfT
  rw [if_pos ⟨hx, rfl⟩]
 ·rw [if_neg hu]
  have : cfT u.toNat x = 0 := by
   unfold cfT
   rw [if_neg]
   rintro ⟨_, h2⟩
   omega
  omega
end Go.Proofs.YtpmbglhbcjbkcaaGreat
