/- Several texts in one: RdRm, RdOw, RdG2. -/
import Derived.Test.YtpmbglhbcjbkcaaGreatH51
import Derived.Test.YtpmbglhbcjbkcaaGreatH33
import Derived.Maps.AppendAt
namespace Go.Proofs.YtpmbglhbcjbkcaaGreat
set_option maxHeartbeats 16000000
set_option maxRecDepth 100000
open Go.RowKit
set_option linter.unusedSimpArgs false
set_option linter.unusedVariables false
theorem zhd {l : List (Int × Int)} (h : 400 < l.length) : zal l = 3 := by unfold zal; rw [if_pos h]
theorem zhO {l : List (Int × Int)} (h : ¬ 400 < l.length) (h2 : ¬ ∀ x ∈ l, okT x) : zal l = 2 := by unfold zal; rw [if_neg h, if_neg h2]
theorem zhP {l : List (Int × Int)} (h : ¬ 400 < l.length) (h2 : ∀ x ∈ l, okT x) (h3 : ¬ ∀ p ∈ zbY l, zbo p.2) : zal l = 6 := by unfold zal; rw [if_neg h, if_pos h2, if_neg h3]
theorem zhQ {l : List (Int × Int)} (h : ¬ 400 < l.length) (h2 : ∀ x ∈ l, okT x) (h3 : ∀ p ∈ zbY l, zbo p.2) : zal l = if 200 < (zaJ l).length then 3 else 0 := by unfold zal; rw [if_neg h, if_pos h2, if_pos h3]
theorem znV {z : Int} (h : zdM z = 0) : zeR z = z := by
 unfold zdM at h
 unfold zeR
 split at h
 ·rename_i h1; rw [if_pos h1]
 ·cases h
theorem zjK (A : Option Addr) (n c : Nat) (l : List (Int × Int)) (w : World) (hs : RowM w A 2 n (zab l)) :
  Calls Tryz.prog 6 #[.slice A n c] w (zb8 w l) := by
 have hlen := zbA hs
 by_cases hbig : 400 < n
 ·have hE : zal l = 3 := zhd (by omega)
  have hbI : (400 : Int) < (n : Int) := by omega
  clear hs hbig hlen
  go_enter Tryz.func6, Tryz.ntmps6
  go_wp2
  go_ret2
  exact zaB hE (by decide) (Lat.refl _)
 have hn : n ≤ 400 := by omega
 clear hbig
 have HS := Lib.hid hs
 have HN := Lib.hid hn
 have HLEN := Lib.hid hlen
 have hbig : ¬ (400 : Int) < (n : Int) := by omega
 clear hs hn hlen
 go_enter Tryz.func6, Tryz.ntmps6
 go_wp2
 go_loopw [5] (fun iv wr => ∃ j : Nat, j ≤ n ∧ iv = .int .i64 (j : Nat) ∧ Hid (∀ i x, i < j → l[i]? = some x → okT x) ∧ wr = w) (fun iv _ => n - (RowKit.intOf iv).toNat)
 case atStart => exact ⟨0, Nat.zero_le _, rfl, fun i x h => absurd h (by omega), rfl⟩
 case round =>
  obtain ⟨j, hj, rfl, hI, rfl⟩ := hrel
  by_cases hjn : j < n
  ·obtain ⟨g, o, x, rfl, hg, hx, c0, c1⟩ := zaL HS.out hjn
   have hbad : ¬ okT x → zal l = 2 := fun h => zhO (by have := HLEN.out; have := HN.out; omega) (fun h' => h (h' x (List.mem_of_getElem? hx)))
   have hI2 : okT x → ∀ i y, i < j + 1 → l[i]? = some y → okT y := fun h i y hi hy => by
    rcases Nat.lt_or_ge i j with h1 | h1
    ·exact hI.out i y h1 hy
    ·obtain rfl : i = j := by omega
     rw [hx] at hy; cases hy
     exact h
   obtain ⟨t, u⟩ := x
   simp only at c0 c1
   have hjI : (j : Int) < (n : Int) := by omega
   have hj0 : (0 : Int) ≤ (j : Int) := by omega
   have wj : wrap64 ((j : Int) + 1) = (j : Int) + 1 := IntWalk.wrap64_in _ (by have := HN.out; omega)
   have HJ := Lib.hid hjn
   have HBAD := Lib.hid hbad
   have HI2 := Lib.hid hI2
   clear hx hg hjn hj hI hbad hI2
   by_cases b1 : u < 0
   ·have hE := HBAD.out (fun h => by have := h.1; simp only at this; omega)
    clear HBAD HI2
    as_aux_lemma =>
    go_wp2
    go_ret2
    exact zaB hE (by decide) (Lat.refl _)
   by_cases b2 : (10000000000000 : Int) < u
   ·have hE := HBAD.out (fun h => by have := h.2.1; simp only at this; omega)
    clear HBAD HI2
    as_aux_lemma =>
    go_wp2
    go_ret2
    exact zaB hE (by decide) (Lat.refl _)
   have HRT := zcn t wr
   by_cases a3 : zbo t
   case neg =>
    rw [decide_eq_false a3] at HRT
    have hE := HBAD.out (fun h => a3 h.2.2)
    clear HBAD HI2 a3
    as_aux_lemma =>
    go_wp2_with fail
    refine HRT.mono ?_
    rintro e w2 ⟨rfl, rfl⟩
    clear HRT
    go_wp2
    go_ret2
    exact zaB hE (by decide) (Lat.refl _)
   rw [decide_eq_true a3] at HRT
   have HI3 := Lib.hid (HI2.out ⟨by simp only; omega, by simp only; omega, a3⟩)
   clear HBAD HI2 a3
   as_aux_lemma =>
   go_wp2_with fail
   refine HRT.mono ?_
   rintro e w2 ⟨rfl, rfl⟩
   clear HRT
   go_wp2
   go_roundw
   case rel => exact ⟨j + 1, HJ.out, by first | exact zac j | (rw [wj]; exact zac j), HI3, by first | trivial | rfl⟩
   case measure => first | exact zar HJ.out | (rw [wj]; exact zar HJ.out)
  ·obtain rfl : j = n := by omega
   have hge : ¬ (j : Int) < (j : Int) := Int.lt_irrefl _
   have HOK : Hid (∀ x ∈ l, okT x) := fun x hx => by
    obtain ⟨i, hi, rfl⟩ := List.mem_iff_getElem.1 hx
    exact hI.out i _ (by have := HLEN.out; omega) (List.getElem?_eq_getElem hi)
   clear hj hjn hI
   obtain ⟨V, rfl⟩ : ∃ V : World, V = wr := ⟨_, rfl⟩
   go_wp2
   go_loopw [4, 6] (fun sv iv wq => ∃ (k : Nat) (R : List (List Value)), k ≤ j ∧ iv = .int .i64 (k : Nat) ∧ OwnM wq V.heap.size 84 3 sv R ∧ Hid (Ents wq (4 + k) R (zbY (l.take k))) ∧ Lat V wq) (fun _ iv _ => j - (RowKit.intOf iv).toNat)
   case atStart => exact ⟨0, [], Nat.zero_le _, rfl, OwnM.nil _ _ _ _, Ents.nil _ _, Lat.refl _⟩
   case round =>
    obtain ⟨k, R, hk, rfl, hown, hE, hl⟩ := hrel
    have hsz := hl.size
    by_cases hkn : k < j
    ·obtain ⟨g, o, x, rfl, hg, hx, c0, c1⟩ := zaL (HS.out.later hl) hkn
     have hokx := HOK.out x (List.mem_of_getElem? hx)
     have htk : l.take (k + 1) = l.take k ++ [x] := by
      obtain ⟨h1, h2⟩ := List.getElem?_eq_some_iff.1 hx
      rw [List.take_succ_eq_append_getElem h1, h2]
     have hsn : zbY (l.take (k + 1)) = zfP (zbY (l.take k)) x := by rw [htk, zgJ]
     have hlen : (zbY (l.take k)).length ≤ k := Nat.le_trans (zc6 _) (by rw [List.length_take]; omega)
     obtain ⟨t, u⟩ := x
     simp only at c0 c1
     obtain ⟨a1, a2, a3⟩ := hokx
     simp only at a1 a2 a3
     have hjI : (k : Int) < (j : Int) := by omega
     have hj0 : (0 : Int) ≤ (k : Int) := by omega
     have wj : wrap64 ((k : Int) + 1) = (k : Int) + 1 := IntWalk.wrap64_in _ (by have := HN.out; omega)
     have HJ := Lib.hid hkn
     unfold zfP at hsn
     simp only at hsn
     by_cases hu : 0 < u
     ·obtain ⟨N, rfl⟩ := Int.eq_ofNat_of_zero_le (Int.le_of_lt hu)
      rw [if_pos hu, Int.toNat_natCast] at hsn
      have HSQ := fun w => zcQ N w (by omega) (by omega)
      have hpl := zb6 (n := N) (by omega)
      have hpp := zct (n := N) (by omega)
      obtain ⟨s, hs⟩ : ∃ z, zbR N = z := ⟨_, rfl⟩
      obtain ⟨q, hq⟩ : ∃ z, zbs N = z := ⟨_, rfl⟩
      rw [hs, hq] at HSQ hpl hpp
      rw [hs, hq] at hsn
      have HSN := Lib.hid hsn
      have HT1 := Lib.hid (fun w => zay t w (by have := a3.1; omega) (by have := a3.2; omega))
      have HT2 := Lib.hid (fun w => zay (s : Nat) w (by omega) (by omega))
      have HTC := Lib.hid (zg1 (HS.out) hkn rfl hx)
      have hRl : Hid (R.length ≤ k) := by have := hE.out.1; show _ ≤ _; omega
      obtain ⟨A8, c8, rfl, r8, _⟩ := hown.form
      have HR8 := Lib.hid r8
      have HKJ : Hid (k < 400) := by have := HN.out; show _ < _; omega
      clear hx hg hkn hk a1 a2 a3 hsn htk hs hq hpl hpp hlen hown r8
      as_aux_lemma =>
      have HRW := Lib.hid (HS.out.later hl)
      go_wp2_with fail
      refine (HSQ _).mono ?_
      rintro e w2 ⟨rfl, m2⟩
      clear HSQ c0 c1
      have M2 := hl.trans m2
      have c0 := HTC.out w2 M2
      go_wp2_with fail
      refine (HT1.out _).mono ?_
      rintro e w3 ⟨b3, A3, n3, c3, rfl, r3, q3, m3⟩
      go_wp2_with fail
      refine (HT2.out _).mono ?_
      rintro e w4 ⟨b4, A4, n4, c4, rfl, r4, q4, m4⟩
      go_wp2_with fail
      refine (zbk b3 A3 n3 c3 t b4 A4 n4 c4 (s : Nat) w4 (r3.later m4) r4 (by omega) (by omega)).mono ?_
      rintro e w5 ⟨b5, A5, n5, c5, rfl, r5, q5, m5⟩
      have M5 := ((M2.trans m3).trans m4).trans m5
      have mx := ((m2.trans m3).trans m4).trans m5
      clear r3 r4 m2 m3 m4 m5 M2 c0
      go_wp2_with fail
      refine (zk5 A8 R.length c8 R (zbY (l.take k)) (4 + k) q b5 A5 n5 c5 (t * (s : Nat)) w5 (HR8.out.later mx) (hE.out.later mx) r5 (by omega) (by have := HKJ.out; omega) (by have := HKJ.out; have := hRl.out; omega)).mono ?_
      rintro e w6 ⟨v6, R6, rfl, o6, E6, m6⟩
      have M6 := M5.trans m6
      have O6 := o6.base M5.size
      have E7 : Hid (Ents w6 (4 + (k + 1)) R6 (zbY (l.take (k + 1)))) := by show Ents _ _ _ _; rw [HSN.out]; exact E6.out
      clear E6 o6 m6 M5 mx r5 hE hl HRW
      go_wp2
      go_roundw
      case rel => exact ⟨k + 1, R6, HJ.out, by first | exact zac k | (rw [wj]; exact zac k), O6, E7, M6⟩
      case measure => first | exact zar HJ.out | (rw [wj]; exact zar HJ.out)
     ·have hu0 : u = 0 := by omega
      subst hu0
      rw [if_neg hu] at hsn
      have HE2 : Hid (Ents wr (4 + (k + 1)) R (zbY (l.take (k + 1)))) := by show Ents _ _ _ _; rw [hsn]; exact hE.out.more (by omega)
      have hlt : ¬ (0 : Int) < 0 := by omega
      clear hx hg hkn hk a1 a2 a3 hsn htk hlen hE hu
      as_aux_lemma =>
      go_wp2
      go_roundw
      case rel => exact ⟨k + 1, R, HJ.out, by first | exact zac k | (rw [wj]; exact zac k), hown, HE2, hl⟩
      case measure => first | exact zar HJ.out | (rw [wj]; exact zar HJ.out)
    ·obtain rfl : k = j := by omega
     have hge : ¬ (k : Int) < (k : Int) := Int.lt_irrefl _
     have hT : l.take k = l := List.take_of_length_le (by have := HLEN.out; omega)
     rw [hT] at hE
     have hEl := zc6 l
     obtain ⟨S, hS⟩ : ∃ S, zbY l = S := ⟨_, rfl⟩
     have HML : Hid (zaJ l = zb7 S) := by show zb7 (zbY l) = _; rw [hS]
     have HBIG : Hid (∀ p ∈ S, ¬ zbo p.2 → zal l = 6) := fun p hp hr => zhP (by have := HLEN.out; have := HN.out; omega) HOK.out (fun h => hr (h p (by rw [hS]; exact hp)))
     have HFIN : Hid ((∀ p ∈ S, zbo p.2) → zal l = if 200 < (zaJ l).length then 3 else 0) := fun h => zhQ (by have := HLEN.out; have := HN.out; omega) HOK.out (by rw [hS]; exact h)
     rw [hS] at hE hEl
     obtain ⟨A8, c8, rfl, r8, _⟩ := hown.form
     have hRS := hE.out.1
     obtain ⟨m, hm⟩ : ∃ m, R.length = m := ⟨_, rfl⟩
     rw [hm] at r8 hRS ⊢
     have HR8 := Lib.hid r8
     have HSL := Lib.hid hRS.symm
     have HM4 : Hid (m ≤ 400 ∧ k ≤ 400) := by have := HN.out; have := HLEN.out; exact ⟨by omega, by omega⟩
     obtain ⟨V3, rfl⟩ : ∃ V : World, V = wr := ⟨_, rfl⟩
     have HE := hE
     clear hk hkn hT hS hEl hown r8 hRS hm hE
     go_wp2
     go_loopw [9, 10] (fun ov iv wr => ∃ i : Nat, i ≤ m ∧ iv = .int .i64 (i : Nat) ∧ Hid (∀ q x, q < i → S[q]? = some x → zbo x.2) ∧ OwnM wr V3.heap.size 72 2 ov (zab (zb7 (S.take i))) ∧ Lat V3 wr) (fun _ iv _ => m - (RowKit.intOf iv).toNat)
     case atStart => exact ⟨0, Nat.zero_le _, rfl, fun q x h => absurd h (by omega), by simpa [zb7, zab] using OwnM.nil _ _ _ _, Lat.refl _⟩
     case round =>
      obtain ⟨i, hi, rfl, hI, hown, hl3⟩ := hrel
      have hsz3 := hl3.size
      by_cases him : i < m
      ·obtain ⟨g, o, x, bx, Bx, mx, cx, rfl, hg, hx, hrx, hmx, e0, e1, e2⟩ := zf6 HR8.out HE.out him
       have hbad : ¬ zbo x.2 → zal l = 6 := HBIG.out x (List.mem_of_getElem? hx)
       have hI2 : zbo x.2 → ∀ q y, q < i + 1 → S[q]? = some y → zbo y.2 := fun h q y hq hy => by
        rcases Nat.lt_or_ge q i with h1 | h1
        ·exact hI.out q y h1 hy
        ·obtain rfl : q = i := by omega
         rw [hx] at hy; cases hy
         exact h
       have hst : S.take (i + 1) = S.take i ++ [x] := by
        obtain ⟨h1, h2⟩ := List.getElem?_eq_some_iff.1 hx
        rw [List.take_succ_eq_append_getElem h1, h2]
       have hout : Hid (zb7 (S.take (i + 1)) = zb7 (S.take i) ++ (if x.2 = 0 then [] else [(x.2, (x.1 : Int))])) := by
        show _ = _
        rw [hst, zej]
       obtain ⟨ux, zx⟩ := x
       simp only at e0 hrx hout hbad hI2
       have hol : Hid ((zab (zb7 (S.take i))).length ≤ 100000000) := by
        have h1 := zdN (S.take i)
        rw [List.length_take] at h1
        have := HM4.out.1
        show (zab _).length ≤ _
        rw [zam]
        omega
       have HI := zck bx Bx mx cx zx wr (hrx.later hl3) (by have := HM4.out.2; omega)
       have HRT := Lib.hid (fun w => zcn zx w)
       have hjI : (i : Int) < (m : Int) := by omega
       have hj0 : (0 : Int) ≤ (i : Int) := by omega
       have wj : wrap64 ((i : Int) + 1) = (i : Int) + 1 := IntWalk.wrap64_in _ (by have := HM4.out.1; omega)
       have HJ := Lib.hid him
       have HE0 := Lib.hid e0
       have c1 := e1 wr hl3
       have c2 := e2 wr hl3
       have LB := Lib.hid (hl.trans hl3)
       by_cases hr : zbo zx
       case neg =>
        have hE := hbad hr
        clear hbad hI2 hst hx hg him hi e0 e1 e2 hmx hrx hout hI HE0 hol hown
        by_cases hi0 : zdM zx = 0
        ·have hiv : zeR zx = zx := znV hi0
         rw [hi0, hiv] at HI
         rw [decide_eq_false hr] at HRT
         clear hr hi0 hiv
         as_aux_lemma =>
         go_wp2_with fail
         refine HI.mono ?_
         rintro e w2 ⟨rfl, m2⟩
         have LC := Lib.hid (LB.out.trans m2)
         clear HI c1 c2 LB
         go_wp2_with fail
         refine (HRT.out w2).mono ?_
         rintro e w3 ⟨rfl, rfl⟩
         clear HRT
         go_wp2
         go_ret2
         exact zaB hE (by decide) LC.out
        ·obtain ⟨ie, hie⟩ : ∃ z, zdM zx = z := ⟨_, rfl⟩
         obtain ⟨iv, hiv⟩ : ∃ z, zeR zx = z := ⟨_, rfl⟩
         rw [hie, hiv] at HI
         have hieB : ((ie : Int) != 0) = true := by rw [← hie]; simpa using hi0
         clear hr hi0 hiv hie HRT
         as_aux_lemma =>
         go_wp2_with fail
         refine HI.mono ?_
         rintro e w2 ⟨rfl, m2⟩
         have LC := Lib.hid (LB.out.trans m2)
         clear HI c1 c2 LB
         go_wp2
         go_ret2
         exact zaB hE (by decide) LC.out
       have hi0 : zdM zx = 0 := by unfold zdM; rw [if_pos (by have := hr.1; have := hr.2; omega)]
       have hiv : zeR zx = zx := by unfold zeR; rw [if_pos (by have := hr.1; have := hr.2; omega)]
       rw [hi0, hiv] at HI
       rw [decide_eq_true hr] at HRT
       have HI3 := Lib.hid (hI2 hr)
       clear hr hst hi0 hiv hx hg him hi e0 e1 e2 hmx hrx hI hI2 hbad LB
       as_aux_lemma =>
       go_wp2_with fail
       refine HI.mono ?_
       rintro e w2 ⟨rfl, m2⟩
       have M2 := hl3.trans m2
       have hown2 := hown.later m2
       clear HI c1 c2 hown
       go_wp2_with fail
       refine (HRT.out w2).mono ?_
       rintro e w3 ⟨rfl, rfl⟩
       clear HRT
       have c0 := HE0.out _ M2
       have hsz4 := M2.size
       by_cases hzz : zx = 0
       ·as_aux_lemma =>
        subst hzz
        have hout2 := hout.out
        rw [if_pos rfl, List.append_nil] at hout2
        rw [← hout2] at hown2
        clear hout hout2 c0
        go_wp2
        go_roundw
        case rel => exact ⟨i + 1, HJ.out, by first | exact zac i | (rw [wj]; exact zac i), HI3, hown2, M2⟩
        case measure => first | exact zar HJ.out | (rw [wj]; exact zar HJ.out)
       ·as_aux_lemma =>
        have hzB : ((zx : Int) != 0) = true := by simp [hzz]
        have hout2 := hout.out
        rw [if_neg hzz] at hout2
        have HO2 : Hid (zab (zb7 (S.take (i + 1))) = zab (zb7 (S.take i)) ++ [[.int .i64 zx, .int .i64 (ux : Nat)]]) := by
         show _ = _
         rw [hout2]
         simp [zab, zji]
        have hownA := hown2.later (Lat.alloc w3 (.cells #[.int .i64 zx, .int .i64 (ux : Nat)] 72))
        clear hout hout2 hzz hown2
        go_wp2_with (at_builtin; refine zaR rfl _ _ 27 (by rfl) V3.heap.size 72 72 (.agg #[.int .i64 0, .int .i64 0]) 2 16 Tryz.underlying27 zaS rfl (by decide) (by decide) _ _ [.int .i64 zx, .int .i64 (ux : Nat)] (by simp [Value.oneCell']) _ w3.heap.size (by rfl) hownA (Blk.new _ _ _) rfl 1 (by rfl) hol.out (by simp; omega) ?_; intro v' w' h1 h2 h3)
        have L9 := h3 V3 (M2.trans (Lat.alloc _ _)) (Nat.le_refl _)
        rw [← HO2.out] at h1
        clear h2 h3 hownA c0
        go_roundw
        case rel => exact ⟨i + 1, HJ.out, by first | exact zac i | (rw [wj]; exact zac i), HI3, h1, L9⟩
        case measure => first | exact zar HJ.out | (rw [wj]; exact zar HJ.out)
      ·obtain rfl : i = m := by omega
       have hgi : ¬ (i : Int) < (i : Int) := Int.lt_irrefl _
       have hST : S.take i = S := List.take_of_length_le (by have := HSL.out; omega)
       have hFE := HFIN.out (fun p hp => by
        obtain ⟨q, hq, rfl⟩ := List.mem_iff_getElem.1 hp
        exact hI.out q _ (by have := HSL.out; omega) (List.getElem?_eq_getElem hq))
       rw [hST, ← HML.out] at hown
       obtain ⟨A9, c9, rfl, _⟩ := hown.form
       rw [zam] at hown ⊢
       have LF := Lib.hid (hl.trans hl3)
       by_cases h9 : 200 < (zaJ l).length
       ·have h9I : (200 : Int) < ((zaJ l).length : Int) := by omega
        rw [if_pos h9] at hFE
        clear hown hST hi him hl3 h9 hI
        as_aux_lemma =>
        go_wp2
        go_ret2
        exact zaB hFE (by decide) LF.out
       ·have h9I : ¬ (200 : Int) < ((zaJ l).length : Int) := by omega
        rw [if_neg h9] at hFE
        have HF := Lib.hid (hown.base hl.size)
        clear hown hST hi him hl3 h9 hI
        as_aux_lemma =>
        go_wp2
        go_ret2
        exact ⟨_, by rw [hFE]; rfl, by rw [zc7 hFE]; exact HF.out, LF.out⟩
def zco (k : Nat) : List (Int × Int) := (List.range k).map fun i => (1, ((i % 30 : Nat) : Int))
theorem zjL (k : Nat) : zco (k + 1) = zco k ++ [(1, ((k % 30 : Nat) : Int))] := by simp [zco, List.range_succ]
theorem zeO (k : Nat) : (zco k).length = k := by simp [zco]
def znW (l : List (Int × Int)) (b : Bool) : List (Int × Int) := l.take 6 ++ zco (if b then 401 - (l.take 6).length else 0)
theorem zmG (l : List (Int × Int)) (b : Bool) : (znW l b).length ≤ 401 := by
 unfold znW
 have h : (l.take 6).length ≤ 6 := by rw [List.length_take]; omega
 rw [List.length_append, zeO]
 split <;> omega
theorem zlw (a b : List (Int × Int)) : zab (a ++ b) = zab a ++ zab b := by simp [zab]
theorem zhe (l : List (Int × Int)) : ∀ x ∈ zab l, ∀ u ∈ x, u.oneCell' = true := by
 intro x hx u hu
 obtain ⟨y, _, rfl⟩ := List.mem_map.1 hx
 simp only [zji, List.mem_cons, List.not_mem_nil, or_false] at hu
 rcases hu with rfl | rfl <;> rfl
theorem zfu (L0 : List (Int × Int)) (k : Nat) : ∃ r : Int, (k : Int).tmod 30 = r ∧ wrap64 r = r ∧ IntKind.i64.wrap r = r ∧ Hid (zab (L0 ++ zco (k + 1)) = zab (L0 ++ zco k) ++ [[.int .i64 1, .int .i64 r]]) := by
 refine ⟨((k % 30 : Nat) : Int), ?_, ?_, ?_, ?_⟩
 ·rw [Int.tmod_eq_emod_of_nonneg (by omega)]; omega
 ·exact IntWalk.wrap64_in _ (by omega)
 ·rw [IntWalk.i64_left]; exact IntWalk.wrap64_in _ (by omega)
 ·show _ = _
  rw [zjL, ← List.append_assoc, zlw]
  rfl
def znX (w : World) (L : List (Int × Int)) (e : Ending) (w' : World) : Prop := ∃ v, e = .returned v ∧ OwnM w' w.heap.size 72 2 v (zab L) ∧ Lat w w'
theorem znY (A : Option Addr) (n c : Nat) (l : List (Int × Int)) (b : Bool) (w : World) (hs : RowM w A 2 n (zab l)) (hc : n ≤ c) :
  Calls Tryz.prog 7 #[.slice A n c, .bool b] w (znX w (znW l b)) := by
 have hlen := zbA hs
 obtain ⟨m, hm⟩ : ∃ m, min n 6 = m := ⟨_, rfl⟩
 have hmn : m ≤ n := by omega
 have hm6 : m ≤ 6 := by omega
 have hR := hs.take hmn
 have hT : (zab l).take m = zab (l.take 6) := by
  rw [zab, ← List.map_take, ← zab]
  congr 1
  rcases Nat.lt_or_ge 6 n with h | h
  ·rw [show m = 6 by omega]
  ·rw [show m = n by omega, List.take_of_length_le (by omega), List.take_of_length_le (by omega)]
 rw [hT] at hR
 have hml : (l.take 6).length = m := by rw [List.length_take]; omega
 obtain ⟨L0, hL0⟩ : ∃ L0, l.take 6 = L0 := ⟨_, rfl⟩
 have HO : Hid (znW l b = L0 ++ zco (if b then 401 - m else 0)) := by show znW l b = _; unfold znW; rw [hL0, ← hL0, hml]
 rw [hL0] at hR hml
 have HR := Lib.hid hR
 have HML := Lib.hid hml
 have HW0 : Hid (OwnM (w.alloc (.cells #[] 72)) w.heap.size 72 2 (.slice (some ⟨w.heap.size, 0, none⟩) 0 0) []) := ⟨fun x h => by simp at h, World.ownsRow_lit w #[] 0 (Nat.le_refl _) (by decide) rfl⟩
 have hmc : m ≤ c := by omega
 have hA : A = none → n = 0 := fun e => by
  rcases Nat.eq_zero_or_pos n with h | h
  ·exact h
  ·obtain ⟨g, o, e2, _⟩ := hs.2.2 h
   rw [e] at e2; cases e2
 clear hs hlen hT hR hml hL0
 cases A with
 | none =>
   obtain rfl := hA rfl
   have hm0 : m = 0 := by omega
   have HR2 := HR.out
   rw [hm0] at HR2
   have HR := Lib.hid HR2
   have HQ := Lib.hid hm0
   clear hm hmn hmc hc hA HR2 hm0
   go_enter Tryz.func7, Tryz.ntmps7
   go_wp2_with (at_builtin; refine zbN rfl _ _ 22 (by rfl) w.heap.size 72 (.agg #[.int .i64 0, .int .i64 0]) 2 16 Tryz.underlying22 zaS rfl (by decide) (by decide) _ [] (zab L0) (zhe _) _ (by rfl) HW0.out none 0 c (by rfl) (HR.out.later (Lat.alloc _ _)) (by show 0 + 0 ≤ _; omega) (by first | exact Nat.le_refl _ | simp) ?_; intro v' w' h1 h2 h3)
   have L1 := h3 w (Lat.alloc _ _) (Nat.le_refl _)
   rw [List.nil_append] at h1
   clear h2 h3 HR HW0
   obtain ⟨V, rfl⟩ : ∃ V : World, V = w' := ⟨_, rfl⟩
   obtain ⟨K, hK⟩ : ∃ K, (if b then 401 - m else 0) = K := ⟨_, rfl⟩
   rw [hK] at HO
   have HK := Lib.hid hK
   clear hK
   go_loopw [5, 6] (fun ov iv wr => ∃ k : Nat, k ≤ K ∧ iv = .int .i64 (k : Nat) ∧ OwnM wr w.heap.size 72 2 ov (zab (L0 ++ zco k)) ∧ Lat w wr) (fun _ iv _ => K - (intOf iv).toNat)
   case atStart => exact ⟨0, Nat.zero_le _, rfl, by simpa [zco] using h1, L1⟩
   case round =>
    obtain ⟨k, hk, rfl, hown, hl⟩ := hrel
    have hsz := hl.size
    obtain ⟨A8, c8, rfl, r8, _⟩ := hown.form
    obtain ⟨N, hN⟩ : ∃ N, (zab (L0 ++ zco k)).length = N := ⟨_, rfl⟩
    have hNk : N = m + k := by rw [← hN, zam, List.length_append, zeO, HML.out]
    rw [hN] at hown ⊢
    clear r8
    by_cases hkK : k < K
    ·have hb : b = true := by
      cases b with
      | true => rfl
      | false => have := HK.out; simp at this; omega
     subst hb
     have hKv : K = 401 - m := by have := HK.out; simpa using this.symm
     have hNI : (N : Int) < 401 := by omega
     have hk0 : (0 : Int) ≤ (k : Int) := by omega
     have wk : wrap64 ((k : Int) + 1) = (k : Int) + 1 := IntWalk.wrap64_in _ (by omega)
     obtain ⟨r, hr1, hr2, hr3, HF⟩ := zfu L0 k
     have hol : Hid ((zab (L0 ++ zco k)).length ≤ 100000000) := by show _ ≤ _; omega
     have hownA := hown.later (Lat.alloc wr (.cells #[.int .i64 1, .int .i64 r] 72))
     have HJ := Lib.hid hkK
     have HNK := Lib.hid hN
     clear hown hkK hk hNk hN hKv
     as_aux_lemma =>
     go_wp2_with (at_builtin; refine zaR rfl _ _ 22 (by rfl) w.heap.size 72 72 (.agg #[.int .i64 0, .int .i64 0]) 2 16 Tryz.underlying22 zaS rfl (by decide) (by decide) _ _ [.int .i64 1, .int .i64 r] (by simp [Value.oneCell']) _ wr.heap.size (by rfl) hownA (Blk.new _ _ _) rfl 1 (by rfl) hol.out (by simp; omega) ?_; intro v' w' h1 h2 h3)
     have L9 := h3 w (hl.trans (Lat.alloc _ _)) (Nat.le_refl _)
     rw [← HF.out] at h1
     clear h2 h3 hownA
     go_roundw
     case rel => exact ⟨k + 1, HJ.out, by first | exact zac k | (rw [wk]; exact zac k), h1, L9⟩
     case measure => first | exact zar HJ.out | (rw [wk]; exact zar HJ.out)
    ·obtain rfl : k = K := by omega
     have HF := Lib.hid hown
     rw [← HO.out] at HF
     cases b with
     | true =>
       have hNI : ¬ (N : Int) < 401 := by have := HK.out; simp at this; omega
       clear hown hN hNk hk hkK
       as_aux_lemma =>
       go_wp2
       go_ret
       exact ⟨_, rfl, HF.out, hl⟩
     | false =>
       clear hown hN hNk hk hkK
       as_aux_lemma =>
       go_wp2
       go_ret
       exact ⟨_, rfl, HF.out, hl⟩
 | some ad =>
   have hq : (min (n : Int) 6).toNat = m := by omega
   have HR2 := HR.out
   rw [← hq] at HR2
   have HR := Lib.hid HR2
   clear hm hmn hA HR2 hmc
   have HQ := Lib.hid hq
   clear hq
   go_enter Tryz.func7, Tryz.ntmps7
   go_wp2_with (at_builtin; refine zbN rfl _ _ 22 (by rfl) w.heap.size 72 (.agg #[.int .i64 0, .int .i64 0]) 2 16 Tryz.underlying22 zaS rfl (by decide) (by decide) _ [] (zab L0) (zhe _) _ (by rfl) HW0.out (some ad) (min (n : Int) 6).toNat c (by rfl) (HR.out.later (Lat.alloc _ _)) (by show 0 + (min (n : Int) 6).toNat ≤ _; omega) (by first | exact Nat.le_refl _ | simp) ?_; intro v' w' h1 h2 h3)
   have L1 := h3 w (Lat.alloc _ _) (Nat.le_refl _)
   rw [List.nil_append] at h1
   clear h2 h3 HR HW0
   obtain ⟨V, rfl⟩ : ∃ V : World, V = w' := ⟨_, rfl⟩
   obtain ⟨K, hK⟩ : ∃ K, (if b then 401 - m else 0) = K := ⟨_, rfl⟩
   rw [hK] at HO
   have HK := Lib.hid hK
   clear hK
   go_loopw [5, 6] (fun ov iv wr => ∃ k : Nat, k ≤ K ∧ iv = .int .i64 (k : Nat) ∧ OwnM wr w.heap.size 72 2 ov (zab (L0 ++ zco k)) ∧ Lat w wr) (fun _ iv _ => K - (intOf iv).toNat)
   case atStart => exact ⟨0, Nat.zero_le _, rfl, by simpa [zco] using h1, L1⟩
   case round =>
    obtain ⟨k, hk, rfl, hown, hl⟩ := hrel
    have hsz := hl.size
    obtain ⟨A8, c8, rfl, r8, _⟩ := hown.form
    obtain ⟨N, hN⟩ : ∃ N, (zab (L0 ++ zco k)).length = N := ⟨_, rfl⟩
    have hNk : N = m + k := by rw [← hN, zam, List.length_append, zeO, HML.out]
    rw [hN] at hown ⊢
    clear r8
    by_cases hkK : k < K
    ·have hb : b = true := by
      cases b with
      | true => rfl
      | false => have := HK.out; simp at this; omega
     subst hb
     have hKv : K = 401 - m := by have := HK.out; simpa using this.symm
     have hNI : (N : Int) < 401 := by omega
     have hk0 : (0 : Int) ≤ (k : Int) := by omega
     have wk : wrap64 ((k : Int) + 1) = (k : Int) + 1 := IntWalk.wrap64_in _ (by omega)
     obtain ⟨r, hr1, hr2, hr3, HF⟩ := zfu L0 k
     have hol : Hid ((zab (L0 ++ zco k)).length ≤ 100000000) := by show _ ≤ _; omega
     have hownA := hown.later (Lat.alloc wr (.cells #[.int .i64 1, .int .i64 r] 72))
     have HJ := Lib.hid hkK
     have HNK := Lib.hid hN
     clear hown hkK hk hNk hN hKv
     as_aux_lemma =>
     go_wp2_with (at_builtin; refine zaR rfl _ _ 22 (by rfl) w.heap.size 72 72 (.agg #[.int .i64 0, .int .i64 0]) 2 16 Tryz.underlying22 zaS rfl (by decide) (by decide) _ _ [.int .i64 1, .int .i64 r] (by simp [Value.oneCell']) _ wr.heap.size (by rfl) hownA (Blk.new _ _ _) rfl 1 (by rfl) hol.out (by simp; omega) ?_; intro v' w' h1 h2 h3)
     have L9 := h3 w (hl.trans (Lat.alloc _ _)) (Nat.le_refl _)
     rw [← HF.out] at h1
     clear h2 h3 hownA
     go_roundw
     case rel => exact ⟨k + 1, HJ.out, by first | exact zac k | (rw [wk]; exact zac k), h1, L9⟩
     case measure => first | exact zar HJ.out | (rw [wk]; exact zar HJ.out)
    ·obtain rfl : k = K := by omega
     have HF := Lib.hid hown
     rw [← HO.out] at HF
     cases b with
     | true =>
       have hNI : ¬ (N : Int) < 401 := by have := HK.out; simp at this; omega
       clear hown hN hNk hk hkK
       as_aux_lemma =>
       go_wp2
       go_ret
       exact ⟨_, rfl, HF.out, hl⟩
     | false =>
       clear hown hN hNk hk hkK
       as_aux_lemma =>
       go_wp2
       go_ret
       exact ⟨_, rfl, HF.out, hl⟩
end Go.Proofs.YtpmbglhbcjbkcaaGreat
