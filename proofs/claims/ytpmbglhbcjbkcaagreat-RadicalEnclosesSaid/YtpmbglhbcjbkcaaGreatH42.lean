/- Several texts in one: RdQ, RdD, RdJ. -/
import Derived.Test.YtpmbglhbcjbkcaaGreatH40
import Derived.Test.YtpmbglhbcjbkcaaGreatH41
namespace Go.Proofs.YtpmbglhbcjbkcaaGreat
set_option maxHeartbeats 16000000
set_option maxRecDepth 100000
open Go.RowKit Go.Maps
set_option linter.unusedSimpArgs false
set_option linter.unusedVariables false
theorem zde {l : List (Int × Int)} (h : zal l = 0) : l.length ≤ 400 ∧ (∀ x ∈ l, okT x) ∧ (∀ p ∈ zbY l, zbo p.2) ∧ (zaJ l).length ≤ 200 := by
 unfold zal at h
 split at h
 ·cases h
 ·split at h
  ·split at h
   ·split at h
    ·cases h
    ·rename_i h1 h2 h3 h4
     exact ⟨by omega, h2, h3, by omega⟩
   ·cases h
  ·cases h
theorem zg1 {W : World} {A : Option Addr} {n k g o : Nat} {l : List (Int × Int)} (h : RowM W A 2 n (zab l)) (hk : k < n) (hA : A = some ⟨g, o, none⟩) {x : Int × Int} (hx : l[k]? = some x) : ∀ w', Lat W w' → w'.cell? ⟨g, o + k * 2, none⟩ = some (.int .i64 x.1) := fun w' hl => by
 obtain ⟨g2, o2, y, e, _, hy, c0, _⟩ := zaL (h.later hl) hk
 rw [hA] at e
 cases e
 rw [hx] at hy
 cases hy
 exact c0
def zk6 (w : World) (l : List (Int × Int)) (e : Ending) (w' : World) : Prop :=
 ∃ v, e = .returned (.tuple #[v, .int .i64 0]) ∧ OwnM w' w.heap.size 72 2 v (zab (zaJ l)) ∧ Lat w w'
theorem zfq (A : Option Addr) (n c : Nat) (l : List (Int × Int)) (w : World) (hs : RowM w A 2 n (zab l)) (h0 : zal l = 0) :
  Calls Tryz.prog 6 #[.slice A n c] w (zk6 w l) := by
 have hlen := zbA hs
 obtain ⟨hn, hok, hin, h200⟩ := zde h0
 rw [hlen] at hn
 have HS := Lib.hid hs
 have HN := Lib.hid hn
 have HOK := Lib.hid hok
 have HIN := Lib.hid hin
 have H200 := Lib.hid h200
 have HLEN := Lib.hid hlen
 have hbig : ¬ (400 : Int) < (n : Int) := by omega
 clear hs hn hok hin h200 hlen h0
 go_enter Tryz.func6, Tryz.ntmps6
 go_wp2
 go_loopw [5] (fun iv wr => ∃ j : Nat, j ≤ n ∧ iv = .int .i64 (j : Nat) ∧ wr = w) (fun iv _ => n - (RowKit.intOf iv).toNat)
 case atStart => exact ⟨0, Nat.zero_le _, rfl, rfl⟩
 case round =>
  obtain ⟨j, hj, rfl, rfl⟩ := hrel
  by_cases hjn : j < n
  ·obtain ⟨g, o, x, rfl, hg, hx, c0, c1⟩ := zaL HS.out hjn
   have hokx := HOK.out x (List.mem_of_getElem? hx)
   obtain ⟨t, u⟩ := x
   simp only at c0 c1
   obtain ⟨a1, a2, a3⟩ := hokx
   simp only at a1 a2 a3
   have HRT := zcn t wr
   rw [decide_eq_true a3] at HRT
   have b1 : ¬ u < 0 := by omega
   have b2 : ¬ (10000000000000 : Int) < u := by omega
   have hjI : (j : Int) < (n : Int) := by omega
   have hj0 : (0 : Int) ≤ (j : Int) := by omega
   have wj : wrap64 ((j : Int) + 1) = (j : Int) + 1 := IntWalk.wrap64_in _ (by have := HN.out; omega)
   have HJ := Lib.hid hjn
   clear a3 hx hg hjn hj a1 a2
   as_aux_lemma =>
   go_wp2_with fail
   refine HRT.mono ?_
   rintro e w2 ⟨rfl, rfl⟩
   clear HRT
   go_wp2
   go_roundw
   case rel => exact ⟨j + 1, HJ.out, by first | exact zac j | (rw [wj]; exact zac j), by first | trivial | rfl⟩
   case measure => first | exact zar HJ.out | (rw [wj]; exact zar HJ.out)
  ·obtain rfl : j = n := by omega
   have hge : ¬ (j : Int) < (j : Int) := Int.lt_irrefl _
   clear hj hjn
   obtain ⟨V, rfl⟩ : ∃ V : World, V = wr := ⟨_, rfl⟩
   go_wp2
   go_loopw [4, 6] (fun sv iv wq => ∃ (k : Nat) (R : List (List Value)), k ≤ j ∧ iv = .int .i64 (k : Nat) ∧ OwnM wq V.heap.size 84 3 sv R ∧ Hid (Ents wq (4 + k) R (zbY (l.take k))) ∧ Lat V wq) (fun _ iv _ => j - (RowKit.intOf iv).toNat)
   case atStart => exact ⟨0, [], Nat.zero_le _, rfl, OwnM.nil _ _ _ _, Ents.nil _ _, Lat.refl _⟩
   case round =>
    obtain ⟨k, R, hk, rfl, hown, hE, hl⟩ := hrel
    have hsz := hl.size
    by_cases hkn : k < j
    ·obtain ⟨g, o, x, rfl, hg, hx, c0, c1⟩ := zaL (HS.out.later hl) hkn
     have hokx := HOK.out x (List.mem_of_getElem? hx)
     have htk : l.take (k + 1) = l.take k ++ [x] := by
      obtain ⟨h1, h2⟩ := List.getElem?_eq_some_iff.1 hx
      rw [List.take_succ_eq_append_getElem h1, h2]
     have hsn : zbY (l.take (k + 1)) = zfP (zbY (l.take k)) x := by rw [htk, zgJ]
     have hlen : (zbY (l.take k)).length ≤ k := Nat.le_trans (zc6 _) (by rw [List.length_take]; omega)
     obtain ⟨t, u⟩ := x
     simp only at c0 c1
     obtain ⟨a1, a2, a3⟩ := hokx
     simp only at a1 a2 a3
     have hjI : (k : Int) < (j : Int) := by omega
     have hj0 : (0 : Int) ≤ (k : Int) := by omega
     have wj : wrap64 ((k : Int) + 1) = (k : Int) + 1 := IntWalk.wrap64_in _ (by have := HN.out; omega)
     have HJ := Lib.hid hkn
     unfold zfP at hsn
     simp only at hsn
     by_cases hu : 0 < u
     ·obtain ⟨N, rfl⟩ := Int.eq_ofNat_of_zero_le (Int.le_of_lt hu)
      rw [if_pos hu, Int.toNat_natCast] at hsn
      have HSQ := fun w => zcQ N w (by omega) (by omega)
      have hpl := zb6 (n := N) (by omega)
      have hpp := zct (n := N) (by omega)
      obtain ⟨s, hs⟩ : ∃ z, zbR N = z := ⟨_, rfl⟩
      obtain ⟨q, hq⟩ : ∃ z, zbs N = z := ⟨_, rfl⟩
      rw [hs, hq] at HSQ hpl hpp
      rw [hs, hq] at hsn
      have HSN := Lib.hid hsn
      have HT1 := Lib.hid (fun w => zay t w (by have := a3.1; omega) (by have := a3.2; omega))
      have HT2 := Lib.hid (fun w => zay (s : Nat) w (by omega) (by omega))
      have HTC := Lib.hid (zg1 (HS.out) hkn rfl hx)
      have hRl : Hid (R.length ≤ k) := by have := hE.out.1; show _ ≤ _; omega
      obtain ⟨A8, c8, rfl, r8, _⟩ := hown.form
      have HR8 := Lib.hid r8
      have HKJ : Hid (k < 400) := by have := HN.out; show _ < _; omega
      clear hx hg hkn hk a1 a2 a3 hsn htk hs hq hpl hpp hlen hown r8
      as_aux_lemma =>
      have HRW := Lib.hid (HS.out.later hl)
      go_wp2_with fail
      refine (HSQ _).mono ?_
      rintro e w2 ⟨rfl, m2⟩
      clear HSQ c0 c1
      have M2 := hl.trans m2
      have c0 := HTC.out w2 M2
      go_wp2_with fail
      refine (HT1.out _).mono ?_
      rintro e w3 ⟨b3, A3, n3, c3, rfl, r3, q3, m3⟩
      go_wp2_with fail
      refine (HT2.out _).mono ?_
      rintro e w4 ⟨b4, A4, n4, c4, rfl, r4, q4, m4⟩
      go_wp2_with fail
      refine (zbk b3 A3 n3 c3 t b4 A4 n4 c4 (s : Nat) w4 (r3.later m4) r4 (by omega) (by omega)).mono ?_
      rintro e w5 ⟨b5, A5, n5, c5, rfl, r5, q5, m5⟩
      have M5 := ((M2.trans m3).trans m4).trans m5
      have mx := ((m2.trans m3).trans m4).trans m5
      clear r3 r4 m2 m3 m4 m5 M2 c0
      go_wp2_with fail
      refine (zk5 A8 R.length c8 R (zbY (l.take k)) (4 + k) q b5 A5 n5 c5 (t * (s : Nat)) w5 (HR8.out.later mx) (hE.out.later mx) r5 (by omega) (by have := HKJ.out; omega) (by have := HKJ.out; have := hRl.out; omega)).mono ?_
      rintro e w6 ⟨v6, R6, rfl, o6, E6, m6⟩
      have M6 := M5.trans m6
      have O6 := o6.base M5.size
      have E7 : Hid (Ents w6 (4 + (k + 1)) R6 (zbY (l.take (k + 1)))) := by show Ents _ _ _ _; rw [HSN.out]; exact E6.out
      clear E6 o6 m6 M5 mx r5 hE hl HRW
      go_wp2
      go_roundw
      case rel => exact ⟨k + 1, R6, HJ.out, by first | exact zac k | (rw [wj]; exact zac k), O6, E7, M6⟩
      case measure => first | exact zar HJ.out | (rw [wj]; exact zar HJ.out)
     ·have hu0 : u = 0 := by omega
      subst hu0
      rw [if_neg hu] at hsn
      have HE2 : Hid (Ents wr (4 + (k + 1)) R (zbY (l.take (k + 1)))) := by show Ents _ _ _ _; rw [hsn]; exact hE.out.more (by omega)
      have hlt : ¬ (0 : Int) < 0 := by omega
      clear hx hg hkn hk a1 a2 a3 hsn htk hlen hE hu
      as_aux_lemma =>
      go_wp2
      go_roundw
      case rel => exact ⟨k + 1, R, HJ.out, by first | exact zac k | (rw [wj]; exact zac k), hown, HE2, hl⟩
      case measure => first | exact zar HJ.out | (rw [wj]; exact zar HJ.out)
    ·obtain rfl : k = j := by omega
     have hge : ¬ (k : Int) < (k : Int) := Int.lt_irrefl _
     have hT : l.take k = l := List.take_of_length_le (by have := HLEN.out; omega)
     rw [hT] at hE
     have hEl := zc6 l
     obtain ⟨S, hS⟩ : ∃ S, zbY l = S := ⟨_, rfl⟩
     have HML : Hid (zaJ l = zb7 S) := by show zb7 (zbY l) = _; rw [hS]
     rw [hS] at hE hEl HIN
     have h200 := H200.out
     rw [HML.out] at h200
     obtain ⟨A8, c8, rfl, r8, _⟩ := hown.form
     have hRS := hE.out.1
     obtain ⟨m, hm⟩ : ∃ m, R.length = m := ⟨_, rfl⟩
     rw [hm] at r8 hRS ⊢
     have HR8 := Lib.hid r8
     have HSL := Lib.hid hRS.symm
     have HM4 : Hid (m ≤ 400 ∧ k ≤ 400) := by have := HN.out; have := HLEN.out; exact ⟨by omega, by omega⟩
     obtain ⟨V3, rfl⟩ : ∃ V : World, V = wr := ⟨_, rfl⟩
     have H2 := Lib.hid h200
     have HE := hE
     clear hk hkn hT hS hEl hown r8 hRS hm h200 hE
     go_wp2
     go_loopw [9, 10] (fun ov iv wr => ∃ i : Nat, i ≤ m ∧ iv = .int .i64 (i : Nat) ∧ OwnM wr V3.heap.size 72 2 ov (zab (zb7 (S.take i))) ∧ Lat V3 wr) (fun _ iv _ => m - (RowKit.intOf iv).toNat)
     case atStart => exact ⟨0, Nat.zero_le _, rfl, by simpa [zb7, zab] using OwnM.nil _ _ _ _, Lat.refl _⟩
     case round =>
      obtain ⟨i, hi, rfl, hown, hl3⟩ := hrel
      have hsz3 := hl3.size
      by_cases him : i < m
      ·obtain ⟨g, o, x, bx, Bx, mx, cx, rfl, hg, hx, hrx, hmx, e0, e1, e2⟩ := zf6 HR8.out HE.out him
       have hr := HIN.out x (List.mem_of_getElem? hx)
       have hst : S.take (i + 1) = S.take i ++ [x] := by
        obtain ⟨h1, h2⟩ := List.getElem?_eq_some_iff.1 hx
        rw [List.take_succ_eq_append_getElem h1, h2]
       have hout : Hid (zb7 (S.take (i + 1)) = zb7 (S.take i) ++ (if x.2 = 0 then [] else [(x.2, (x.1 : Int))])) := by
        show _ = _
        rw [hst, zej]
       obtain ⟨ux, zx⟩ := x
       simp only at e0 hrx hr hout
       have hol : Hid ((zab (zb7 (S.take i))).length ≤ 100000000) := by
        have h1 := zdN (S.take i)
        rw [List.length_take] at h1
        have := HM4.out.1
        show (zab _).length ≤ _
        rw [zam]
        omega
       have hi0 : zdM zx = 0 := by unfold zdM; rw [if_pos (by have := hr.1; have := hr.2; omega)]
       have hiv : zeR zx = zx := by unfold zeR; rw [if_pos (by have := hr.1; have := hr.2; omega)]
       have HI := zck bx Bx mx cx zx wr (hrx.later hl3) (by have := HM4.out.2; omega)
       rw [hi0, hiv] at HI
       have HRT := Lib.hid (fun w => zcn zx w)
       rw [decide_eq_true hr] at HRT
       have hjI : (i : Int) < (m : Int) := by omega
       have hj0 : (0 : Int) ≤ (i : Int) := by omega
       have wj : wrap64 ((i : Int) + 1) = (i : Int) + 1 := IntWalk.wrap64_in _ (by have := HM4.out.1; omega)
       have HJ := Lib.hid him
       have HE0 := Lib.hid e0
       have c1 := e1 wr hl3
       have c2 := e2 wr hl3
       clear hr hst hi0 hiv hx hg him hi e0 e1 e2 hmx hrx
       as_aux_lemma =>
       go_wp2_with fail
       refine HI.mono ?_
       rintro e w2 ⟨rfl, m2⟩
       have M2 := hl3.trans m2
       have hown2 := hown.later m2
       clear HI c1 c2 hown
       go_wp2_with fail
       refine (HRT.out w2).mono ?_
       rintro e w3 ⟨rfl, rfl⟩
       clear HRT
       have c0 := HE0.out _ M2
       have hsz4 := M2.size
       by_cases hzz : zx = 0
       ·as_aux_lemma =>
        subst hzz
        have hout2 := hout.out
        rw [if_pos rfl, List.append_nil] at hout2
        rw [← hout2] at hown2
        clear hout hout2 c0
        go_wp2
        go_roundw
        case rel => exact ⟨i + 1, HJ.out, by first | exact zac i | (rw [wj]; exact zac i), hown2, M2⟩
        case measure => first | exact zar HJ.out | (rw [wj]; exact zar HJ.out)
       ·as_aux_lemma =>
        have hzB : ((zx : Int) != 0) = true := by simp [hzz]
        have hout2 := hout.out
        rw [if_neg hzz] at hout2
        have HO2 : Hid (zab (zb7 (S.take (i + 1))) = zab (zb7 (S.take i)) ++ [[.int .i64 zx, .int .i64 (ux : Nat)]]) := by
         show _ = _
         rw [hout2]
         simp [zab, zji]
        have hownA := hown2.later (Lat.alloc w3 (.cells #[.int .i64 zx, .int .i64 (ux : Nat)] 72))
        clear hout hout2 hzz hown2
        go_wp2_with (at_builtin; refine zaR rfl _ _ 27 (by rfl) V3.heap.size 72 72 (.agg #[.int .i64 0, .int .i64 0]) 2 16 Tryz.underlying27 zaS rfl (by decide) (by decide) _ _ [.int .i64 zx, .int .i64 (ux : Nat)] (by simp [Value.oneCell']) _ w3.heap.size (by rfl) hownA (Blk.new _ _ _) rfl 1 (by rfl) hol.out (by simp; omega) ?_; intro v' w' h1 h2 h3)
        have L9 := h3 V3 (M2.trans (Lat.alloc _ _)) (Nat.le_refl _)
        rw [← HO2.out] at h1
        clear h2 h3 hownA c0
        go_roundw
        case rel => exact ⟨i + 1, HJ.out, by first | exact zac i | (rw [wj]; exact zac i), h1, L9⟩
        case measure => first | exact zar HJ.out | (rw [wj]; exact zar HJ.out)
      ·obtain rfl : i = m := by omega
       have hgi : ¬ (i : Int) < (i : Int) := Int.lt_irrefl _
       have hST : S.take i = S := List.take_of_length_le (by have := HSL.out; omega)
       rw [hST, ← HML.out] at hown
       obtain ⟨A9, c9, rfl, _⟩ := hown.form
       rw [zam] at hown ⊢
       have h9 := H200.out
       have h9I : ¬ (200 : Int) < ((zaJ l).length : Int) := by omega
       have HF := Lib.hid (hown.base hl.size)
       have LF := Lib.hid (hl.trans hl3)
       clear hown hST hi him hl3 h9
       as_aux_lemma =>
       go_wp2
       go_ret2
       exact ⟨_, rfl, HF.out, LF.out⟩
def zm3 (x : Int × Int) : List Value := [.int .i16 x.1, .int .i16 x.2]
def zm4 (z : Int) : Int := if z < 0 then -z else z
def dT (x : Int × Int) : Int × Int := (x.1.tmod 100, (zm4 x.2).tmod 300)
def znJ (x : Int × Int) : Prop := -32768 ≤ x.1 ∧ x.1 ≤ 32767 ∧ -32768 ≤ x.2 ∧ x.2 ≤ 32767
def za9 (m : Nat) (ds : List (Int × Int)) : List (Int × Int) := (ds.take m).map dT
theorem zk7 (z m : Int) (hm : 0 < m) : -(m - 1) ≤ z.tmod m ∧ z.tmod m ≤ m - 1 := by
 have h1 := Int.tmod_lt_of_pos z hm
 have h2 := Int.lt_tmod_of_pos z hm
 omega
theorem zow (x : Int × Int) : -99 ≤ (dT x).1 ∧ (dT x).1 ≤ 99 ∧ 0 ≤ (dT x).2 ∧ (dT x).2 < 300 := by
 have h1 := zk7 x.1 100 (by decide)
 have h2 := zk7 (zm4 x.2) 300 (by decide)
 have h3 : 0 ≤ (zm4 x.2).tmod 300 := Int.tmod_nonneg _ (by unfold zm4; split <;> omega)
 unfold dT
 simp only
 omega
theorem zg2 {m : Nat} (hm : m ≤ 6) (ds : List (Int × Int)) : zal (za9 m ds) = 0 := by
 refine (zfi ?_ ?_).1
 ·unfold za9; rw [List.length_map, List.length_take]; omega
 ·intro x hx
  obtain ⟨y, _, rfl⟩ := List.mem_map.1 hx
  exact zow y
theorem znK {w : World} {A : Option Addr} {n k : Nat} {ds : List (Int × Int)} (h : RowM w A 2 n (ds.map zm3)) (hk : k < n) : ∃ g o x, A = some ⟨g, o, none⟩ ∧ g < w.heap.size ∧ ds[k]? = some x ∧ w.cell? ⟨g, o + k * 2, none⟩ = some (.int .i16 x.1) ∧ w.cell? ⟨g, o + k * 2 + 1, none⟩ = some (.int .i16 x.2) := by
 obtain ⟨g, o, y, hA, hg, hy, _, hc⟩ := h.at hk
 have hl : k < ds.length := by have := h.1; rw [List.length_map] at this; omega
 rw [List.getElem?_map, List.getElem?_eq_getElem hl] at hy
 cases hy
 exact ⟨g, o, _, hA, hg, List.getElem?_eq_getElem hl, by simpa using hc 0 _ rfl, by simpa using hc 1 _ rfl⟩
def zmm (w : World) (m : Nat) (ds : List (Int × Int)) (e : Ending) (w' : World) : Prop :=
 ∃ v, e = .returned v ∧ OwnM w' w.heap.size 72 2 v (zab (zaJ (za9 m ds))) ∧ Lat w w'
theorem zmn (A : Option Addr) (n c : Nat) (ds : List (Int × Int)) (m : Nat) (w : World) (hs : RowM w A 2 n (ds.map zm3)) (h16 : ∀ x ∈ ds, znJ x) (hm : m ≤ 6) :
  Calls Tryz.prog 32 #[.agg #[.slice A n c], .int .i64 (m : Nat)] w (zmm w m ds) := by
 have HS := Lib.hid hs
 have H16 := Lib.hid h16
 have HM := Lib.hid hm
 have HLD : Hid (ds.length = n) := by have := hs.1; rw [List.length_map] at this; exact this
 clear hs h16 hm
 go_enter Tryz.func32, Tryz.ntmps32
 go_upto_region 1 with (fail)
 refine zas (Q := fun W => Code.wp _ _ _ _ W) ?_
 intro W1 l1 s1 k5
 obtain ⟨g5, hg5⟩ : ∃ z, w.heap.size = z := ⟨_, rfl⟩
 rw [hg5] at k5 s1 ⊢
 have HG5 := Lib.hid hg5
 have L1 := Lib.hid l1
 clear hg5 l1
 go_wp2
 go_loopw [5, 6] (fun lv iv wr => ∃ k : Nat, k ≤ n ∧ k ≤ m ∧ iv = .int .i64 (k : Nat) ∧ OwnM wr W1.heap.size 72 2 lv (zab (za9 k ds)) ∧ Lat W1 wr) (fun _ iv _ => m - (RowKit.intOf iv).toNat)
 case atStart => exact ⟨0, Nat.zero_le _, Nat.zero_le _, rfl, by simpa [za9, zab] using OwnM.nil _ _ _ _, Lat.refl _⟩
 case round =>
  obtain ⟨k, hk, hkm6, rfl, hown, hl⟩ := hrel
  have k6 := k5.later hl
  have d0 := k6.cell 0
  have hsz := hl.size
  by_cases hkn : k < n
  ·by_cases hkm : k < m
   ·obtain ⟨g, o, x, rfl, hg, hx, c0, c1⟩ := znK (HS.out.later (L1.out.trans hl)) hkn
    have hx16 := H16.out x (List.mem_of_getElem? hx)
    have hdt : Hid (zab (za9 (k + 1) ds) = zab (za9 k ds) ++ [[.int .i64 (dT x).1, .int .i64 (dT x).2]]) := by
     show _ = _
     obtain ⟨h1, h2⟩ := List.getElem?_eq_some_iff.1 hx
     unfold za9
     rw [List.take_succ_eq_append_getElem h1, h2]
     simp [zab, zji]
    obtain ⟨a1, a2, a3, a4⟩ := hx16
    obtain ⟨t, u⟩ := x
    simp only at c0 c1 a1 a2 a3 a4
    unfold dT at hdt
    simp only at hdt
    have hkI : (k : Int) < (n : Int) := by omega
    have hkI2 : (k : Int) < (m : Int) := by omega
    have hk0 : (0 : Int) ≤ (k : Int) := by omega
    have hk3 := HM.out
    have hk3b : (k : Int) < 6 := by omega
    have HK : Hid (k + 1 ≤ n ∧ k + 1 ≤ m) := ⟨hkn, hkm⟩
    have hol : Hid ((zab (za9 k ds)).length ≤ 100000000) := by
     show _ ≤ _
     rw [zam]
     unfold za9
     rw [List.length_map, List.length_take]
     omega
    have ht0 : -9223372036854775808 ≤ t ∧ t ≤ 9223372036854775807 := by omega
    have hu0 : -9223372036854775808 ≤ u ∧ u ≤ 9223372036854775807 := by omega
    have hn0 : -9223372036854775808 ≤ -u ∧ -u ≤ 9223372036854775807 := by omega
    have hk9 : -9223372036854775808 ≤ (k : Int) + 1 ∧ (k : Int) + 1 ≤ 9223372036854775807 := by omega
    have wt : IntKind.i64.wrap t = t := IntWalk.i64_in _ ht0
    have wu : IntKind.i64.wrap u = u := IntWalk.i64_in _ hu0
    have wk : wrap64 ((k : Int) + 1) = (k : Int) + 1 := IntWalk.wrap64_in _ hk9
    have wn : wrap64 (-u) = -u := IntWalk.wrap64_in _ hn0
    clear ht0 hu0 hn0 hk9
    obtain ⟨p, hp⟩ : ∃ p, t.tmod 100 = p := ⟨_, rfl⟩
    obtain ⟨r, hr⟩ : ∃ r, u.tmod 300 = r := ⟨_, rfl⟩
    by_cases hu : u < 0
    ·have hda : zm4 u = -u := by unfold zm4; rw [if_pos hu]
     have hnt : (-u).tmod 300 = -(u.tmod 300) := Int.neg_tmod _ _
     rw [hda, hnt, hp, hr] at hdt
     clear hda hnt
     have hownA := hown.later (Lat.alloc wr (.cells #[.int .i64 p, .int .i64 (-r)] 72))
     clear hown hx hg
     as_aux_lemma =>
     go_wp2_with (at_builtin; refine zaR rfl _ _ 22 (by rfl) W1.heap.size 72 72 (.agg #[.int .i64 0, .int .i64 0]) 2 16 Tryz.underlying22 zaS rfl (by decide) (by decide) _ _ [.int .i64 p, .int .i64 (-r)] (by simp [Value.oneCell']) _ wr.heap.size (by rfl) hownA (Blk.new _ _ _) rfl 1 (by rfl) hol.out (Nat.le_trans hsz (Lat.alloc _ _).size) ?_; intro v' w' h1 h2 h3; clear wt wu wn hp hr c0 c1)
     have L9 := h3 W1 (hl.trans (Lat.alloc _ _)) (Nat.le_refl _)
     rw [← hdt.out] at h1
     clear h2 h3 hownA d0
     go_roundw
     case rel => exact ⟨k + 1, HK.out.1, HK.out.2, by first | exact zac k | (rw [wk]; exact zac k), h1, L9⟩
     case measure => first | exact zar HK.out.2 | (rw [wk]; exact zar HK.out.2)
    ·have hda : zm4 u = u := by unfold zm4; rw [if_neg hu]
     rw [hda, hp, hr] at hdt
     clear hda
     have hownA := hown.later (Lat.alloc wr (.cells #[.int .i64 p, .int .i64 r] 72))
     clear hown hx hg
     as_aux_lemma =>
     go_wp2_with (at_builtin; refine zaR rfl _ _ 22 (by rfl) W1.heap.size 72 72 (.agg #[.int .i64 0, .int .i64 0]) 2 16 Tryz.underlying22 zaS rfl (by decide) (by decide) _ _ [.int .i64 p, .int .i64 r] (by simp [Value.oneCell']) _ wr.heap.size (by rfl) hownA (Blk.new _ _ _) rfl 1 (by rfl) hol.out (Nat.le_trans hsz (Lat.alloc _ _).size) ?_; intro v' w' h1 h2 h3; clear wt wu wn hp hr c0 c1)
     have L9 := h3 W1 (hl.trans (Lat.alloc _ _)) (Nat.le_refl _)
     rw [← hdt.out] at h1
     clear h2 h3 hownA d0
     go_roundw
     case rel => exact ⟨k + 1, HK.out.1, HK.out.2, by first | exact zac k | (rw [wk]; exact zac k), h1, L9⟩
     case measure => first | exact zar HK.out.2 | (rw [wk]; exact zar HK.out.2)
   ·have hkI : (k : Int) < (n : Int) := by omega
    have hkI2 : ¬ (k : Int) < (m : Int) := by omega
    have hT : za9 k ds = za9 m ds := by rw [show k = m by omega]
    rw [hT] at hown
    obtain ⟨A7, c7, rfl, r7, _⟩ := hown.form
    have hde := zg2 HM.out ds
    rw [zam] at r7 ⊢
    have HMK := Lib.hid (zfq A7 _ c7 _ wr r7 hde)
    obtain ⟨q, hq⟩ : ∃ q, (za9 m ds).length = q := ⟨_, rfl⟩
    rw [hq] at HMK ⊢
    have LL := Lib.hid (L1.out.trans hl)
    clear hkm hkn hown hT r7 hde hq hk hkm6 hsz k5 k6
    as_aux_lemma =>
    go_wp2_with fail
    refine HMK.out.mono ?_
    rintro e w5 ⟨v5, rfl, o5, l5⟩
    have HO5 := Lib.hid (o5.base LL.out.size)
    have LF := Lib.hid (LL.out.trans l5)
    clear o5 l5 HMK LL hl d0
    go_wp2
    go_ret
    exact ⟨_, rfl, HO5.out, LF.out⟩
  ·have hkI : ¬ (k : Int) < (n : Int) := by omega
   have hT : za9 k ds = za9 m ds := by
    unfold za9
    rw [List.take_of_length_le (by have := HLD.out; omega), List.take_of_length_le (by have := HLD.out; omega)]
   rw [hT] at hown
   obtain ⟨A7, c7, rfl, r7, _⟩ := hown.form
   have hde := zg2 HM.out ds
   rw [zam] at r7 ⊢
   have HMK := Lib.hid (zfq A7 _ c7 _ wr r7 hde)
   obtain ⟨q, hq⟩ : ∃ q, (za9 m ds).length = q := ⟨_, rfl⟩
   rw [hq] at HMK ⊢
   have LL := Lib.hid (L1.out.trans hl)
   clear hkn hown hT r7 hde hq hk hkm6 hsz k5 k6
   as_aux_lemma =>
   go_wp2_with fail
   refine HMK.out.mono ?_
   rintro e w5 ⟨v5, rfl, o5, l5⟩
   have HO5 := Lib.hid (o5.base LL.out.size)
   have LF := Lib.hid (LL.out.trans l5)
   clear o5 l5 HMK LL hl d0
   go_wp2
   go_ret
   exact ⟨_, rfl, HO5.out, LF.out⟩
def zf7 (w : World) (N : Nat) (L : List (Int × Int)) (e : Ending) (w' : World) : Prop :=
 ∃ A c, e = .returned (.tuple #[.slice A N c, .int .i64 0]) ∧ RowM w' A 2 N (zab L) ∧ Lat w w'
def zmo (w : World) (N : Nat) (L : List (Int × Int)) (e : Ending) (w' : World) : Prop :=
 ∃ A c, e = .returned (.slice A N c) ∧ RowM w' A 2 N (zab L) ∧ Lat w w'
theorem zbT {w : World} {B N : Nat} {E : TypeId} {v : Value} {L : List (Int × Int)} (h : OwnM w B E 2 v (zab L)) (hN : L.length = N) : ∃ A c, v = .slice A N c ∧ RowM w A 2 N (zab L) := by
 obtain ⟨A, c, rfl, r, _⟩ := h.form
 rw [zam, hN] at r ⊢
 exact ⟨A, c, rfl, r⟩
theorem ziA {A : Option Addr} {n c N : Nat} {l L : List (Int × Int)} {w : World} (hs : RowM w A 2 n (zab l)) (he : zal l = 0) (hL : zaJ l = L) (hN : L.length = N) :
  Calls Tryz.prog 17 #[.slice A n c] w (zf7 w N L) := by
 refine (zfU A n c l w hs).mono ?_
 rintro e w' ⟨v, rfl, o, hl⟩
 rw [he]
 rw [zc7 he, hL] at o
 obtain ⟨A', c', rfl, r⟩ := zbT o hN
 exact ⟨A', c', rfl, r, hl⟩
theorem znL {A0 A1 : Option Addr} {n0 c0 n1 c1 N : Nat} {a b L : List (Int × Int)} {w : World} (h0 : RowM w A0 2 n0 (zab a)) (h1 : RowM w A1 2 n1 (zab b)) (va : ValidR a) (vb : ValidR b) (he : zal (a ++ b) = 0) (hL : zaJ (a ++ b) = L) (hN : L.length = N) :
  Calls Tryz.prog 20 #[.slice A0 n0 c0, .slice A1 n1 c1] w (zf7 w N L) := by
 refine (zk0 A0 A1 n0 c0 n1 c1 a b w h0 h1 va vb).mono ?_
 rintro e w' ⟨v, rfl, o, hl⟩
 rw [he]
 rw [zc7 he, hL] at o
 obtain ⟨A', c', rfl, r⟩ := zbT o hN
 exact ⟨A', c', rfl, r, hl⟩
theorem zk8 {A : Option Addr} {n c N : Nat} {l L : List (Int × Int)} {s : Int} {w : World} (hs0 : -9223372036854775808 ≤ s) (hs1 : s < 9223372036854775808) (hs : RowM w A 2 n (zab l)) (hv : ValidR l) (he : zdO l s = 0) (hL : zbI l s = L) (hN : L.length = N) :
  Calls Tryz.prog 21 #[.slice A n c, .int .i64 s] w (zf7 w N L) := by
 refine (zen A n c l s hs0 hs1 w hs hv).mono ?_
 rintro e w' ⟨v, rfl, o, hl⟩
 have h0 : zdI l s = 0 := by unfold zdI; rw [if_pos (zaG hv), he]
 have h1 : scR l s = L := by unfold scR; rw [if_pos h0, hL]
 rw [h0]
 rw [h1] at o
 obtain ⟨A', c', rfl, r⟩ := zbT o hN
 exact ⟨A', c', rfl, r, hl⟩
theorem zk9 {A A' : Option Addr} {n c c' : Nat} {a : List (Int × Int)} {w : World} (hs : RowM w A 2 n (zab a)) (ks : RowM w A' 2 n (zab a)) (hn : n ≤ 1000000) :
  Calls Tryz.prog 56 #[.slice A n c, .slice A' n c'] w (fun e w' => e = .returned (.bool true) ∧ Lat w w') := by
 have := zl2 A n c a A' n c' a w hs ks hn
 rwa [decide_eq_true rfl] at this
theorem zla {A : Option Addr} {n c N : Nat} {ds L : List (Int × Int)} {w : World} (hs : RowM w A 2 n (ds.map zm3)) (h16 : ∀ x ∈ ds, znJ x) (hL : zaJ (za9 6 ds) = L) (hN : L.length = N) :
  Calls Tryz.prog 8 #[.agg #[.slice A n c]] w (zmo w N L) := by
 have HS := Lib.hid (fun w' (l : Lat w w') => zmn A n c ds 6 w' (hs.later l) h16 (by decide))
 have HN := Lib.hid hN
 have HL := Lib.hid hL
 clear hs h16 hN hL
 go_enter Tryz.func8, Tryz.ntmps8
 go_wp2_with fail
 refine (HS.out _ (Lat.alloc _ _)).mono ?_
 rintro e w2 ⟨v, rfl, o, l2⟩
 rw [HL.out] at o
 have LF := Lib.hid ((Lat.alloc w (.cells #[.slice A n c] 25)).trans l2)
 obtain ⟨A', c', rfl, r⟩ := zbT o HN.out
 have R := Lib.hid r
 clear o r l2 HS
 go_wp2
 go_ret
 exact ⟨A', c', rfl, R.out, LF.out⟩
end Go.Proofs.YtpmbglhbcjbkcaaGreat
