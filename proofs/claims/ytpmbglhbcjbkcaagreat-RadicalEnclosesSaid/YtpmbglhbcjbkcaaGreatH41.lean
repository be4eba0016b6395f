/- Several texts in one: RdF, RdS. -/
import Derived.Deep.DeepCutAuto
import Derived.Test.YtpmbglhbcjbkcaaGreatH34
namespace Go.Proofs.YtpmbglhbcjbkcaaGreat
set_option maxHeartbeats 16000000
set_option maxRecDepth 100000
open Go.RowKit
set_option linter.unusedSimpArgs false
set_option linter.unusedVariables false
theorem zfp (A : Option Addr) (n c : Nat) (z : Int) (w : World) (h : Rg w false A n c z) (hn : n ≤ 100000) :
  Calls Tryz.prog 71 #[.agg #[.bool false, .slice A n c]] w (RefPost w (rtZ z) (n + 1)) := by
 obtain ⟨hnc, xs, hs, hx, hz, _, hv⟩ := h
 simp only [sgn, Bool.false_eq_true, if_false] at hv
 subst hv
 have hlen := hs.1
 obtain ⟨m, hm⟩ : ∃ m, (n + 1) / 2 = m := ⟨_, rfl⟩
 have hq : ((n : Int) + 1).tdiv 2 = (m : Int) := by rw [Int.tdiv_eq_ediv_of_nonneg (by omega)]; omega
 have w1 : wrap64 ((n : Int) + 1) = (n : Int) + 1 := IntWalk.wrap64_in _ (by omega)
 have w2 : wrap64 (m : Int) = (m : Int) := IntWalk.wrap64_in _ (by omega)
 have w3 : wrap64 ((m : Int) - 1) = (m : Int) - 1 := IntWalk.wrap64_in _ (by omega)
 have hmk := zav (P := Tryz.prog) Tryz.underlying77 zaF (m : Int) m rfl (by omega) (by omega)
 have hst : Hid (FlrOut (val B32 xs) m m (List.replicate m 0)) := FlrOut.start (L := n) (zaj zak hx) (by rw [← hlen]; exact zcV zak hx) (by omega)
 have HS := Lib.hid hs
 have HX := Lib.hid hx
 have HZ := Lib.hid hz
 have HN := Lib.hid hn
 have HM := Lib.hid hm
 clear hs hx hz hn hm hlen
 go_enter Tryz.func71, Tryz.ntmps71
 go_upto_region 3 with (fail)
 refine za0 (Q := fun W => Code.wp _ _ _ _ W) ?_
 intro W hl hsz k1 k2 k3
 clear hmk
 obtain ⟨g1, hg1⟩ : ∃ z, w.heap.size = z := ⟨_, rfl⟩
 rw [hg1] at k1 k2 k3 hsz ⊢
 have HG := Lib.hid hg1
 clear hg1 hsz
 go_wp2
 have HW3 := Lib.hid w3
 clear w1 w2 w3 hq
 go_loopw [5] (fun i wr => ∃ (j : Nat) (os : List Int), j ≤ m ∧ i = .int .i64 ((j : Int) - 1) ∧ Hid (FlrOut (val B32 xs) m j os) ∧ Blk wr g1 79 #[.bool false, .slice A n c] ∧ Blk wr (g1 + 1) 79 #[.bool false, .slice none 0 0] ∧ Blk wr (g1 + 1 + 1) 3 (nums .i64 os) ∧ Lat w wr) (fun i _ => (intOf i + 1).toNat)
 case atStart => exact ⟨m, _, Nat.le_refl _, by rw [HW3.out], hst, k1, k2, k3, hl⟩
 case round =>
  clear k1 k2 k3 hl hst
  obtain ⟨j, os, hj, rfl, hF, k1, k2, k3, hl⟩ := hrel
  rcases Nat.eq_zero_or_pos j with rfl | hp
  ·have hd := Lib.hid hF.out.done
   have hlo := hF.out.1
   have HR := Lib.hid hF.out.2.1
   go_wp2_with fail
   refine (zbr false (some ⟨g1 + 1 + 1, 0, none⟩) m m wr os (Sl.of_blk' k3 hlo) HR.out (Nat.le_refl _) (by have := HN.out; have := HM.out; omega)).mono ?_
   rintro e w5 ⟨b, A5, n5, c5, rfl, q1, q2, q3⟩
   have K2 := k2.later q3
   have L := hl.trans q3
   have c0 := K2.cell 0
   have c1 := K2.cell 1
   have f0 := K2.frozen 0
   have f1 := K2.frozen 1
   clear k1 k2 k3 hl q3 hlo
   go_wp2
   refine bodyPost_ret (v := .agg #[.bool b, .slice A5 n5 c5]) (by simp [results, Tryz.results71, go_sem, c0, c1]) rfl ?_
   have hh := RefPost.close K2 q1 L (by have := HG.out; omega) (show n5 ≤ n + 1 by have := HM.out; omega)
   rw [hd.out]
   simpa [sgn] using hh
  ·obtain ⟨i, rfl⟩ : ∃ i, j = i + 1 := ⟨j - 1, by omega⟩
   have ej : (((i + 1 : Nat) : Int) - 1) = (i : Int) := by omega
   rw [ej]
   have hI := Lib.hid hF.out.open_
   have hiI : (i : Int) < (m : Int) := by omega
   have hi0 : (0 : Int) ≤ (i : Int) := by omega
   have wi : wrap64 ((i : Int) - 1) = (i : Int) - 1 := IntWalk.wrap64_in _ (by have := HM.out; have := HN.out; omega)
   have HJ := Lib.hid hj
   clear ej hF hp hj
   obtain ⟨wo, rfl⟩ : ∃ wo : World, wo = wr := ⟨_, rfl⟩
   go_wp2
   go_loopw [6] (fun kv wr => ∃ (kk : Nat) (os : List Int), kk ≤ 32 ∧ kv = .int .i64 ((kk : Int) - 1) ∧ Hid (FlrInv (val B32 xs) m i kk os) ∧ Blk wr g1 79 #[.bool false, .slice A n c] ∧ Blk wr (g1 + 1) 79 #[.bool false, .slice none 0 0] ∧ Blk wr (g1 + 1 + 1) 3 (nums .i64 os) ∧ Lat w wr) (fun kv _ => (intOf kv + 1).toNat)
   case atStart => exact ⟨32, os, Nat.le_refl _, rfl, hI, k1, k2, k3, hl⟩
   case round =>
    clear k1 k2 k3 hl hI
    obtain ⟨kk, os, hkk, rfl, hI, k1, k2, k3, hl⟩ := hrel
    rcases Nat.eq_zero_or_pos kk with rfl | hkp
    ·have hc := Lib.hid hI.out.close
     go_wp2
     go_roundw
     case rel => exact ⟨i, os, Nat.le_of_succ_le HJ.out, by rw [wi], hc, k1, k2, k3, hl⟩
     case measure => rw [wi]; exact zel i
    ·obtain ⟨k, rfl⟩ : ∃ k, kk = k + 1 := ⟨kk - 1, by omega⟩
     have hk32 : k < 32 := by omega
     have hk64 : k < 64 := by omega
     have ek : (((k + 1 : Nat) : Int) - 1) = (k : Int) := by omega
     rw [ek]
     have wk : wrap64 ((k : Int) - 1) = (k : Int) - 1 := IntWalk.wrap64_in _ (by omega)
     have hlo := hI.out.1
     obtain ⟨d, hd⟩ : ∃ d, os[i]? = some d := ⟨os[i]'(by omega), List.getElem?_eq_getElem (by omega)⟩
     obtain ⟨n1, n2, n3, n4⟩ := hI.out.next (by omega) hd
     obtain ⟨p, hp⟩ : ∃ p, p = (2 : Int) ^ k := ⟨_, rfl⟩
     have hp0 : 0 < p := by rw [hp]; exact two_pow_pos k
     have hpk : (2 : Int) ^ k = p := hp.symm
     rw [← hp] at n2 n3 n4
     have hB : B32 = 4294967296 := rfl
     rw [hB] at n2
     have wd : wrap64 (d + p) = d + p := IntWalk.wrap64_in _ (by omega)
     have wp : wrap64 p = p := IntWalk.wrap64_in _ (by omega)
     have wd' : IntKind.i64.wrap (d + p) = d + p := IntWalk.i64_in _ (by omega)
     have wp' : IntKind.i64.wrap p = p := IntWalk.i64_in _ (by omega)
     have ws' : IntKind.i64.wrap (d + p - p) = d := by rw [show d + p - p = d by omega]; exact IntWalk.i64_in _ (by omega)
     have ws : wrap64 (d + p - p) = d := by rw [show d + p - p = d by omega]; exact IntWalk.wrap64_in _ (by omega)
     have HP := Lib.hid hp
     have HD := Lib.hid hd
     have HN4 := Lib.hid n4
     have ho : wr.cell? ⟨g1 + 1 + 1, i, none⟩ = some (.int .i64 d) := (k3.cell i).trans (zbO hd)
     have hfo := k3.frozen i
     clear ek hkp hp n1 n2 n3 n4 hB hd
     go_wp2
     go_still_tail 10, (by kernel_rfl)
     change wpList _ _ _ _ _ wr.drew
     go_upto_region 10 with (fail)
     have k3d : Blk wr.drew (g1 + 1 + 1) 3 (nums .i64 os) := k3
     refine zdK (Q := fun W => Code.wp _ _ _ _ W) k3d ?_
     intro V kV fV sV lV
     rw [zfx] at kV
     have g12 : g1 ≠ g1 + 1 + 1 := by omega
     have g22 : g1 + 1 ≠ g1 + 1 + 1 := by omega
     have k1V : Blk V g1 79 #[.bool false, .slice A n c] := (fV _ g12).trans k1
     have k2V : Blk V (g1 + 1) 79 #[.bool false, .slice none 0 0] := (fV _ g22).trans k2
     have LV : Lat w V := lV.narrow (hl.trans (Lat.drew wr)) (by have := HG.out; omega)
     obtain ⟨os', hos'⟩ : ∃ z, os.set i (d + p) = z := ⟨_, rfl⟩
     have hlo' : os'.length = m := by rw [← hos', List.length_set]; exact hlo
     have HOS := Lib.hid hos'
     have HN4' : Hid (InR B32 os') := by rw [← hos']; exact HN4.out
     rw [hos'] at kV
     have HLO := Lib.hid hlo
     have HLO' := Lib.hid hlo'
     have slV := Sl.of_blk' kV hlo'
     have HW := Lib.hid (⟨ws, ws', wk, hk32⟩ : wrap64 (d + p - p) = d ∧ IntKind.i64.wrap (d + p - p) = d ∧ wrap64 ((k : Int) - 1) = (k : Int) - 1 ∧ k < 32)
     have HWP := Lib.hid wp'
     clear k1 k2 k3 k3d fV sV lV hl ho hfo wd wp wd' wp' ws ws' hos' hlo hlo' HN4 g12 g22
     go_wp2_with (at_builtin; refine zcI rfl _ _ 77 rfl V.heap.size 3 .i64 8 Tryz.underlying77 zaF (by decide) _ [] os' _ (by rfl) (Own.made (Blk.new _ _ _) (Nat.le_refl _)) (some ⟨g1 + 1 + 1, 0, none⟩) m m (by rfl) (slV.later (Lat.alloc _ _)) (by have := HM.out; have := HN.out; simp; omega) (by simp) ?_; intro v' x1 hown1 hlat1)
     obtain ⟨A3, c3, rfl, hs3, hc3, hnew⟩ := hown1.form
     have l1 := hlat1 V (Lat.alloc _ _) (Nat.le_refl _)
     rw [List.nil_append] at hs3 hc3
     clear hown1 hlat1 hnew slV
     have hl3 : os'.length ≤ 3000000 := by have := HLO'.out; have := HM.out; have := HN.out; omega
     go_wp2_with fail
     refine (zcH A3 _ c3 x1 os' hs3 hc3 hl3).mono ?_
     rintro e x2 ⟨q, rfl, q1, q2, q3, q4, q5⟩
     have l2 := l1.trans q5
     have k1X := k1V.later l2
     have e1 := k1X.ever (i := 1) rfl
     have L0 := Lat.drew x2
     have sA := HS.out.later (LV.trans l2)
     have hq : q ≤ 1000000 := by have := HLO'.out; have := HM.out; have := HN.out; omega
     have Q3 := Lib.hid q3
     have Q2 := Lib.hid q2
     have HIT := Lib.hid (HN4'.out.take q)
     have hpr : Hid (∀ y, Lat x2 y → Calls Tryz.prog 74 #[.slice A3 q c3, .slice A3 q c3] y (zfJ y (val B32 os' * val B32 os') (q + q))) := fun y hy => by
      have h := zd3 A3 q c3 (os'.take q) A3 q c3 (os'.take q) y (q1.later hy) (q1.later hy) HIT.out HIT.out hq hq
      rwa [Q3.out] at h
     have hor : Hid (∀ A4 n4 c4 zs y, Lat x2 y → Sl y .i64 A4 n4 zs → InR B32 zs → Nz zs → val B32 zs = val B32 os' * val B32 os' → n4 ≤ 1000000 → Calls Tryz.prog 110 #[.slice A4 n4 c4, .slice A n c] y (OrdPost y (val B32 os' * val B32 os') (val B32 xs))) := fun A4 n4 c4 zs y hy h1 h2 h3 h4 h5 => by
      have h := zbG A4 n4 c4 zs A n c xs y h1 (sA.later hy) h2 HX.out h3 HZ.out h5 (by have := HN.out; omega)
      rwa [h4] at h
     have hq2 : q + q ≤ 1000000 := by have := HLO'.out; have := HM.out; have := HN.out; omega
     have HQ2 := Lib.hid hq2
     have L2 := LV.trans l2
     have k2X := k2V.later l2
     have k3X := kV.later l2
     clear q2 q3 q4 q5 l1 hs3 hc3 q1 sA hq hq2 Q2 Q3 HIT k1V k2V kV LV l2
     go_upto_region 11 with (fail)
     go_region_held3 (fun w' => Lat x2 w') (first | (with_reducible assumption))
      (first
        | (go_at_call 74; refine (hpr.out _ L0).mono ?_; rintro e y1 ⟨A4, n4, c4, zs, rfl, p1, p2, p3, p4, p5, p6, p7, p8⟩; have L1 := L0.trans p7; have P4 := Lib.hid p4; have P6 := Lib.hid p6; clear p4 p6 hpr)
        | (go_at_call 110; refine (hor.out A4 n4 c4 zs _ L1 p1 p2 p3 P4.out (Nat.le_trans P6.out HQ2.out)).mono ?_; rintro e y2 ⟨r, rfl, o1, o2, o3, l3⟩; have L3 := L1.trans l3; clear hor p1 p2 p3 P4 P6 p5 p8 l3))
     have K1 := k1X.later L3
     have K2 := k2X.later L3
     have K3 := k3X.later L3
     have LY := L2.trans L3
     clear p7 L1 L0 e1 k1X k2X k3X L2
     by_cases hgt : val B32 xs < val B32 os' * val B32 os'
     ·as_aux_lemma =>
      have hr0 := o3 hgt
      have HNX : Hid (FlrInv (val B32 xs) m i k os) := by
       have h1 := hI.out
       refine h1.none_ (Int.ofNat_lt.1 hiI) HD.out ?_
       rw [← HP.out, HOS.out]; exact hgt
      clear o1 o2 o3 hgt hI
      obtain ⟨ws, ws', wk, hk32⟩ := HW.out
      have hk64 : k < 64 := Nat.lt_trans hk32 (by decide)
      have hgi : os'[i]? = some (d + p) := by
       rw [← HOS.out]
       exact List.getElem?_set_self (by have := HLO.out; omega)
      have ho : y2.cell? ⟨g1 + 1 + 1, i, none⟩ = some (.int .i64 (d + p)) := (K3.cell i).trans (zbO hgi)
      have hfo := K3.frozen i
      have wp' : IntKind.i64.wrap p = p := HWP.out
      clear hgi
      go_wp2
      go_still_tail 10, (by kernel_rfl)
      change wpList _ _ _ _ _ y2.drew
      go_upto_region 8 with (fail)
      have k3d : Blk y2.drew (g1 + 1 + 1) 3 (nums .i64 os') := K3
      refine zdK (Q := fun W => Code.wp _ _ _ _ W) k3d ?_
      intro V kV fV sV lV
      rw [zfx] at kV
      have g12 : g1 ≠ g1 + 1 + 1 := by omega
      have g22 : g1 + 1 ≠ g1 + 1 + 1 := by omega
      have k1V : Blk V g1 79 #[.bool false, .slice A n c] := (fV _ g12).trans K1
      have k2V : Blk V (g1 + 1) 79 #[.bool false, .slice none 0 0] := (fV _ g22).trans K2
      have LV : Lat w V := lV.narrow (LY.trans (Lat.drew y2)) (by have := HG.out; omega)
      have hback : os'.set i d = os := by
       rw [← HOS.out, List.set_set]
       exact zhZ HD.out
      have hwd : wrap64 d = d := by have h9 := ws; rwa [Int.add_sub_cancel] at h9
      first | rw [hback] at kV | rw [hwd, hback] at kV
      clear K1 K2 K3 k3d fV sV lV LY ho hfo g12 g22 hback
      go_wp2
      go_roundw
      case rel => exact ⟨k, os, Nat.le_of_lt hk32, by first | rfl | rw [wk], HNX, k1V, k2V, kV, LV⟩
      case measure => first | exact zel k | (rw [wk]; exact zel k)
     ·as_aux_lemma =>
      have hr0 : ¬ 0 < r := by
       rcases Int.lt_trichotomy (val B32 os' * val B32 os') (val B32 xs) with h | h | h
       ·have := o1 h; omega
       ·have := o2 h; omega
       ·exact absurd h hgt
      have HNX : Hid (FlrInv (val B32 xs) m i k os') := by
       have h1 := hI.out.some_ (Int.ofNat_lt.1 hiI) HD.out
       rw [← HP.out, HOS.out] at h1
       exact h1 (Int.not_lt.1 hgt)
      clear o1 o2 o3 hgt hI
      obtain ⟨ws, ws', wk, hk32⟩ := HW.out
      clear ws ws'
      go_wp2
      go_roundw
      case rel => exact ⟨k, os', Nat.le_of_lt hk32, by first | rfl | rw [wk], HNX, K1, K2, K3, LY⟩
      case measure => first | exact zel k | (rw [wk]; exact zel k)
theorem PtIn.pow {N p f n s m k n' : Nat} (h : PtAt N p f n s m) (e : n = p ^ k * n') (hN : 0 < N) : k < n ∧ 0 < n' ∧ n' ≤ n ∧ ∀ i, i ≤ k / 2 → s * p ^ i ≤ N := by
 have hi : PtIn N p n s m k n' (s * p ^ (k / 2)) := ⟨e, rfl⟩
 have hl := hi.le h hN
 have hp := h.two
 have h1 := zmW p k hp
 have h2 : p ^ k * 1 ≤ p ^ k * n' := Nat.mul_le_mul_left _ hl.1
 have h3 : 1 * n' ≤ p ^ k * n' := Nat.mul_le_mul_right _ (Nat.pow_pos (by omega))
 refine ⟨by omega, hl.1, by omega, fun i hik => Nat.le_trans ?_ hl.2.2.1⟩
 exact Nat.mul_le_mul_left _ (Nat.pow_le_pow_right (by omega) hik)
theorem PtAt.finR {N p f n s m : Nat} (h : PtAt N p f n s m) (h0 : 0 < N) (h1 : N ≤ 10000000000000) (hx : 21545 < p) :
  ∃ r rr S U : Nat, ((∀ w, Calls Tryz.prog 30 #[.int .i64 (n : Nat)] w (RefN w (n : Nat) 2)) ∧
   (∀ A1 n1 c1 w, Rg w false A1 n1 c1 (n : Nat) → n1 ≤ 2 → Calls Tryz.prog 71 #[.agg #[.bool false, .slice A1 n1 c1]] w (RefPost w (r : Nat) 3)) ∧
   (∀ b1 A1 n1 c1 w, Rg w b1 A1 n1 c1 (r : Nat) → n1 ≤ 3 → Calls Tryz.prog 31 #[.agg #[.bool b1, .slice A1 n1 c1]] w (fun e w' => e = .returned (.tuple #[.int .i64 (r : Nat), .int .i64 0]) ∧ Lat w w'))) ∧
   wrap64 ((r : Int) * (r : Int)) = (rr : Int) ∧ zbR N = S ∧ zbs N = U ∧
   ((rr = n ∧ wrap64 ((s : Int) * (r : Int)) = (S : Int) ∧ m = U) ∨ ((((rr : Nat) : Int) == ((n : Nat) : Int)) = false ∧ s = S ∧ wrap64 ((m : Int) * (n : Int)) = (U : Int))) := by
 have hl := h.le h0
 have hst := h.stop (by left; have := h.cnt; omega)
 have hle3 := zb6 h0
 have hrl := zno n
 have hn1 : n ≤ 10000000000000 := by omega
 have hrn0 : rt n ≤ n := by
  rcases Nat.eq_zero_or_pos (rt n) with h0 | h0
  ·omega
  ·have : rt n * 1 ≤ rt n * rt n := Nat.mul_le_mul_left _ h0
   omega
 refine ⟨rt n, rt n * rt n, zbR N, zbs N, ⟨fun w => ?_, fun A1 n1 c1 w h1 h2 => ?_, fun b1 A1 n1 c1 w h1 h2 => ?_⟩, zbz rfl (by omega), rfl, rfl, ?_⟩
 ·exact (zay (n : Int) w (by omega) (by omega)).mono fun e w' h => h.nonneg (by omega)
 ·have := zfp A1 n1 c1 (n : Int) w h1 (by omega)
  rw [zkq] at this
  refine this.mono ?_
  rintro e w' ⟨b, A, n', c, h3, h4, h5, h6⟩
  exact ⟨b, A, n', c, h3, h4, by omega, h6⟩
 ·have := zck b1 A1 n1 c1 (rt n : Nat) w h1 (by omega)
  unfold zeR zdM at this
  rw [if_pos (by omega), if_pos (by omega)] at this
  exact this
 ·unfold zh9 at hst
  by_cases hrn : rt n * rt n = n
  ·rw [if_pos hrn] at hst
   refine .inl ⟨hrn, zbz hst.1 (by omega), ?_⟩
   have := hst.2
   simp only [Nat.mul_one] at this
   exact this
  ·rw [if_neg hrn] at hst
   refine .inr ⟨?_, ?_, zbz hst.2 (by omega)⟩
   ·rw [beq_eq_false_iff_ne]
    intro e
    exact hrn (Int.ofNat.inj e)
   ·have := hst.1
    simp only [Nat.mul_one] at this
    exact this
theorem znI {N p f n s m k n' : Nat} (hP : PtAt N p (f + 1) n s m) (hI : n = p ^ k * n') (h0 : 0 < N) (h1 : N ≤ 10000000000000) (hd : n' % p ≠ 0) :
  ∃ h t : Nat, (k : Int).tdiv 2 = (h : Int) ∧ wrap64 (h : Int) = (h : Int) ∧ (k : Int).tmod 2 = (t : Int) ∧ wrap64 (t : Int) = (t : Int) ∧ h ≤ 10000000000000 ∧
   (∀ i s' : Nat, i < h → s' = s * p ^ i → ∃ s2 : Nat, wrap64 ((s' : Int) * (p : Int)) = (s2 : Int) ∧ s2 = s * p ^ (i + 1)) ∧
   (∀ s' : Nat, s' = s * p ^ h → (t = 0 ∧ PtAt N (p + 1) f n' s' m) ∨ (t = 1 ∧ ∃ m2 : Nat, wrap64 ((m : Int) * (p : Int)) = (m2 : Int) ∧ PtAt N (p + 1) f n' s' m2)) := by
 have hpw := PtIn.pow hP hI h0
 have hle := hP.le h0
 have hnx := hP.next (k := k) (s' := s * p ^ (k / 2)) ⟨hI, rfl⟩ hd
 refine ⟨k / 2, k % 2, zfS k 2, zc8 (by omega), zfR k 2, zc8 (by omega), by omega, fun i s' hi hs => ?_, fun s' hs => ?_⟩
 ·have h3 : s' * p = s * p ^ (i + 1) := by rw [hs, Nat.pow_succ, Nat.mul_assoc]
  have h4 := hpw.2.2.2 (i + 1) hi
  exact ⟨_, zbz h3 (by omega), rfl⟩
 ·rw [← hs] at hnx
  rcases Nat.mod_two_eq_zero_or_one k with h | h
  ·rw [h, Nat.pow_zero, Nat.mul_one] at hnx
   exact .inl ⟨h, hnx⟩
  ·rw [h, Nat.pow_one] at hnx
   have := (hnx.le h0).2.2.2.1
   exact .inr ⟨h, m * p, zbz rfl (by omega), hnx⟩
theorem zcQ (N : Nat) (w : World) (h0 : 0 < N) (h1 : N ≤ 10000000000000) :
  Calls Tryz.prog 27 #[.int .i64 (N : Nat)] w (fun e w' => e = .returned (.tuple #[.int .i64 (zbR N : Nat), .int .i64 (zbs N : Nat)]) ∧ Lat w w') := by
 have H0 := Lib.hid h0
 have H1 := Lib.hid h1
 clear h0 h1
 go_enter Tryz.func27, Tryz.ntmps27
 go_wp2
 go_loopw [4, 5, 6, 7] (fun v4 v5 v6 v7 wr => ∃ p f n s m : Nat, v4 = .int .i64 (s : Nat) ∧ v5 = .int .i64 (m : Nat) ∧ v6 = .int .i64 (n : Nat) ∧ v7 = .int .i64 (p : Nat) ∧ Hid (PtAt N p f n s m) ∧ wr = w) (fun _ _ _ p _ => 21546 - (intOf p).toNat)
 case atStart => exact ⟨2, 21544, N, 1, 1, rfl, rfl, rfl, rfl, PtAt.start H0.out, rfl⟩
 case round =>
  obtain ⟨p, f, n, s, m, rfl, rfl, rfl, rfl, hP, rfl⟩ := hrel
  have hle := hP.out.le H0.out
  have hcnt := hP.out.cnt
  have htwo := hP.out.two
  have hpos := hP.out.pos
  have hN := H1.out
  by_cases hgo : p ≤ 21545
  ·obtain ⟨f', rfl⟩ : ∃ f', f = f' + 1 := ⟨f - 1, by omega⟩
   have hpI : (p : Int) ≤ 21545 := by omega
   have hp0 : ¬ (p : Int) = 0 := by omega
   have hp0' : ¬ p = 0 := by omega
   have HN := Lib.hid hN
   have HL := Lib.hid hle
   have HC := Lib.hid hcnt
   have HT := Lib.hid htwo
   have HG := Lib.hid hgo
   clear hN hle hcnt htwo hpos hgo
   obtain ⟨wo, rfl⟩ : ∃ wo : World, wo = wr := ⟨_, rfl⟩
   go_wp2
   go_loopw [6, 8] (fun v6 v8 wr => ∃ k n' : Nat, v6 = .int .i64 (n' : Nat) ∧ v8 = .int .i64 (k : Nat) ∧ Hid (n = p ^ k * n') ∧ wr = wo) (fun n _ _ => (intOf n).toNat)
   case atStart => exact ⟨0, n, rfl, rfl, (by show n = _; simp), rfl⟩
   case round =>
    obtain ⟨k, n', rfl, rfl, hI, rfl⟩ := hrel
    have hpw := PtIn.pow hP.out hI.out H0.out
    have hm := zfR n' p
    have hq := zfS n' p
    obtain ⟨r, hr⟩ : ∃ z, n' % p = z := ⟨_, rfl⟩
    obtain ⟨q, hqe⟩ : ∃ z, n' / p = z := ⟨_, rfl⟩
    rw [hr] at hm
    rw [hqe] at hq
    have hqn : q ≤ n' := by rw [← hqe]; exact Nat.div_le_self _ _
    have hqw := zc8 (a := q) (by have := HN.out; have := HL.out; omega)
    have hkw : wrap64 ((k : Int) + 1) = (k : Int) + 1 := IntWalk.wrap64_in _ (by have := HN.out; have := HL.out; omega)
    have HR := Lib.hid hr
    have HQ := Lib.hid hqe
    have HPW := Lib.hid hpw
    clear hr hqe hqn hpw
    by_cases hr0 : r = 0
    ·as_aux_lemma =>
     subst hr0
     have hI2 : Hid (n = p ^ (k + 1) * q) := by
      have hd : n' = p * q := by rw [← HQ.out]; exact (Nat.mul_div_cancel' (Nat.dvd_of_mod_eq_zero HR.out)).symm
      show n = _
      rw [hI.out, Nat.pow_succ, Nat.mul_assoc, ← hd]
     have hlt : Hid (q < n') := by
      show q < n'
      rw [← HQ.out]; exact Nat.div_lt_self HPW.out.2.1 HT.out
     go_wp2
     go_roundw
     case rel => exact ⟨k + 1, q, by rw [hqw], by first | exact zac k | (rw [hkw]; exact zac k), hI2, by first | rfl | trivial⟩
     case measure => rw [hqw]; exact zns hlt.out
    ·as_aux_lemma =>
     obtain ⟨h, t, e1, e2, e3, e4, e5, e6, e7⟩ := znI hP.out hI.out H0.out H1.out (by rw [HR.out]; exact hr0)
     have hrI : ((r : Int) == 0) = false := by simpa using hr0
     have hrI2 : ¬ (r : Int) = 0 := by omega
     have hwp : wrap64 ((p : Int) + 1) = (p : Int) + 1 := IntWalk.wrap64_in _ (by have := HG.out; omega)
     have hplt : Hid (p < 21546) := Nat.lt_succ_of_le HG.out
     have E5 := Lib.hid e5
     have E6 := Lib.hid e6
     have E7 := Lib.hid e7
     clear e5 e6 e7 hqw hkw hq
     obtain ⟨w5, rfl⟩ : ∃ w5 : World, w5 = wr := ⟨_, rfl⟩
     go_wp2
     go_loopw [4, 9] (fun v4 v9 wr => ∃ i s' : Nat, i ≤ h ∧ v4 = .int .i64 (s' : Nat) ∧ v9 = .int .i64 (i : Nat) ∧ Hid (s' = s * p ^ i) ∧ wr = w5) (fun _ i _ => h - (intOf i).toNat)
     case atStart => exact ⟨0, s, Nat.zero_le _, rfl, rfl, (by show s = _; simp), rfl⟩
     case round =>
      obtain ⟨i, s', hi, rfl, rfl, hs, rfl⟩ := hrel
      by_cases hih : i < h
      ·as_aux_lemma =>
       obtain ⟨s2, hsw, hs3⟩ := E6.out i s' hih hs.out
       have hiw : wrap64 ((i : Int) + 1) = (i : Int) + 1 := IntWalk.wrap64_in _ (by have := E5.out; omega)
       have hlt : (i : Int) < (h : Int) := Int.ofNat_lt.2 hih
       have HS3 := Lib.hid hs3
       have HIH := Lib.hid hih
       clear hs3 hih hi
       go_wp2
       go_roundw
       case rel => exact ⟨i + 1, s2, HIH.out, by rw [hsw], by first | exact zac i | (rw [hiw]; exact zac i), HS3, by first | rfl | trivial⟩
       case measure => first | exact zar HIH.out | (rw [hiw]; exact zar HIH.out)
      ·as_aux_lemma =>
       obtain rfl : i = h := Nat.le_antisymm hi (Nat.le_of_not_lt hih)
       have hge : ¬ (i : Int) < (i : Int) := Int.lt_irrefl _
       have H7 := E7.out s' hs.out
       clear hi hih E7 E6 E5 hs
       rcases H7 with ⟨rfl, hx⟩ | ⟨rfl, m2, hsw, hx⟩
       ·have HX := Lib.hid hx
        clear hx
        go_wp2
        go_roundw
        case rel => exact ⟨p + 1, f', n', s', m, rfl, rfl, rfl, by first | exact zac p | (rw [hwp]; exact zac p), HX, by first | rfl | trivial⟩
        case measure => first | exact zar hplt.out | (rw [hwp]; exact zar hplt.out)
       ·have HX := Lib.hid hx
        clear hx
        go_wp2
        go_roundw
        case rel => exact ⟨p + 1, f', n', s', m2, rfl, by rw [hsw], rfl, by first | exact zac p | (rw [hwp]; exact zac p), HX, by first | rfl | trivial⟩
        case measure => first | exact zar hplt.out | (rw [hwp]; exact zar hplt.out)
  ·as_aux_lemma =>
   have hex : ¬ (p : Int) ≤ 21545 := by omega
   obtain ⟨r, rr, S, U, f1, f2, f3, f4, f5⟩ := hP.out.finR H0.out H1.out (by omega)
   have HF := Lib.hid f5
   clear f5 hle hcnt htwo hpos hN hgo hP H0 H1
   go_wp2_with fail
   refine (f1.1 wr).mono ?_
   rintro e w1 ⟨A1, n1, c1, rfl, q1, q2, l1⟩
   go_wp2_with fail
   refine (f1.2.1 A1 n1 c1 w1 q1 q2).mono ?_
   rintro e w2 ⟨b2, A2, n2, c2, rfl, q3, q4, l2⟩
   have L2 := l1.trans l2
   clear q1 l1 l2 q2
   go_wp2_with fail
   refine (f1.2.2 b2 A2 n2 c2 w2 q3 q4).mono ?_
   rintro e w3 ⟨rfl, l3⟩
   have L3 := L2.trans l3
   clear q3 q4 l3 L2 f1
   rcases HF.out with ⟨rfl, k1, rfl⟩ | ⟨k0, rfl, k1⟩
   ·clear HF
    go_wp2
    go_ret2
    exact ⟨by rw [f3, f4, k1]; rfl, L3⟩
   ·clear HF
    go_wp2
    go_ret2
    exact ⟨by rw [f3, f4, k1]; rfl, L3⟩
end Go.Proofs.YtpmbglhbcjbkcaaGreat
