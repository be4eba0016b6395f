/- Several texts in one: RdT, Inv2. -/
import Derived.Test.YtpmbglhbcjbkcaaGreatH27
import Derived.Test.YtpmbglhbcjbkcaaGreatH29
namespace Go.Proofs.YtpmbglhbcjbkcaaGreat
set_option maxHeartbeats 16000000
set_option maxRecDepth 100000
open Go.RowKit Go.Maps
set_option linter.unusedSimpArgs false
set_option linter.unusedVariables false
theorem zbA {w : World} {A : Option Addr} {n : Nat} {l : List (Int × Int)} (h : RowM w A 2 n (zab l)) : l.length = n := by have := h.1; rwa [zam] at this
noncomputable def zdI (l : List (Int × Int)) (n : Int) : Int := if ckE l = 0 then zdO l n else 30
noncomputable def scR (l : List (Int × Int)) (n : Int) : List (Int × Int) := if zdI l n = 0 then zbI l n else []
def zgT (w : World) (l : List (Int × Int)) (n : Int) (e : Ending) (w' : World) : Prop :=
 ∃ v, e = .returned (.tuple #[v, .int .i64 (zdI l n)]) ∧ OwnM w' w.heap.size 72 2 v (zab (scR l n)) ∧ Lat w w'
theorem zc9 {w w' : World} {l : List (Int × Int)} {n z : Int} (hz : zdI l n = z) (h0 : z ≠ 0) (hl : Lat w w') : zgT w l n (.returned (.tuple #[.slice none 0 0, .int .i64 z])) w' := by
 refine ⟨.slice none 0 0, by rw [hz], ?_, hl⟩
 have : scR l n = [] := by unfold scR; rw [hz, if_neg h0]
 rw [this]
 exact OwnM.nil _ _ _ _
theorem zkF {l : List (Int × Int)} {n : Int} (h : ckE l = 0) {x : Int × Int} (hx : x ∈ l) (h2 : ¬ zbo (x.1 * n)) : zdI l n = 6 := by
 unfold zdI zdO
 rw [if_pos h, if_neg (fun k => h2 (k x hx))]
theorem zjl {l : List (Int × Int)} {n : Int} (h : ckE l = 0) (h2 : ∀ x ∈ l, zbo (x.1 * n)) : zdI l n = 0 ∧ scR l n = zbI l n := by
 have e : zdI l n = 0 := by unfold zdI zdO; rw [if_pos h, if_pos h2]
 exact ⟨e, by unfold scR; rw [if_pos e]⟩
theorem zen (A : Option Addr) (n c : Nat) (l : List (Int × Int)) (s : Int) (hs0 : -9223372036854775808 ≤ s) (hs1 : s < 9223372036854775808) (w : World) (hs : RowM w A 2 n (zab l)) (hv : ValidR l) : Calls Tryz.prog 21 #[.slice A n c, .int .i64 s] w (zgT w l s) := by
 have hlen := hs.1
 rw [zam] at hlen
 have hn := hv.len
 rw [hlen] at hn
 have hck := zaG hv
 have HC := zaP A n c l w hs (by omega)
 rw [hck] at HC
 have HCK := Lib.hid hck
 have HS := Lib.hid hs
 have HV := Lib.hid hv
 have HN := Lib.hid hn
 have HS0 : Hid (-9223372036854775808 ≤ s ∧ s < 9223372036854775808) := ⟨hs0, hs1⟩
 clear hs hv hck hn hs0 hs1 hlen
 go_enter Tryz.func21, Tryz.ntmps21
 go_wp2_with fail
 refine HC.mono ?_
 rintro e w1 ⟨rfl, l1⟩
 clear HC
 obtain ⟨V1, rfl⟩ : ∃ V : World, V = w1 := ⟨_, rfl⟩
 go_wp2
 go_loopw [7, 21] (fun v iv wr => ∃ k : Nat, k ≤ n ∧ iv = .int .i64 (k : Nat) ∧ OwnM wr V1.heap.size 72 2 v (zab (zbI (l.take k) s)) ∧ Hid (∀ x ∈ l.take k, zbo (x.1 * s)) ∧ Lat V1 wr) (fun _ iv _ => n - (RowKit.intOf iv).toNat)
 case atStart => exact ⟨0, Nat.zero_le _, rfl, by simpa [zbI, zab] using OwnM.nil _ _ _ _, (fun u hu => by simp at hu), Lat.refl _⟩
 case round =>
  obtain ⟨k, hk, rfl, hown, hin, hl⟩ := hrel
  by_cases hkn : k < n
  ·obtain ⟨g, o, x, rfl, hg, hx, c0, c1⟩ := zaL (HS.out.later (l1.trans hl)) hkn
   obtain ⟨t, u⟩ := x
   simp only at c0 c1
   have hxm := List.mem_of_getElem? hx
   have htr := HV.out.term _ hxm
   have htk : l.take (k + 1) = l.take k ++ [(t, u)] := by
    obtain ⟨h1, h2⟩ := List.getElem?_eq_some_iff.1 hx
    rw [List.take_succ_eq_append_getElem h1, h2]
   obtain ⟨z, hz⟩ : ∃ z, t * s = z := ⟨_, rfl⟩
   have hout : Hid (zbI (l.take (k + 1)) s = zbI (l.take k) s ++ (if z = 0 then [] else [(z, u)])) := by
    show _ = _
    rw [htk, zhz, hz]
   have hin2 : Hid (zbo z → ∀ x ∈ l.take (k + 1), zbo (x.1 * s)) := fun h y hy => by
    rw [htk] at hy
    rcases List.mem_append.1 hy with hy | hy
    ·exact hin.out y hy
    ·rw [List.mem_singleton] at hy; rw [hy]; simp only [hz]; exact h
   have hbad : Hid (¬ zbo z → zdI l s = 6) := fun h => zkF HCK.out hxm (by simp only [hz]; exact h)
   have hol : Hid ((zab (zbI (l.take k) s)).length ≤ 100000000) := by
    have h1 := zjh (l.take k) s
    rw [List.length_take] at h1
    have := HN.out
    show (zab _).length ≤ _
    rw [zam]
    omega
   have ht0 : -1000000000000000 ≤ t := htr.2.2.2.1.1
   have ht1 : t ≤ 1000000000000000 := htr.2.2.2.1.2
   have HOT := Lib.hid (fun w => ze7 t (by omega) (by omega) w)
   have HOS := Lib.hid (fun w => ze7 s HS0.out.1 HS0.out.2 w)
   have HM := fun w => zmc t s (by omega) (by omega) HS0.out.1 HS0.out.2 w
   have HWI := fun w => zh6 (W8.of z) (W8.of_ok z) w
   have hP : (9223372036854775808 : Int) * 9223372036854775808 < zaV := by decide
   have hmb := zek (M := 9223372036854775808) (N := 9223372036854775808) (a := t) (n := s) (by omega) (by omega) HS0.out.1 (Int.le_of_lt HS0.out.2)
   rw [hz] at hmb HM
   rw [W8.of_toInt (by omega) (by omega)] at HWI
   have HM := Lib.hid HM
   have HWI := Lib.hid HWI
   have HW := Lib.hid (fun w => zcu (zeR z) w)
   have HKN := Lib.hid hkn
   have hkI : (k : Int) < (n : Int) := by omega
   have hk0 : (0 : Int) ≤ (k : Int) := by omega
   have wk : wrap64 ((k : Int) + 1) = (k : Int) + 1 := IntWalk.wrap64_in _ (by have := HN.out; omega)
   clear hP hmb ht0 ht1 htk htr hxm hx hg hk hkn hz hin
   as_aux_lemma =>
   go_upto_region 8 with (fail)
   refine zas (Q := fun W => Code.wp _ _ _ _ W) ?_
   intro W5 l5 s5 k5
   have L5 := hl.trans l5
   have hown5 := hown.later l5
   have d0 := k5.cell 0
   have d1 := k5.cell 1
   clear c0 c1 hl l5 s5 hown
   go_wp2_with fail
   refine (HOT.out _).mono ?_
   rintro e w2 ⟨rfl, m2⟩
   go_wp2_with fail
   refine (HOS.out _).mono ?_
   rintro e w3 ⟨rfl, m3⟩
   go_wp2_with fail
   refine (HM.out _).mono ?_
   rintro e w4 ⟨rfl, m4⟩
   go_upto_region 9 with (fail)
   refine zas (Q := fun W => Code.wp _ _ _ _ W) ?_
   intro W7 l7 s7 k7
   have e0 := k7.cell 0
   have e1 := k7.cell 1
   have e2 := k7.cell 2
   have e3 := k7.cell 3
   have e4 := k7.cell 4
   have e5 := k7.cell 5
   have e6 := k7.cell 6
   have e7 := k7.cell 7
   go_wp2_with fail
   refine (HWI.out W7).mono ?_
   rintro e w8 ⟨rfl, l8⟩
   clear e0 e1 e2 e3 e4 e5 e6 e7 k7 s7 HWI
   have lx := (((m2.trans m3).trans m4).trans l7).trans l8
   have L8 := L5.trans lx
   have hown8 := hown5.later lx
   have k8 := k5.later lx
   have f0 := k8.cell 0
   have f1 := k8.cell 1
   clear m2 m3 m4 l7 l8 lx L5 hown5 d0 d1 k5
   by_cases hr2 : -9223372036854775808 ≤ z ∧ z < 9223372036854775808
   ·have hi0 : zdM z = 0 := by unfold zdM; rw [if_pos hr2]
    have hiv : zeR z = z := by unfold zeR; rw [if_pos hr2]
    have HW1 := HW.out
    rw [hiv] at HW1
    rw [hi0, hiv]
    by_cases hr : zbo z
    ·rw [decide_eq_true hr] at HW1
     have HIN := Lib.hid (hin2.out hr)
     clear hr hr2 hi0 hiv HW hin2 hbad
     go_wp2_with fail
     refine (HW1 w8).mono ?_
     rintro e w9 ⟨rfl, rfl⟩
     clear HW1
     by_cases hzz : z = 0
     ·as_aux_lemma =>
      subst hzz
      have hout2 := hout.out
      rw [if_pos rfl, List.append_nil] at hout2
      rw [← hout2] at hown8
      clear hout hout2
      go_wp2
      go_roundw
      case rel => exact ⟨k + 1, HKN.out, by first | exact zac k | (rw [wk]; exact zac k), hown8, HIN, L8⟩
      case measure => first | exact zar HKN.out | (rw [wk]; exact zar HKN.out)
     ·as_aux_lemma =>
      have hzB : ((z : Int) != 0) = true := by simp [hzz]
      have hout2 := hout.out
      rw [if_neg hzz] at hout2
      have HO2 : Hid (zab (zbI (l.take (k + 1)) s) = zab (zbI (l.take k) s) ++ [[.int .i64 z, .int .i64 u]]) := by
       show _ = _
       rw [hout2]
       simp [zab, zji]
      have hownA := hown8.later (Lat.alloc w9 (.cells #[.int .i64 z, .int .i64 u] 72))
      have hsz := L8.size
      clear hout hout2 hzz hown8
      go_wp2_with (at_builtin; refine zaR rfl _ _ 27 (by rfl) V1.heap.size 72 72 (.agg #[.int .i64 0, .int .i64 0]) 2 16 Tryz.underlying27 zaS rfl (by decide) (by decide) _ _ [.int .i64 z, .int .i64 u] (by simp [Value.oneCell']) _ w9.heap.size (by rfl) hownA (Blk.new _ _ _) rfl 1 (by rfl) hol.out (by simp; omega) ?_; intro v' w' h1 h2 h3)
      have L9 := h3 V1 (L8.trans (Lat.alloc _ _)) (Nat.le_refl _)
      rw [← HO2.out] at h1
      clear h2 h3 hownA
      go_wp2
      go_roundw
      case rel => exact ⟨k + 1, HKN.out, by first | exact zac k | (rw [wk]; exact zac k), h1, HIN, L9⟩
      case measure => first | exact zar HKN.out | (rw [wk]; exact zar HKN.out)
    ·as_aux_lemma =>
     rw [decide_eq_false hr] at HW1
     have hE6 := hbad.out hr
     have LF := l1.trans L8
     clear hr hr2 hi0 hiv HW hin2 hbad hout
     go_wp2_with fail
     refine (HW1 w8).mono ?_
     rintro e w9 ⟨rfl, rfl⟩
     clear HW1
     go_wp2
     go_ret2
     exact zc9 hE6 (by decide) LF
   ·as_aux_lemma =>
    have hi0 : zdM z = 6 := by unfold zdM; rw [if_neg hr2]
    have hE6 := hbad.out (fun h => hr2 (by have := h.1; have := h.2; omega))
    have LF := l1.trans L8
    rw [hi0]
    clear hr2 hi0 HW hin2 hbad hout
    go_wp2
    go_ret2
    exact zc9 hE6 (by decide) LF
  ·obtain rfl : k = n := by omega
   have hge : ¬ (k : Int) < (k : Int) := Int.lt_irrefl _
   have hT : l.take k = l := by
    have := zbA HS.out
    exact List.take_of_length_le (by omega)
   rw [hT] at hown hin
   obtain ⟨hE, hR⟩ := zjl (n := s) HCK.out hin.out
   have HB := Lib.hid (hown.base l1.size)
   have HH : Hid (zdI l s = 0 ∧ scR l s = zbI l s) := ⟨hE, hR⟩
   have LF := l1.trans hl
   clear hE hR hown hin hl
   go_wp2
   go_ret2
   obtain ⟨hE, hR⟩ := HH.out
   refine ⟨_, by first | rfl | (rw [hE]; rfl), ?_, LF⟩
   rw [hR]
   exact HB.out
end Go.Proofs.YtpmbglhbcjbkcaaGreat
namespace Go.Proofs.YtpmbglhbcjbkcaaGreat
set_option maxHeartbeats 16000000
set_option maxRecDepth 100000
open Go.RowKit
set_option linter.unusedSimpArgs false
theorem zau {P : Program} {ops : Array Oper} {Q : Exit → Act → World → Prop} {id : Nat} {a : Act} {w : World} (rows : List SRow) (base : List (Nat × Value)) (N n : Nat) (tbl : List (List Nat))
  (hm : P.follows .mixedOrders = true) (o8 : Oper) (ho8 : ops[n]? = some o8) (hg8 : o8.guard = none) (o9 : Oper) (ho9 : ops[n + 1]? = some o9) (hg9 : o9.guard = none) (hn : ops.size = n + 2) (ht : zaQ ops = tbl) (h89 : ((tbl[n + 1]?).getD []).contains n = true) (hd : ((List.range (n + 2)).all fun i => ((tbl[i]?).getD []).all fun j => decide (j < i)) = true)
  (hup : ((List.range n).all fun i => (List.range (n + 1)).any fun k => decide (i < k) && ((tbl[k]?).getD []).contains i) = true) (hk : (ops.toList.take n).map zbQ = rows.map SRow.key)
  (hdis : distinct rows base N = true) (hsz : a.tmps.size = N) (hdf : a.defers = []) (hb : ∀ k v, base.lookup k = some v → Slot a k v) (hstep : AllSteps P rows base w rows)
  (hend : ∀ a W, a.tmps.size = N → a.defers = [] → Lat w W → (∀ k v, base.lookup k = some v → Slot a k v) → (∀ (j : Nat) r d, rows[j]? = some r → r.dst = some d → ∃ v, Slot a d v ∧ r.V v W) → o8.wp P a W (fun a' w' => o9.wp P a' w' (fun a2 w2 => Q .normal a2 w2) Q) Q) : (Code.region id ops true).wp P Q a w := by
 have hrow : ∀ {i : Nat} {o : Oper}, i < n → ops[i]? = some o → ∃ r, rows[i]? = some r ∧ zbQ o = r.key := by
  intro i o hi ho
  have h1 : ((ops.toList.take n).map zbQ)[i]? = some (zbQ o) := by simp [ho, List.getElem?_take, hi]
  rw [hk, List.getElem?_map] at h1
  cases hr : rows[i]? with
  | none => rw [hr] at h1; cases h1
  | some r => rw [hr] at h1; simp only [Option.map_some, Option.some.injEq] at h1; exact ⟨r, rfl, h1.symm⟩
 simp only [distinct, Bool.and_eq_true] at hdis
 obtain ⟨hdis1, hdis2⟩ := hdis
 have hdst : ∀ {i : Nat} {r : SRow} {d : Tmp}, rows[i]? = some r → r.dst = some d → d < N ∧ base.lookup d = none := by
  intro i r d h1 h2
  have := List.all_eq_true.1 hdis1 d (List.mem_filterMap.2 ⟨r, List.mem_of_getElem? h1, h2⟩)
  simpa using this
 have hlen : rows.length = n := by
  have := congrArg List.length hk
  simp at this
  omega
 have hreach : ∀ m : Nat, (∀ i, m.testBit i = true → ∀ j ∈ (tbl[i]?).getD [], m.testBit j = true) → (∀ j ∈ (tbl[n]?).getD [], m.testBit j = true) → ∀ i, i < n → m.testBit i = true := by
  intro m hcl hde
  have : ∀ d i, i < n → n - i = d → m.testBit i = true := by
   intro d
   induction d using Nat.strongRecOn with
   | ind d ih =>
     intro i hi hd0
     have h1 := List.all_eq_true.1 hup i (List.mem_range.2 hi)
     obtain ⟨k, hk1, hk2⟩ := List.any_eq_true.1 h1
     have hk3 := List.mem_range.1 hk1
     simp only [Bool.and_eq_true, decide_eq_true_eq, List.contains_eq_mem] at hk2
     by_cases hkn : k = n
     ·subst hkn; exact hde i hk2.2
     ·exact hcl k (ih (n - k) (by omega) k (by omega) rfl) i hk2.2
  exact fun i hi => this _ i hi rfl
 have hstart : zeV rows base N w 0 a w.drew := ⟨hsz, hdf, Lat.drew w, hb, fun j r d h => by rw [Nat.zero_testBit] at h; cases h⟩
 let J : Nat → Act → World → Prop := fun m a W => (m.testBit n = false ∧ m.testBit (n + 1) = false ∧ (∀ i, m.testBit i = true → ∀ j ∈ (tbl[i]?).getD [], m.testBit j = true) ∧ zeV rows base N w m a W) ∨ ((∀ i, i < n + 1 → m.testBit i = true) ∧ m.testBit (n + 1) = false ∧ o9.wp P a W (fun a2 w2 => Q .normal a2 w2) Q) ∨ ((∀ i, i < n + 2 → m.testBit i = true) ∧ Q .normal a W)
 refine zbf (I := J) (n := n + 2) (tbl := tbl) (hm := hm) (hn := hn) (ht := ht) (hd := hd) (h0 := .inl ⟨by simp, by simp, fun i hi => (by rw [Nat.zero_testBit] at hi; cases hi), hstart⟩) ?_ ?_
 ·intro i hi o m a w1 ho hmi hdeps hJ
  have hdepsT : ∀ j ∈ (tbl[i]?).getD [], m.testBit j = true := by rw [← ht]; exact hdeps
  rcases hJ with ⟨hbn, hbn1, hcl, hI⟩ | ⟨hall, hb1, hQ⟩ | ⟨hall, _⟩
  case inr.inr => rw [hall i hi] at hmi; cases hmi
  case inr.inl =>
   by_cases hin : i = n + 1
   ·subst hin
    obtain rfl : o = o9 := by rw [ho] at ho9; cases ho9; rfl
    unfold wpOp
    rw [ho]
    have hw : Region.wanted o (yielded ops a.tmps) = true := by unfold Region.wanted; rw [hg9]
    simp only [if_pos hw]
    refine Or.inl (Oper.wp_mono (fun a' w' h => Or.inr (Or.inr ⟨fun k hk => ?_, h⟩)) hQ)
    rw [Nat.testBit_or, Nat.testBit_two_pow]
    by_cases e : n + 1 = k
    ·simp [e]
    ·rw [hall k (by omega)]; rfl
   ·rw [hall i (by omega)] at hmi; cases hmi
  by_cases hin1 : i = n + 1
  ·subst hin1
   have h1 : n ∈ (tbl[n + 1]?).getD [] := by simpa [List.contains_eq_mem] using h89
   rw [hdepsT n h1] at hbn; cases hbn
  by_cases hin : i = n
  ·subst hin
   have hall := hreach m hcl hdepsT
   have hl := hend a w1 hI.size hI.defers hI.lat hI.base (fun j r d h1 h2 => hI.slot j r d (hall j (by rw [← hlen]; exact (List.getElem?_eq_some_iff.1 h1).1)) h1 h2)
   obtain rfl : o = o8 := by rw [ho] at ho8; cases ho8; rfl
   unfold wpOp
   rw [ho]
   have hw : Region.wanted o (yielded ops a.tmps) = true := by unfold Region.wanted; rw [hg8]
   simp only [if_pos hw]
   refine Or.inl (Oper.wp_mono (fun a' w' h => Or.inr (Or.inl ⟨fun k hk => ?_, ?_, h⟩)) hl)
   rotate_left
   ·rw [Nat.testBit_or, Nat.testBit_two_pow, hbn1]; simp
   rw [Nat.testBit_or, Nat.testBit_two_pow]
   by_cases e : i = k
   ·simp [e]
   ·rw [hall k (by omega)]; rfl
  have hi : i < n := by omega
  have hlift : ∀ a' W', zeV rows base N w (m ||| 2 ^ i) a' W' → J (m ||| 2 ^ i) a' W' := by
   intro a' W' h
   refine .inl ⟨?_, ?_, fun k hk j hj => ?_, h⟩
   ·rw [Nat.testBit_or, Nat.testBit_two_pow, hbn]
    simp [hin]
   ·rw [Nat.testBit_or, Nat.testBit_two_pow, hbn1]
    simp; omega
   ·rw [Nat.testBit_or, Nat.testBit_two_pow] at hk
    have : m.testBit j = true := by
     by_cases e : i = k
     ·subst e; exact hdepsT j hj
     ·rw [Bool.or_eq_true] at hk
      rcases hk with hk | hk
      ·exact hcl k hk j hj
      ·exact absurd (of_decide_eq_true hk) e
    rw [Nat.testBit_or, this]; rfl
  obtain ⟨r, hr, hkey⟩ := hrow hi ho
  obtain ⟨S1, S2, S3⟩ := hstep.get r (List.mem_of_getElem? hr)
  unfold SRow.key zbQ at hkey
  simp only [Prod.mk.injEq] at hkey
  obtain ⟨ke1, ke2, ke3, ke4⟩ := hkey
  have hdeps' : ∀ j ∈ r.deps, m.testBit j = true := by
   intro j hj
   refine hdeps j ?_
   unfold zaQ
   rw [List.getElem?_map, Array.getElem?_toList, ho]
   simp only [Option.map_some, Option.getD_some]
   rw [ke4]
   exact hj
  have hw : Region.wanted o (yielded ops a.tmps) = true := by
   unfold Region.wanted
   cases hg : o.guard with
   | none => rfl
   | some p =>
     obtain ⟨j, b⟩ := p
     obtain ⟨rj, h1, ⟨d, h2⟩, h3, h4⟩ := S2 j b (by rw [← ke3, hg])
     obtain ⟨v, h5, h6⟩ := hI.slot j rj d (hdeps' j h3) h1 h2
     have h7 := h4 v w1 h6
     subst h7
     have hjn : j < n := by rw [← hlen]; exact (List.getElem?_eq_some_iff.1 h1).1
     have hj : j < ops.size := by omega
     obtain ⟨rj', h8, h9⟩ := hrow hjn (Array.getElem?_eq_getElem hj)
     rw [h1] at h8
     cases h8
     unfold SRow.key zbQ at h9
     simp only [Prod.mk.injEq] at h9
     unfold yielded
     unfold Slot at h5
     have hd0 : ops[j].dst = some d := by rw [h9.2.1, h2]
     simp only [Array.getElem?_eq_getElem hj, Option.bind_some, hd0, h5]
     cases b <;> rfl
  have hput : ∀ v w', Lat w1 w' → (r.dst.isSome = true → r.V v w') → zeV rows base N w (m ||| 2 ^ i) (a.put o.dst v) w' := by
   intro v w' hl hv
   have hmono : ∀ j rj d, (m ||| 2 ^ i).testBit j = true → j ≠ i → rows[j]? = some rj → rj.dst = some d → ∃ v, Slot a d v ∧ rj.V v w' := by
    intro j rj d hj hne h1 h2
    have hj' : m.testBit j = true := by
     rw [Nat.testBit_or, Nat.testBit_two_pow] at hj
     have : ¬ i = j := fun e => hne e.symm
     simpa [this] using hj
    obtain ⟨u, h3, h4⟩ := hI.slot j rj d hj' h1 h2
    obtain ⟨T1, _, _⟩ := hstep.get rj (List.mem_of_getElem? h1)
    exact ⟨u, h3, T1 u _ _ h4 hl⟩
   cases hdd : r.dst with
   | none =>
     rw [hdd] at ke2
     rw [ke2]
     refine ⟨hI.size, hI.defers, hI.lat.trans hl, hI.base, fun j rj d hj h1 h2 => ?_⟩
     by_cases hne : j = i
     ·subst hne
      rw [hr] at h1; cases h1
      rw [hdd] at h2; cases h2
     ·exact hmono j rj d hj hne h1 h2
   | some d0 =>
     rw [hdd] at ke2
     rw [ke2]
     obtain ⟨hd0, hd1⟩ := hdst hr hdd
     have hv' := hv (by rw [hdd]; rfl)
     refine ⟨by simp [Act.put, hI.size], by simp [Act.put, hI.defers], hI.lat.trans hl, fun k u hk => ?_, fun j rj d hj h1 h2 => ?_⟩
     ·have := hI.base k u hk
      unfold Slot at this ⊢
      simp only [Act.put]
      rw [Array.getElem?_setIfInBounds_ne (fun e => by subst e; rw [hd1] at hk; cases hk)]
      exact this
     ·by_cases hne : j = i
      ·subst hne
       rw [hr] at h1; cases h1
       rw [hdd] at h2; cases h2
       refine ⟨v, ?_, hv'⟩
       unfold Slot
       simp [Act.put, hI.size, hd0]
      ·obtain ⟨u, h3, h4⟩ := hmono j rj d hj hne h1 h2
       refine ⟨u, ?_, h4⟩
       unfold Slot at h3 ⊢
       simp only [Act.put]
       rw [Array.getElem?_setIfInBounds_ne (fun e => by subst e; exact hne (zdE hdis2 h1 hr h2 hdd))]
       exact h3
  have hruns := S3 a w1 hI.lat (fun k v hk => (hI.base k v hk).ev) (fun j rj d hj h1 h2 => by
   obtain ⟨v, h3, h4⟩ := hI.slot j rj d (hdeps' j hj) h1 h2
   exact ⟨v, h3.ev, h4⟩) o ke1
  unfold wpOp
  rw [ho]
  simp only [if_pos hw]
  refine Or.inl ?_
  unfold Oper.wp
  rcases hruns with ⟨v, w', h1, h2, h3⟩ | ⟨f, args, h1, h2⟩
  ·rw [h1, Oper.upon_value]
   exact hlift _ _ (hput v w' h2 h3)
  ·rw [h1, Oper.upon_enter]
   refine h2.mono fun e w' h => ?_
   obtain ⟨v, rfl, h3, h4⟩ := h
   exact hlift _ _ (hput v w' h3 h4)
 ·intro m a W hall hJ
  rcases hJ with ⟨hbn, _, _⟩ | ⟨_, hb1, _⟩ | ⟨_, h⟩
  ·rw [hall n (by omega)] at hbn; cases hbn
  ·rw [hall (n + 1) (by omega)] at hb1; cases hb1
  ·exact h
end Go.Proofs.YtpmbglhbcjbkcaaGreat
