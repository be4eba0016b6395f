
/- Radical: the law RadicalRing, walked. -/
import Derived.Test.YtegejfcfoanaoaaRdD
import Derived.Test.YtegejfcfoanaoaaRdE
namespace Go.Proofs.Ytegejfcfoanaoaa
open Go.RowKit Go.Maps
set_option linter.unusedSimpArgs false
set_option linter.unusedVariables false
set_option maxRecDepth 100000

/-- A call that leaves a radical and no error. -/
def RadPost (w : World) (N : Nat) (L : List (Int × Int)) (e : Ending) (w' : World) : Prop :=
  ∃ A c, e = .returned (.tuple #[.slice A N c, .int .i64 0]) ∧ RowM w' A 2 N (tRows L) ∧ Lat w w'
def RadPost1 (w : World) (N : Nat) (L : List (Int × Int)) (e : Ending) (w' : World) : Prop :=
  ∃ A c, e = .returned (.slice A N c) ∧ RowM w' A 2 N (tRows L) ∧ Lat w w'
theorem own_row {w : World} {B N : Nat} {E : TypeId} {v : Value} {L : List (Int × Int)} (h : OwnM w B E 2 v (tRows L)) (hN : L.length = N) : ∃ A c, v = .slice A N c ∧ RowM w A 2 N (tRows L) := by
  obtain ⟨A, c, rfl, r, _⟩ := h.form
  rw [tRows_len, hN] at r ⊢
  exact ⟨A, c, rfl, r⟩
theorem make_rad {A : Option Addr} {n c N : Nat} {l L : List (Int × Int)} {w : World} (hs : RowM w A 2 n (tRows l)) (he : makeErr l = 0) (hL : makeL l = L) (hN : L.length = N) :
    Calls Try.prog 7 #[.slice A n c] w (RadPost w N L) := by
  refine (make_any A n c l w hs).mono ?_
  rintro e w' ⟨v, rfl, o, hl⟩
  rw [he]
  rw [makeR_ok he, hL] at o
  obtain ⟨A', c', rfl, r⟩ := own_row o hN
  exact ⟨A', c', rfl, r, hl⟩
theorem add_rad {A0 A1 : Option Addr} {n0 c0 n1 c1 N : Nat} {a b L : List (Int × Int)} {w : World} (h0 : RowM w A0 2 n0 (tRows a)) (h1 : RowM w A1 2 n1 (tRows b)) (va : ValidR a) (vb : ValidR b) (he : makeErr (a ++ b) = 0) (hL : makeL (a ++ b) = L) (hN : L.length = N) :
    Calls Try.prog 5 #[.slice A0 n0 c0, .slice A1 n1 c1] w (RadPost w N L) := by
  refine (add_valid A0 A1 n0 c0 n1 c1 a b w h0 h1 va vb).mono ?_
  rintro e w' ⟨v, rfl, o, hl⟩
  rw [he]
  rw [makeR_ok he, hL] at o
  obtain ⟨A', c', rfl, r⟩ := own_row o hN
  exact ⟨A', c', rfl, r, hl⟩
theorem scale_rad {A : Option Addr} {n c N : Nat} {l L : List (Int × Int)} {s : Int} {w : World} (hs0 : -9223372036854775808 ≤ s) (hs1 : s < 9223372036854775808) (hs : RowM w A 2 n (tRows l)) (hv : ValidR l) (he : scaleErr l s = 0) (hL : scaleL l s = L) (hN : L.length = N) :
    Calls Try.prog 6 #[.slice A n c, .int .i64 s] w (RadPost w N L) := by
  refine (scale_valid_any A n c l s hs0 hs1 w hs hv).mono ?_
  rintro e w' ⟨v, rfl, o, hl⟩
  have h0 : scErr l s = 0 := by unfold scErr; rw [if_pos (ckE_yes hv), he]
  have h1 : scR l s = L := by unfold scR; rw [if_pos h0, hL]
  rw [h0]
  rw [h1] at o
  obtain ⟨A', c', rfl, r⟩ := own_row o hN
  exact ⟨A', c', rfl, r, hl⟩
theorem same_rad1 {A A' : Option Addr} {n c c' : Nat} {a : List (Int × Int)} {w : World} (hs : RowM w A 2 n (tRows a)) (ks : RowM w A' 2 n (tRows a)) (hn : n ≤ 1000000) :
    Calls Try.prog 8 #[.slice A n c, .slice A' n c'] w (fun e w' => e = .returned (.bool true) ∧ Lat w w') := by
  have := same_rad A n c a A' n c' a w hs ks hn
  rwa [decide_eq_true rfl] at this
theorem check_rad {A : Option Addr} {n c : Nat} {a : List (Int × Int)} {w : World} (hs : RowM w A 2 n (tRows a)) (hn : n ≤ 1000000) (hv : ValidR a) :
    Calls Try.prog 9 #[.slice A n c] w (fun e w' => e = .returned (.int .i64 0) ∧ Lat w w') := by
  have := check_any A n c a w hs hn
  rwa [ckE_yes hv] at this
theorem draft_rad {A : Option Addr} {n c N : Nat} {ds L : List (Int × Int)} {w : World} (hs : RowM w A 2 n (ds.map dRow)) (h16 : ∀ x ∈ ds, In16 x) (hL : makeL (draftL 6 ds) = L) (hN : L.length = N) :
    Calls Try.prog 4 #[.agg #[.slice A n c]] w (RadPost1 w N L) := by
  have HS := Lib.hid (fun w' (l : Lat w w') => some_any A n c ds 6 w' (hs.later l) h16 (by decide))
  have HN := Lib.hid hN
  have HL := Lib.hid hL
  clear hs h16 hN hL
  go_enter Try.func4, Try.ntmps4
  go_wp2_with fail
  refine (HS.out _ (Lat.alloc _ _)).mono ?_
  rintro e w2 ⟨v, rfl, o, l2⟩
  rw [HL.out] at o
  have LF := Lib.hid ((Lat.alloc w (.cells #[.slice A n c] 24)).trans l2)
  obtain ⟨A', c', rfl, r⟩ := own_row o HN.out
  have R := Lib.hid r
  clear o r l2 HS
  go_wp2
  go_ret
  exact ⟨A', c', rfl, R.out, LF.out⟩
set_option maxHeartbeats 8000000 in
theorem ring_walk (A1 : Option Addr) (n1 c1 : Nat) (ds1 : List (Int × Int)) (A2 : Option Addr) (n2 c2 : Nat) (ds2 : List (Int × Int)) (z : Int) (w : World) (h1 : RowM w A1 2 n1 (ds1.map dRow)) (h2 : RowM w A2 2 n2 (ds2.map dRow)) (h16a : ∀ x ∈ ds1, In16 x) (h16b : ∀ x ∈ ds2, In16 x) (hz0 : -128 ≤ z) (hz1 : z ≤ 127) :
    Calls Try.prog 3 #[.agg #[.slice A1 n1 c1], .agg #[.slice A2 n2 c2], .int .i8 z] w (fun e w' => e = .returned (.bool true) ∧ Lat w w') := by
  have da := draft_make (l := draftL 6 ds1) (by unfold draftL; rw [List.length_map, List.length_take]; omega) (fun x hx => by obtain ⟨y, _, rfl⟩ := List.mem_map.1 hx; exact dT_in y)
  have db := draft_make (l := draftL 6 ds2) (by unfold draftL; rw [List.length_map, List.length_take]; omega) (fun x hx => by obtain ⟨y, _, rfl⟩ := List.mem_map.1 hx; exact dT_in y)
  obtain ⟨a, ha⟩ : ∃ a, makeL (draftL 6 ds1) = a := ⟨_, rfl⟩
  obtain ⟨b, hb⟩ : ∃ a, makeL (draftL 6 ds2) = a := ⟨_, rfl⟩
  rw [ha] at da
  rw [hb] at db
  obtain ⟨_, va, la, Ba⟩ := da
  obtain ⟨_, vb, lb, Bb⟩ := db
  obtain ⟨e1, e2, e3, e4, e5, e6, e7, e8, e9, q1, q2, q3, q4, v1, v2, v3, v4⟩ := ring_plain (n := z) va vb la lb Ba Bb hz0 hz1
  obtain ⟨s, hs⟩ : ∃ s, makeL (a ++ b) = s := ⟨_, rfl⟩
  obtain ⟨p, hp⟩ : ∃ s, scaleL a z = s := ⟨_, rfl⟩
  obtain ⟨o, ho⟩ : ∃ s, scaleL b z = s := ⟨_, rfl⟩
  obtain ⟨t, ht⟩ : ∃ s, scaleL a (-1) = s := ⟨_, rfl⟩
  rw [hs] at e3 e7 q1 q2 q3 v1
  obtain ⟨m, hm⟩ : ∃ s, scaleL (makeL (a ++ b)) z = s := ⟨_, rfl⟩
  rw [hs] at hm
  rw [hm, hp, ho] at q2
  rw [hp, ho] at e6
  rw [ht] at e9 q4 v4
  rw [hp] at v2
  rw [ho] at v3
  have ml : m.length ≤ s.length := by rw [← hm]; exact scaleL_len _ _
  have sl := v1.len
  obtain ⟨na, hna⟩ : ∃ n, a.length = n := ⟨_, rfl⟩
  obtain ⟨nb, hnb⟩ : ∃ n, b.length = n := ⟨_, rfl⟩
  obtain ⟨ns, hns⟩ : ∃ n, s.length = n := ⟨_, rfl⟩
  obtain ⟨np, hnp⟩ : ∃ n, p.length = n := ⟨_, rfl⟩
  obtain ⟨no, hno⟩ : ∃ n, o.length = n := ⟨_, rfl⟩
  obtain ⟨nt, hnt⟩ : ∃ n, t.length = n := ⟨_, rfl⟩
  obtain ⟨nm, hnm⟩ : ∃ n, m.length = n := ⟨_, rfl⟩
  have HD1 := Lib.hid (fun w' (l : Lat w w') => draft_rad (c := c1) (h1.later l) h16a ha hna)
  have HD2 := Lib.hid (fun w' (l : Lat w w') => draft_rad (c := c2) (h2.later l) h16b hb hnb)
  have wz : IntKind.i64.wrap z = z := IntWalk.i64_in _ ⟨by omega, by omega⟩
  have F : Hid (makeErr (a ++ b) = 0 ∧ makeErr (b ++ a) = 0 ∧ scaleErr s z = 0 ∧ scaleErr a z = 0 ∧ scaleErr b z = 0 ∧ makeErr (p ++ o) = 0 ∧ makeErr s = 0 ∧ scaleErr a (-1) = 0 ∧ makeErr (a ++ t) = 0) := ⟨e1, e2, e3, e4, e5, e6, e7, e8, e9⟩
  have G : Hid (makeL (a ++ b) = s ∧ makeL (b ++ a) = s ∧ scaleL s z = m ∧ scaleL a z = p ∧ scaleL b z = o ∧ makeL (p ++ o) = m ∧ makeL s = s ∧ scaleL a (-1) = t ∧ makeL (a ++ t) = []) := ⟨hs, q1, hm, hp, ho, q2, q3, ht, q4⟩
  have VV : Hid (ValidR a ∧ ValidR b ∧ ValidR s ∧ ValidR p ∧ ValidR o ∧ ValidR t) := ⟨va, vb, v1, v2, v3, v4⟩
  have NN : Hid (a.length = na ∧ b.length = nb ∧ s.length = ns ∧ p.length = np ∧ o.length = no ∧ t.length = nt ∧ m.length = nm) := ⟨hna, hnb, hns, hnp, hno, hnt, hnm⟩
  have ZZ : Hid (-9223372036854775808 ≤ z ∧ z < 9223372036854775808) := ⟨by omega, by omega⟩
  have SS : Hid (ns ≤ 1000000 ∧ nm ≤ 1000000) := ⟨by omega, by omega⟩
  clear h1 h2 h16a h16b hz0 hz1 ha hb va vb la lb Ba Bb e1 e2 e3 e4 e5 e6 e7 e8 e9 q1 q2 q3 q4 v1 v2 v3 v4 hs hp ho ht hm ml sl hna hnb hns hnp hno hnt hnm
  go_enter Try.func3, Try.ntmps3
  go_upto_region 1 with (fail)
  refine name2 (Q := fun W => Code.wp _ _ _ _ W) ?_
  intro W hl hsz k3 k4
  have a1 := k3.ever 0 rfl
  have a2 := k4.ever 0 rfl
  have L0 := Lat.drew W
  go_region_held3 (fun w' => Lat W w') (first | (with_reducible assumption))
    (first
      | (go_at_call 4
         refine (HD1.out _ (hl.trans L0)).mono ?_
         rintro e w2 ⟨A3, c3, rfl, r3, m3⟩
         have L3 := L0.trans m3)
      | (go_at_call 4
         refine (HD2.out _ (hl.trans L3)).mono ?_
         rintro e w4 ⟨A4, c4, rfl, r4, m4⟩
         have L4 := L3.trans m4))
  have R3 := Lib.hid (r3.later m4)
  have R4 := Lib.hid r4
  have K4 := Lat.refl w4
  have LW := hl.trans L4
  clear r3 r4 m3 m4 L3 L4 L0 a1 a2 k3 k4 hl hsz HD1 HD2
  go_wp2_with fail
  refine (add_rad (R3.out.later K4) (R4.out.later K4) VV.out.1 VV.out.2.1 F.out.1 G.out.1 NN.out.2.2.1).mono ?_
  rintro e w5 ⟨A5, c5, rfl, r5, m5⟩
  replace K4 := K4.trans m5
  replace LW := LW.trans m5
  have R5 := Lib.hid r5
  have K5 := Lat.refl w5
  clear r5 m5
  go_wp2_with fail
  refine (add_rad (R4.out.later K4) (R3.out.later K4) VV.out.2.1 VV.out.1 F.out.2.1 G.out.2.1 NN.out.2.2.1).mono ?_
  rintro e w6 ⟨A6, c6, rfl, r6, m6⟩
  replace K4 := K4.trans m6
  replace K5 := K5.trans m6
  replace LW := LW.trans m6
  have R6 := Lib.hid r6
  have K6 := Lat.refl w6
  clear r6 m6
  go_wp2_with fail
  refine (scale_rad ZZ.out.1 ZZ.out.2 (R5.out.later K5) VV.out.2.2.1 F.out.2.2.1 G.out.2.2.1 NN.out.2.2.2.2.2.2).mono ?_
  rintro e w7 ⟨A7, c7, rfl, r7, m7⟩
  replace K4 := K4.trans m7
  replace K5 := K5.trans m7
  replace K6 := K6.trans m7
  replace LW := LW.trans m7
  have R7 := Lib.hid r7
  have K7 := Lat.refl w7
  clear r7 m7
  go_wp2_with fail
  refine (scale_rad ZZ.out.1 ZZ.out.2 (R3.out.later K4) VV.out.1 F.out.2.2.2.1 G.out.2.2.2.1 NN.out.2.2.2.1).mono ?_
  rintro e w8 ⟨A8, c8, rfl, r8, m8⟩
  replace K4 := K4.trans m8
  replace K5 := K5.trans m8
  replace K6 := K6.trans m8
  replace K7 := K7.trans m8
  replace LW := LW.trans m8
  have R8 := Lib.hid r8
  have K8 := Lat.refl w8
  clear r8 m8
  go_wp2_with fail
  refine (scale_rad ZZ.out.1 ZZ.out.2 (R4.out.later K4) VV.out.2.1 F.out.2.2.2.2.1 G.out.2.2.2.2.1 NN.out.2.2.2.2.1).mono ?_
  rintro e w9 ⟨A9, c9, rfl, r9, m9⟩
  replace K4 := K4.trans m9
  replace K5 := K5.trans m9
  replace K6 := K6.trans m9
  replace K7 := K7.trans m9
  replace K8 := K8.trans m9
  replace LW := LW.trans m9
  have R9 := Lib.hid r9
  have K9 := Lat.refl w9
  clear r9 m9
  go_wp2_with fail
  refine (add_rad (R8.out.later K8) (R9.out.later K9) VV.out.2.2.2.1 VV.out.2.2.2.2.1 F.out.2.2.2.2.2.1 G.out.2.2.2.2.2.1 NN.out.2.2.2.2.2.2).mono ?_
  rintro e w10 ⟨A10, c10, rfl, r10, m10⟩
  replace K4 := K4.trans m10
  replace K5 := K5.trans m10
  replace K6 := K6.trans m10
  replace K7 := K7.trans m10
  replace K8 := K8.trans m10
  replace K9 := K9.trans m10
  replace LW := LW.trans m10
  have R10 := Lib.hid r10
  have K10 := Lat.refl w10
  clear r10 m10
  go_wp2_with fail
  refine (make_rad (R5.out.later K5) F.out.2.2.2.2.2.2.1 G.out.2.2.2.2.2.2.1 NN.out.2.2.1).mono ?_
  rintro e w11 ⟨A11, c11, rfl, r11, m11⟩
  replace K4 := K4.trans m11
  replace K5 := K5.trans m11
  replace K6 := K6.trans m11
  replace K7 := K7.trans m11
  replace K8 := K8.trans m11
  replace K9 := K9.trans m11
  replace K10 := K10.trans m11
  replace LW := LW.trans m11
  have R11 := Lib.hid r11
  have K11 := Lat.refl w11
  clear r11 m11
  go_wp2_with fail
  refine (scale_rad (by decide) (by decide) (R3.out.later K4) VV.out.1 F.out.2.2.2.2.2.2.2.1 G.out.2.2.2.2.2.2.2.1 NN.out.2.2.2.2.2.1).mono ?_
  rintro e w12 ⟨A12, c12, rfl, r12, m12⟩
  replace K4 := K4.trans m12
  replace K5 := K5.trans m12
  replace K6 := K6.trans m12
  replace K7 := K7.trans m12
  replace K8 := K8.trans m12
  replace K9 := K9.trans m12
  replace K10 := K10.trans m12
  replace K11 := K11.trans m12
  replace LW := LW.trans m12
  have R12 := Lib.hid r12
  have K12 := Lat.refl w12
  clear r12 m12
  go_wp2_with fail
  refine (add_rad (R3.out.later K4) (R12.out.later K12) VV.out.1 VV.out.2.2.2.2.2 F.out.2.2.2.2.2.2.2.2 G.out.2.2.2.2.2.2.2.2 (N := 0) rfl).mono ?_
  rintro e w13 ⟨A13, c13, rfl, r13, m13⟩
  replace K4 := K4.trans m13
  replace K5 := K5.trans m13
  replace K6 := K6.trans m13
  replace K7 := K7.trans m13
  replace K8 := K8.trans m13
  replace K9 := K9.trans m13
  replace K10 := K10.trans m13
  replace K11 := K11.trans m13
  replace K12 := K12.trans m13
  replace LW := LW.trans m13
  have R13 := Lib.hid r13
  have K13 := Lat.refl w13
  clear r13 m13
  go_wp2_with fail
  refine (same_rad1 (R5.out.later K5) (R6.out.later K6) SS.out.1).mono ?_
  rintro e w14 ⟨rfl, m14⟩
  replace K4 := K4.trans m14
  replace K5 := K5.trans m14
  replace K6 := K6.trans m14
  replace K7 := K7.trans m14
  replace K8 := K8.trans m14
  replace K9 := K9.trans m14
  replace K10 := K10.trans m14
  replace K11 := K11.trans m14
  replace K12 := K12.trans m14
  replace K13 := K13.trans m14
  replace LW := LW.trans m14
  clear m14
  go_wp2_with fail
  refine (same_rad1 (R7.out.later K7) (R10.out.later K10) SS.out.2).mono ?_
  rintro e w15 ⟨rfl, m15⟩
  replace K4 := K4.trans m15
  replace K5 := K5.trans m15
  replace K6 := K6.trans m15
  replace K7 := K7.trans m15
  replace K8 := K8.trans m15
  replace K9 := K9.trans m15
  replace K10 := K10.trans m15
  replace K11 := K11.trans m15
  replace K12 := K12.trans m15
  replace K13 := K13.trans m15
  replace LW := LW.trans m15
  clear m15
  go_wp2_with fail
  refine (same_rad1 (R11.out.later K11) (R5.out.later K5) SS.out.1).mono ?_
  rintro e w16 ⟨rfl, m16⟩
  replace K4 := K4.trans m16
  replace K5 := K5.trans m16
  replace K6 := K6.trans m16
  replace K7 := K7.trans m16
  replace K8 := K8.trans m16
  replace K9 := K9.trans m16
  replace K10 := K10.trans m16
  replace K11 := K11.trans m16
  replace K12 := K12.trans m16
  replace K13 := K13.trans m16
  replace LW := LW.trans m16
  clear m16
  go_wp2_with fail
  refine (check_rad (R5.out.later K5) SS.out.1 VV.out.2.2.1).mono ?_
  rintro e w17 ⟨rfl, m17⟩
  replace K4 := K4.trans m17
  replace K5 := K5.trans m17
  replace K6 := K6.trans m17
  replace K7 := K7.trans m17
  replace K8 := K8.trans m17
  replace K9 := K9.trans m17
  replace K10 := K10.trans m17
  replace K11 := K11.trans m17
  replace K12 := K12.trans m17
  replace K13 := K13.trans m17
  replace LW := LW.trans m17
  clear m17
  go_wp2
  go_ret
  exact ⟨rfl, LW⟩
end Go.Proofs.Ytegejfcfoanaoaa
