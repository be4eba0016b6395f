/- Several texts in one: Law6, QuQ. -/
import Derived.Test.YtbgngmamnonlbaaGreatH46
import Derived.Test.YtbgngmamnonlbaaGreatH36
import Derived.Test.YtbgngmamnonlbaaGreatH38
import Derived.Test.YtbgngmamnonlbaaGreatH40
namespace Go.Proofs.YtbgngmamnonlbaaGreat
open Go.RowKit
set_option linter.unusedSimpArgs false
set_option linter.unusedVariables false
theorem equal_any (A1 : Option Addr) (n1 c1 : Nat) (xs : List Int) (A2 : Option Addr) (n2 c2 : Nat) (ys : List Int) (w : World) (h1 : Sl w .i64 A1 n1 xs) (h2 : Sl w .i64 A2 n2 ys) (hn1 : n1 ≤ 17000000000000) (hn2 : n2 ≤ 17000000000000) :
  Calls Tryz.prog 31 #[.slice A1 n1 c1, .slice A2 n2 c2] w (fun e w' => e = .returned (.bool (xs == ys)) ∧ Lat w w') := by
 have l1 := h1.1
 have l2 := h2.1
 by_cases hne : n1 = n2
 ·rcases Nat.eq_zero_or_pos n1 with h0 | h0
  ·have hx : xs = [] := List.eq_nil_of_length_eq_zero (by omega)
   have hy : ys = [] := List.eq_nil_of_length_eq_zero (by omega)
   subst hx hy
   have : n1 = 0 := h0
   subst this
   refine (Tryz.slices_Equal_int_empty A1 A2 c1 n2 c2 w (by omega)).mono ?_
   rintro e w' ⟨rfl, rfl⟩
   refine ⟨?_, Lat.refl _⟩
   have : n2 = 0 := by omega
   subst this
   rfl
  ·obtain ⟨b1, o1, rfl, q1⟩ := h1.plain h0
   obtain ⟨b2, o2, rfl, q2⟩ := h2.plain (by omega)
   refine (Tryz.slices_Equal_int b1 o1 n1 c1 b2 o2 n2 c2 xs ys w (by omega) (by omega) (by omega) (by omega) q1 q2).mono ?_
   rintro e w' ⟨rfl, q, rfl⟩
   rw [List.take_of_length_le (by omega), List.take_of_length_le (by omega)]
   exact ⟨rfl, Lat.drewN _ _⟩
 ·refine (Tryz.slices_Equal_int_lens A1 A2 n1 c1 n2 c2 w hne).mono ?_
  rintro e w' ⟨rfl, rfl⟩
  refine ⟨?_, Lat.refl _⟩
  have : (xs == ys) = false := by
   rw [beq_eq_false_iff_ne]
   intro e
   rw [e] at l1
   omega
  rw [this]
def sameB (S1 T1 : List Int) (o1 : Int) (S2 T2 : List Int) (o2 : Int) : Bool := (o1 == o2) && ((S1 == S2) && (T1 == T2))
set_option maxRecDepth 100000 in
set_option maxHeartbeats 2000000 in
theorem same_any (A1 : Option Addr) (n1 c1 : Nat) (S1 : List Int) (A2 : Option Addr) (n2 c2 : Nat) (T1 : List Int) (o1 : Int) (A3 : Option Addr) (n3 c3 : Nat) (S2 : List Int) (A4 : Option Addr) (n4 c4 : Nat) (T2 : List Int) (o2 : Int) (w : World)
  (h1 : Sl w .i64 A1 n1 S1) (h2 : Sl w .i64 A2 n2 T1) (h3 : Sl w .i64 A3 n3 S2) (h4 : Sl w .i64 A4 n4 T2) (b1 : n1 ≤ 17000000000000) (b2 : n2 ≤ 17000000000000) (b3 : n3 ≤ 17000000000000) (b4 : n4 ≤ 17000000000000) :
  Calls Tryz.prog 32 #[.agg #[.slice A1 n1 c1, .slice A2 n2 c2, .int .i64 o1], .agg #[.slice A3 n3 c3, .slice A4 n4 c4, .int .i64 o2]] w (fun e w' => e = .returned (.bool (sameB S1 T1 o1 S2 T2 o2)) ∧ Lat w w') := by
 cases ho : (o1 == o2) with
 | false =>
   have HS : Hid (sameB S1 T1 o1 S2 T2 o2 = false) := by show _ = _; simp [sameB, ho]
   go_enter Tryz.func32, Tryz.ntmps32
   go_upto_region 1 with (fail)
   refine name2 (Q := fun W => Code.wp _ _ _ _ W) ?_
   intro W hl hs k1 k2
   have c1_0 := k1.cell 0
   have c1_1 := k1.cell 1
   have c1_2 := k1.cell 2
   have c2_0 := k2.cell 0
   have c2_1 := k2.cell 1
   have c2_2 := k2.cell 2
   go_wp2
   go_ret
   exact ⟨by rw [HS.out]; rfl, hl⟩
 | true =>
   have HQ := fun w h1 h3 => equal_any A1 n1 c1 S1 A3 n3 c3 S2 w h1 h3 b1 b3
   have HQ2 := fun w h1 h3 => equal_any A2 n2 c2 T1 A4 n4 c4 T2 w h1 h3 b2 b4
   cases hs : (S1 == S2) with
   | false =>
     have HS : Hid (sameB S1 T1 o1 S2 T2 o2 = false) := by show _ = _; simp [sameB, hs]
     have HX := Lib.hid hs
     clear hs
     go_enter Tryz.func32, Tryz.ntmps32
     go_upto_region 1 with (fail)
     refine name2 (Q := fun W => Code.wp _ _ _ _ W) ?_
     intro W hl hs k1 k2
     have c1_0 := k1.cell 0
     have c1_1 := k1.cell 1
     have c1_2 := k1.cell 2
     have c2_0 := k2.cell 0
     have c2_1 := k2.cell 1
     have c2_2 := k2.cell 2
     go_wp2_with fail
     refine (HQ W (h1.later hl) (h3.later hl)).mono ?_
     rintro e w1 ⟨rfl, l1⟩
     rw [HX.out]
     clear c1_0 c1_1 c1_2 c2_0 c2_1 c2_2
     go_wp2
     go_ret
     exact ⟨by rw [HS.out]; rfl, hl.trans l1⟩
   | true =>
     have HS : Hid (sameB S1 T1 o1 S2 T2 o2 = (T1 == T2)) := by show _ = _; simp [sameB, hs, ho]
     have HX := Lib.hid hs
     obtain ⟨tb, htb⟩ : ∃ tb, (T1 == T2) = tb := ⟨_, rfl⟩
     rw [htb] at HS HQ2
     clear hs htb
     go_enter Tryz.func32, Tryz.ntmps32
     go_upto_region 1 with (fail)
     refine name2 (Q := fun W => Code.wp _ _ _ _ W) ?_
     intro W hl hs k1 k2
     have c1_0 := k1.cell 0
     have c1_1 := k1.cell 1
     have c1_2 := k1.cell 2
     have c2_0 := k2.cell 0
     have c2_1 := k2.cell 1
     have c2_2 := k2.cell 2
     go_wp2_with fail
     refine (HQ W (h1.later hl) (h3.later hl)).mono ?_
     rintro e w1 ⟨rfl, l1⟩
     rw [HX.out]
     clear c1_0 c1_1 c1_2 c2_0 c2_1 c2_2
     have K1 := k1.later l1
     have K2 := k2.later l1
     have c1_0 := K1.cell 0
     have c1_1 := K1.cell 1
     have c1_2 := K1.cell 2
     have c2_0 := K2.cell 0
     have c2_1 := K2.cell 1
     have c2_2 := K2.cell 2
     go_wp2_with fail
     refine (HQ2 w1 (h2.later (hl.trans l1)) (h4.later (hl.trans l1))).mono ?_
     rintro e w2 ⟨rfl, l2⟩
     clear c1_0 c1_1 c1_2 c2_0 c2_1 c2_2
     cases tb
     all_goals
      go_wp2
      go_ret
      exact ⟨by rw [HS.out]; rfl, (hl.trans l1).trans l2⟩
def natLL (T : List Nat) : List Int := T.map fun t : Nat => (t : Int)
set_option maxRecDepth 100000 in
set_option maxHeartbeats 2000000 in
theorem gives_yes (A : Option Addr) (n c : Nat) (Al : Option Addr) (nl cl : Nat) (seats m : Int) (F : Aw) (A3 : Option Addr) (n3 c3 : Nat) (S2 : List Int) (A4 : Option Addr) (n4 c4 : Nat) (T2 : List Int) (o2 : Int) (w : World)
  (HR : ∀ w', Lat w w' → Calls Tryz.prog 25 #[.slice A n c, .int .i64 seats, .int .i64 m, .slice Al nl cl] w' (GivP w' n (some F))) (h3 : Sl w .i64 A3 n3 S2) (h4 : Sl w .i64 A4 n4 T2) (b3 : n3 ≤ 17000000000000) (b4 : n4 ≤ 17000000000000) (hb1 : n ≤ 17000000000000) (hb2 : F.tied.length ≤ 17000000000000) :
  Calls Tryz.prog 33 #[.slice A n c, .int .i64 seats, .int .i64 m, .slice Al nl cl, .agg #[.slice A3 n3 c3, .slice A4 n4 c4, .int .i64 o2]] w
   (fun e w' => e = .returned (.bool (sameB F.seats (natLL F.tied) F.left S2 T2 o2)) ∧ Lat w w') := by
 obtain ⟨sb, hsb⟩ : ∃ sb, sameB F.seats (natLL F.tied) F.left S2 T2 o2 = sb := ⟨_, rfl⟩
 rw [hsb]
 have HSB := Lib.hid hsb
 clear hsb
 go_enter Tryz.func33, Tryz.ntmps33
 go_wp2_with fail
 refine name1 (Q := fun W => Calls _ _ _ W _) ?_
 intro W hlW hs2 k1
 refine (HR W hlW).mono ?_
 rintro e w1 ⟨l1, gS, cS, At, ct, rfl, q1, q2, _, _, _⟩
 have K1 := k1.later l1
 have L := hlW.trans l1
 go_upto_region 2 with (fail)
 refine name1 (Q := fun W => Code.wp _ _ _ _ W) ?_
 intro w2 l2 hs3 k2
 have K1 := K1.later l2
 have c1_0 := K1.cell 0
 have c1_1 := K1.cell 1
 have c1_2 := K1.cell 2
 have c2_0 := k2.cell 0
 have c2_1 := k2.cell 1
 have c2_2 := k2.cell 2
 have HQ := same_any (some ⟨gS, 0, none⟩) n cS F.seats At F.tied.length ct (natLL F.tied) F.left A3 n3 c3 S2 A4 n4 c4 T2 o2 w2 (q1.sl.later l2) (q2.later l2) (h3.later (L.trans l2)) (h4.later (L.trans l2)) hb1 hb2 b3 b4
 rw [HSB.out] at HQ
 clear q1 q2 HR hb1 hb2
 go_wp2_with fail
 refine HQ.mono ?_
 rintro e w3 ⟨rfl, l3⟩
 clear c1_0 c1_1 c1_2 c2_0 c2_1 c2_2 HQ
 cases sb
 all_goals
  go_wp2
  go_ret
  exact ⟨rfl, (L.trans l2).trans l3⟩
end Go.Proofs.YtbgngmamnonlbaaGreat
namespace Go.Proofs.YtbgngmamnonlbaaGreat
open Go.RowKit
set_option linter.unusedSimpArgs false
set_option linter.unusedVariables false
def qtR (N D : Int) (P : List Int) : List (List Value) := P.map fun p => (shA (p * D) N).toList
def zeroS : List Value := [.int .u64 0, .int .u64 0, .int .u64 0, .int .u64 0, .int .u64 0, .int .u64 0, .int .u64 0, .int .u64 0, .int .u64 0, .int .u64 0, .int .u64 0, .int .u64 0, .int .u64 0, .int .u64 0, .int .u64 0, .int .u64 0]
theorem qtR_len (N D : Int) (P : List Int) : (qtR N D P).length = P.length := by simp [qtR]
theorem qt_set {N D p : Int} {P : List Int} {j n : Nat} (h : P[j]? = some p) (hn : P.length = n) : (qtR N D (P.take j) ++ List.replicate (n - j) zeroS).set j (shA (p * D) N).toList = qtR N D (P.take (j + 1)) ++ List.replicate (n - (j + 1)) zeroS := by
 obtain ⟨hl, rfl⟩ := List.getElem?_eq_some_iff.1 h
 have hq : (qtR N D (P.take j)).length = j := by rw [qtR_len, List.length_take]; omega
 obtain ⟨m, hm⟩ : ∃ m, n - j = m + 1 := ⟨n - j - 1, by omega⟩
 have hm2 : n - (j + 1) = m := by omega
 rw [List.set_append_right _ _ (by omega), hq, Nat.sub_self, hm, hm2, List.replicate_succ, List.set_cons_zero, List.take_succ_eq_append_getElem hl]
 unfold qtR
 rw [List.map_append]
 simp only [List.map_cons, List.map_nil, List.append_assoc, List.cons_append, List.nil_append]
theorem shareInfoA : (Tryz.prog.info? 42).map (fun i => (i.zero, i.size, i.bytes)) = some (some (.agg zeroS.toArray), 16, 128) := by kernel_rfl
theorem zeroS_row (n : Nat) : ∀ x ∈ List.replicate n zeroS, x.length = 16 ∧ ∀ v ∈ x, v.oneCell' = true := fun x hx => by
 rw [(List.mem_replicate.1 hx).2]
 exact ⟨rfl, by intro v hv; simp [zeroS] at hv; subst hv; rfl⟩
theorem zeroS_at {j : Nat} (hj : j < 16) : zeroS[j]? = some (.int .u64 0) := by
 have : zeroS = List.replicate 16 (.int .u64 0) := rfl
 rw [this, List.getElem?_replicate, if_pos hj]
theorem qtMake (n : Nat) (hn : n ≤ 1000) : ∃ zs : Array Value, (∀ W, (Instr.makeSlice 45 (.int .i64 n) (.int .i64 n)).run Tryz.prog W = .ok (.slice (some ⟨W.heap.size, 0, none⟩) n n) (W.alloc (.cells zs 42))) ∧
  ∀ W g, Blk W g 42 zs → RowB W g 42 16 (List.replicate n zeroS) := by
 obtain ⟨i0, hi, hz0, hz1, hz2⟩ := info_parts shareInfoA
 refine ⟨_, fun W => run_makeSlice W 45 42 i0 _ Tryz.underlying45 hi hz0 .i64 .i64 n n (by omega) (by omega) (by rw [hz1]; have : maxLen = 9223372036854775807 := rfl; omega) (by rw [hz2]; omega) (by omega), fun W g hb => ?_⟩
 refine ⟨zeroS_row n, _, hb, ?_, fun i x hx j v hv => ?_⟩
 ·rw [size_madeCells, hz1, List.length_replicate]
  simp
 ·obtain ⟨hl, e⟩ := List.getElem?_eq_some_iff.1 hx
  have hx2 : x = zeroS := by rw [← e, List.getElem_replicate]
  subst hx2
  have hi4 : i < n := by rw [List.length_replicate] at hl; exact hl
  have hj : j < 16 := (List.getElem?_eq_some_iff.1 hv).1
  rw [zeroS_at hj] at hv
  obtain rfl := Option.some.inj hv
  have hlt : i * 16 + j < (Int.toNat (n : Int)) * i0.size := by rw [hz1]; have : (i + 1) * 16 ≤ n * 16 := Nat.mul_le_mul_right 16 hi4; simp; omega
  unfold madeCells
  rw [Array.getElem?_map, Array.getElem?_range, if_pos hlt]
  have hm : ∀ r : Nat, r < 16 → (Value.cells (.agg zeroS.toArray))[r]! = .int .u64 0 := by
   intro r hr
   have : Value.cells (.agg zeroS.toArray) = (List.replicate 16 (Value.int .u64 0)).toArray := rfl
   rw [this, getElem!_pos _ r (by rw [List.size_toArray, List.length_replicate]; exact hr), List.getElem_toArray, List.getElem_replicate]
  exact congrArg some (hm _ (Nat.mod_lt _ (by decide)))
def QtPost (w : World) (n : Nat) (rows : List (List Value)) (e : Ending) (w' : World) : Prop :=
 Lat w w' ∧ ∃ g, e = .returned (.tuple #[.slice (some ⟨g, 0, none⟩) n n, .int .i64 0]) ∧ RowB w' g 42 16 rows ∧ w.heap.size ≤ g
set_option maxRecDepth 100000 in
set_option maxHeartbeats 4000000 in
theorem qQuotients_yes (A : Option Addr) (n c : Nat) (xs : List Int) (s k : Int) (w : World) (hs : Sl w .i64 A n xs) (hn : n ≤ 60) (hc : censusB xs = true) (h1 : 1 ≤ s) (h2 : s ≤ 1000) (h3 : 1 ≤ k) (h4 : k ≤ 4) :
  Calls Tryz.prog 20 #[.slice A n c, .int .i64 s, .int .i64 k] w (QtPost w n (qtR (quoN k xs.sum s) (quoD k s) xs)) := by
 obtain ⟨c1, c2, c3⟩ := census_iff.1 hc
 have hb := sum_bound c2
 have hl := hs.1
 obtain ⟨r1, r2, r3, r4⟩ := qnd_range (k := k) c3 (by omega) h1 h2
 have HQ := fun w hs => qQuota_yes A n c xs s k w hs (by omega) hc h1 h2 h3 h4
 have HS := Lib.hid hs
 have HX := Lib.hid c2
 revert HQ r1 r2 r3 r4
 generalize quoN k xs.sum s = N
 generalize quoD k s = D
 intro r1 r2 r3 r4 HQ
 obtain ⟨X, hX⟩ : ∃ X, shA N D = X := ⟨_, rfl⟩
 have gX : GoodX X := by rw [← hX]; exact shA_good _ _
 have HXE := Lib.hid hX
 rw [hX] at HQ
 have i3 := Lib.hid gX.info
 have z3 := Lib.hid gX.1
 have k3 := Lib.hid gX.2.1
 obtain ⟨zs, hmk, hrow⟩ := qtMake n (by omega)
 have HROW := Lib.hid hrow
 clear hX gX c1 c2 c3 hb hc h1 h2 h3 h4 hs hrow
 go_enter Tryz.func20, Tryz.ntmps20
 go_wp2_with fail
 refine (HQ w HS.out).mono ?_
 rintro e w1 ⟨rfl, l1⟩
 have K0 := Blk.new w1 42 #[.int .u64 W8.zero.a0, .int .u64 W8.zero.a1, .int .u64 W8.zero.a2, .int .u64 W8.zero.a3, .int .u64 W8.zero.a4, .int .u64 W8.zero.a5, .int .u64 W8.zero.a6, .int .u64 W8.zero.a7, .int .u64 W8.zero.a0, .int .u64 W8.zero.a1, .int .u64 W8.zero.a2, .int .u64 W8.zero.a3, .int .u64 W8.zero.a4, .int .u64 W8.zero.a5, .int .u64 W8.zero.a6, .int .u64 W8.zero.a7]
 go_upto_region 2 with (refine wpList_put rfl 42 (.tmp 8) (.tmp 18) (by rfl) (by rfl) w1.heap.size (by rfl) X (by rfl) K0 (by rw [z3.out]; rfl) i3.out k3.out ?_; intro w2 hput; have k8 := hput.blk; have l2 := hput.lat w1 (Lat.alloc _ _) (Nat.le_refl _))
 obtain ⟨b8, hb8⟩ : ∃ z, w1.heap.size = z := ⟨_, rfl⟩
 rw [hb8] at k8 ⊢
 have L2 := l1.trans l2
 have h8lt := k8.lt
 clear hput K0 hb8 l1 l2 HQ
 go_upto_region 5 with (fail)
 refine name1 (Q := fun W => Code.wp _ _ _ _ W) ?_
 intro w3 l3 hs3 k10
 obtain ⟨g, hg⟩ : ∃ z, w2.heap.size = z := ⟨_, rfl⟩
 rw [hg] at k10 ⊢
 have hwg : w.heap.size ≤ g := by rw [← hg]; exact L2.size
 have k8 := k8.later l3
 have hrow0 := HROW.out _ _ k10
 have L3 := L2.trans l3
 have h8g : b8 ≠ g := by rw [← hg]; exact Nat.ne_of_lt h8lt
 clear hg hs3 l3 L2 k10 hmk HROW
 go_wp2
 go_loopw [28] (fun i wr => ∃ j : Nat, j ≤ n ∧ i = .int .i64 (j : Nat) ∧ RowB wr g 42 16 (qtR N D (xs.take j) ++ List.replicate (n - j) zeroS) ∧ LatP (· = g) w3 wr) (fun i _ => n - (intOf i).toNat)
 case atStart => exact ⟨0, Nat.zero_le _, rfl, by simpa [qtR] using hrow0, LatP.refl _ _⟩
 case round =>
  obtain ⟨j, hj, rfl, hR, hlr⟩ := hrel
  have Lx : Lat w wr := LatP.lat (M := (· = g)) L3 hlr (fun q e => by subst e; exact hwg)
  by_cases hjn : j < n
  ·obtain ⟨a, x, rfl, hblk, hx, hcell⟩ := (HS.out.later Lx).at hjn
   have k8r := k8.keepP hlr h8g
   have hx0 := HX.out x (List.mem_of_getElem? hx)
   have HOV := fun w => over_any (p := x) hx0.1 hx0.2 r1 r2 r3 r4 w
   rw [HXE.out] at HOV
   have HST := Lib.hid (qt_set (N := N) (D := D) hx hl)
   obtain ⟨Y, hY⟩ : ∃ Y, shA (x * D) N = Y := ⟨_, rfl⟩
   have gY : GoodX Y := by rw [← hY]; exact shA_good _ _
   rw [hY] at HST HOV
   have hYl : Y.toList.length = 16 := by rw [← hY]; rfl
   have hYo : ∀ v ∈ Y.toList, v.oneCell' = true := by
    have := gY.2.1
    rw [Array.all_eq_true'] at this
    exact fun v hv => this v (by simpa using hv)
   have hjI : (j : Int) < (n : Int) := by omega
   have hil : j < (qtR N D (xs.take j) ++ List.replicate (n - j) zeroS).length := by rw [List.length_append, qtR_len, List.length_take, List.length_replicate]; omega
   clear hx hx0 hY gY
   go_wp2_with (refine wpList_get rfl 42 (.tmp 8) (by rfl) b8 (by rfl) k8r _ Tryz.underlying42 rfl i3.out ?_)
   refine (HOV wr).mono ?_
   rintro e w4 ⟨rfl, l4⟩
   have hR4 := hR.later l4
   have hlr4 := hlr.trans (l4.p _)
   clear hR hlr HOV hcell hblk k8r Lx
   go_upto_region 9 with (refine wpList_setM rfl 42 (.tmp 41) (.tmp 39) (by rfl) (by rfl) hR4 hil (o := j * 16) rfl (by rfl) Y.toList (by rfl) hYl shareInfo16 hYo ?_; intro w5 hR5 lp5 hs5)
   rw [HST.out] at hR5
   have hlr5 := hlr4.trans lp5
   clear hR4 hlr4 lp5 hs5 HST hYl hYo hil
   go_wp2
   go_roundw
   case rel =>
    have HRel : ∃ j' : Nat, j' ≤ n ∧ Value.int .i64 ((j : Int) + 1) = .int .i64 (j' : Nat) ∧ RowB w5 g 42 16 (qtR N D (xs.take j') ++ List.replicate (n - j') zeroS) ∧ LatP (· = g) w3 w5 := ⟨j + 1, by omega, by go_num, hR5, hlr5⟩
    first | exact HRel | exact ⟨_, HRel, rfl⟩ | exact ⟨_, _, HRel, rfl⟩ | exact ⟨_, _, _, HRel, rfl⟩ | exact ⟨_, _, _, _, HRel, rfl⟩ | exact ⟨_, _, _, _, _, HRel, rfl⟩
   case measure => simp [intOf]; omega
  ·obtain rfl : j = n := by omega
   rw [Nat.sub_self, List.replicate_zero, List.append_nil, List.take_of_length_le (by omega)] at hR
   go_wp2
   go_ret2
   exact ⟨Lx, g, rfl, hR, hwg⟩
end Go.Proofs.YtbgngmamnonlbaaGreat
