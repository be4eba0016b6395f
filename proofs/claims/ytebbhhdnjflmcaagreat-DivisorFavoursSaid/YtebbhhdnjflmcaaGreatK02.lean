/- Several texts in one: QuoC, QuoD. -/
import Derived.Test.YtebbhhdnjflmcaaGreatK01
import Derived.Test.YtebbhhdnjflmcaaGreatJ38
import Derived.Test.YtebbhhdnjflmcaaGreatJ37

/- The reference's quota: Same. -/
namespace Go.Proofs.YtebbhhdnjflmcaaGreat
open Go.RowKit Go.Shelf
set_option linter.unusedSimpArgs false

set_option maxRecDepth 100000 in
set_option maxHeartbeats 2000000 in
theorem rSame_any (A1 : Option Addr) (n1 c1 : Nat) (S1 : List Int) (A2 : Option Addr) (n2 c2 : Nat) (T1 : List Int) (o1 : Int) (A3 : Option Addr) (n3 c3 : Nat) (S2 : List Int) (A4 : Option Addr) (n4 c4 : Nat) (T2 : List Int) (o2 : Int) (w : World)
    (h1 : Sl w .i64 A1 n1 S1) (h2 : Sl w .i64 A2 n2 T1) (h3 : Sl w .i64 A3 n3 S2) (h4 : Sl w .i64 A4 n4 T2) (b1 : n1 ≤ 17000000000000) (b2 : n2 ≤ 17000000000000) (b3 : n3 ≤ 17000000000000) (b4 : n4 ≤ 17000000000000) :
    Calls Tryz.prog 24 #[.agg #[.slice A1 n1 c1, .slice A2 n2 c2, .int .i64 o1], .agg #[.slice A3 n3 c3, .slice A4 n4 c4, .int .i64 o2]] w (fun e w' => e = .returned (.bool (sameB S1 T1 o1 S2 T2 o2)) ∧ Lat w w') := by
  cases ho : (o1 == o2) with
  | false =>
    have HS : Hid (sameB S1 T1 o1 S2 T2 o2 = false) := by show _ = _; simp [sameB, ho]
    go_enter Tryz.func24, Tryz.ntmps24
    go_upto_region 1 with (fail)
    refine name2 (Q := fun W => Code.wp _ _ _ _ W) ?_
    intro W hl hs k1 k2
    have c1_0 := k1.cell 0
    have c1_1 := k1.cell 1
    have c1_2 := k1.cell 2
    have c2_0 := k2.cell 0
    have c2_1 := k2.cell 1
    have c2_2 := k2.cell 2
    go_wp2
    go_ret
    exact ⟨by rw [HS.out]; rfl, hl⟩
  | true =>
    have HQ := fun w h1 h3 => ints_any A1 n1 c1 S1 A3 n3 c3 S2 w h1 h3 b1 b3
    have HQ2 := fun w h1 h3 => ints_any A2 n2 c2 T1 A4 n4 c4 T2 w h1 h3 b2 b4
    cases hs : (S1 == S2) with
    | false =>
      have HS : Hid (sameB S1 T1 o1 S2 T2 o2 = false) := by show _ = _; simp [sameB, hs]
      have HX := Lib.hid hs
      clear hs
      go_enter Tryz.func24, Tryz.ntmps24
      go_upto_region 1 with (fail)
      refine name2 (Q := fun W => Code.wp _ _ _ _ W) ?_
      intro W hl hs k1 k2
      have c1_0 := k1.cell 0
      have c1_1 := k1.cell 1
      have c1_2 := k1.cell 2
      have c2_0 := k2.cell 0
      have c2_1 := k2.cell 1
      have c2_2 := k2.cell 2
      go_wp2_with fail
      refine (HQ W (h1.later hl) (h3.later hl)).mono ?_
      rintro e w1 ⟨rfl, l1⟩
      rw [HX.out]
      clear c1_0 c1_1 c1_2 c2_0 c2_1 c2_2
      go_wp2
      go_ret
      exact ⟨by rw [HS.out]; rfl, hl.trans l1⟩
    | true =>
      have HS : Hid (sameB S1 T1 o1 S2 T2 o2 = (T1 == T2)) := by show _ = _; simp [sameB, hs, ho]
      have HX := Lib.hid hs
      obtain ⟨tb, htb⟩ : ∃ tb, (T1 == T2) = tb := ⟨_, rfl⟩
      rw [htb] at HS HQ2
      clear hs htb
      go_enter Tryz.func24, Tryz.ntmps24
      go_upto_region 1 with (fail)
      refine name2 (Q := fun W => Code.wp _ _ _ _ W) ?_
      intro W hl hs k1 k2
      have c1_0 := k1.cell 0
      have c1_1 := k1.cell 1
      have c1_2 := k1.cell 2
      have c2_0 := k2.cell 0
      have c2_1 := k2.cell 1
      have c2_2 := k2.cell 2
      go_wp2_with fail
      refine (HQ W (h1.later hl) (h3.later hl)).mono ?_
      rintro e w1 ⟨rfl, l1⟩
      rw [HX.out]
      clear c1_0 c1_1 c1_2 c2_0 c2_1 c2_2
      have K1 := k1.later l1
      have K2 := k2.later l1
      have c1_0 := K1.cell 0
      have c1_1 := K1.cell 1
      have c1_2 := K1.cell 2
      have c2_0 := K2.cell 0
      have c2_1 := K2.cell 1
      have c2_2 := K2.cell 2
      go_wp2_with fail
      refine (HQ2 w1 (h2.later (hl.trans l1)) (h4.later (hl.trans l1))).mono ?_
      rintro e w2 ⟨rfl, l2⟩
      clear c1_0 c1_1 c1_2 c2_0 c2_1 c2_2
      cases tb
      all_goals
        go_wp2
        go_ret
        exact ⟨by rw [HS.out]; rfl, (hl.trans l1).trans l2⟩

end Go.Proofs.YtebbhhdnjflmcaaGreat

/- The reference's quota: Minimums. -/
namespace Go.Proofs.YtebbhhdnjflmcaaGreat
open Go.RowKit
set_option linter.unusedSimpArgs false

/-- The minimums may be. -/
def minB (n : Nat) (seats : Int) (L : List Int) : Bool := lowB n seats L && decide ((lowOf n L).sum ≤ seats)
def MinPost (w : World) (n : Nat) (b : Bool) (L : List Int) (e : Ending) (w' : World) : Prop :=
  ∃ A n' c, e = .returned (.tuple #[.slice A n' c, .bool b]) ∧ (b = true → n' = n ∧ Sl w' .i64 A n (lowOf n L)) ∧ Lat w w'
theorem sum_zeros (n : Nat) : (List.replicate n (0 : Int)).sum = 0 := by induction n with | zero => rfl | succ n ih => rw [List.replicate_succ, List.sum_cons, ih]; rfl
theorem minB_nil {n : Nat} {seats : Int} (hs : 1 ≤ seats) : minB n seats [] = true := by
  simp only [minB, lowB, lowOf_nil, List.length_replicate, decide_true, Bool.true_and, Bool.and_eq_true, decide_eq_true_eq, sum_zeros, inAll_iff]
  exact ⟨fun x hx => by rw [List.mem_replicate] at hx; omega, by omega⟩

set_option maxHeartbeats 1000000 in
theorem min_nil (n : Nat) (seats : Int) (Al : Option Addr) (cl : Nat) (w : World) (hn : n ≤ 1000) (hs : 1 ≤ seats) :
    Calls Tryz.prog 74 #[.int .i64 n, .int .i64 seats, .slice Al 0 cl] w (MinPost w n (minB n seats []) []) := by
  have HM := Lib.hid (minB_nil (n := n) hs)
  have hmk := run_make_nums (P := Tryz.prog) (t := 44) (e := 3) (k := .i64) (by_ := 8) Tryz.underlying44 (by kernel_rfl) (n : Int) n rfl (by omega) (by omega)
  rw [HM.out]
  clear hs
  go_enter Tryz.func74, Tryz.ntmps74
  go_wp2_with fail
  go_ret2
  exact ⟨some ⟨w.heap.size, 0, none⟩, n, n, rfl, fun _ => ⟨rfl, by rw [lowOf_nil]; exact Sl.of_blk' (t := 3) (Blk.new _ _ _) (by simp)⟩, Lat.alloc _ _⟩

theorem low_bad {n : Nat} {seats : Int} {L : List Int} {x : Int} {k : Nat} (h : L[k]? = some x) (hx : x < 0 ∨ seats < x) : minB n seats L = false := by
  have hne : L ≠ [] := by rintro rfl; simp at h
  rw [← Bool.not_eq_true]
  intro hc
  simp only [minB, lowB, lowOf_of hne, Bool.and_eq_true, inAll_iff] at hc
  have := hc.1.2 x (List.mem_of_getElem? h)
  omega
theorem minB_of {n : Nat} {seats : Int} {L : List Int} (hne : L ≠ []) (h : ∀ x ∈ L, 0 ≤ x ∧ x ≤ seats) : minB n seats L = (decide (L.length = n) && decide (L.sum ≤ seats)) := by
  have : inAll 0 seats L = true := inAll_iff.2 h
  simp [minB, lowB, lowOf_of hne, this]

set_option maxHeartbeats 1000000 in
theorem min_any (n : Nat) (seats : Int) (Al : Option Addr) (nl cl : Nat) (L : List Int) (w : World) (hl : Sl w .i64 Al nl L) (hnl : nl ≤ 1000) (h0 : nl ≠ 0) (hs : 1 ≤ seats) (hs' : seats ≤ 1000) (hn : n ≤ 1000) :
    Calls Tryz.prog 74 #[.int .i64 n, .int .i64 seats, .slice Al nl cl] w (MinPost w n (minB n seats L) L) := by
  have hll := hl.1
  have hne : L ≠ [] := by rintro rfl; exact h0 hll.symm
  have HNE := Lib.hid hne
  have h0' : ((nl : Int) == 0) = false := by simp; omega
  clear hll hne
  go_enter Tryz.func74, Tryz.ntmps74
  go_wp2
  go_loop [8, 9] (fun t i => ∃ k : Nat, k ≤ nl ∧ i = .int .i64 k ∧ t = .int .i64 (L.take k).sum ∧ Hid (∀ x ∈ L.take k, 0 ≤ x ∧ x ≤ seats)) (fun _ i => nl - (intOf i).toNat)
  case atStart => exact ⟨0, Nat.zero_le _, rfl, rfl, fun x hx => by simp at hx⟩
  case round =>
    obtain ⟨k, hk, rfl, rfl, hB⟩ := hrel
    have hb := sum_bound (xs := L.take k) (fun x hx => by have := hB.out x hx; omega)
    have hll : (L.take k).length ≤ k := List.length_take_le _ _
    by_cases hlt : k < nl
    · obtain ⟨a, x, rfl, ha, hxk, hcell⟩ := hl.at hlt
      by_cases hx0 : x < 0
      · have HC := Lib.hid (low_bad (n := n) (seats := seats) hxk (.inl hx0))
        rw [HC.out]
        clear hxk hb
        go_wp2
        go_ret2
        exact ⟨none, 0, 0, rfl, (fun h => by cases h), Lat.refl _⟩
      · by_cases hx1 : seats < x
        · have HC := Lib.hid (low_bad (n := n) hxk (.inr hx1))
          rw [HC.out]
          clear hxk hb
          go_wp2
          go_ret2
          exact ⟨none, 0, 0, rfl, (fun h => by cases h), Lat.refl _⟩
        · have hT := Lib.hid (sum_take hxk)
          have x0 : 0 ≤ x := by omega
          have x1 : x ≤ seats := by omega
          have HN : Hid (∀ y ∈ L.take (k + 1), 0 ≤ y ∧ y ≤ seats) := by
            intro y hy
            obtain ⟨hl, rfl⟩ := List.getElem?_eq_some_iff.1 hxk
            rw [List.take_succ_eq_append_getElem hl, List.mem_append, List.mem_singleton] at hy
            rcases hy with hy | rfl
            · exact hB.out y hy
            · exact ⟨x0, x1⟩
          clear hxk
          obtain ⟨s, hs'⟩ : ∃ s, (L.take k).sum = s := ⟨_, rfl⟩
          rw [hs'] at hb ⊢
          have HS := Lib.hid hs'
          clear hs'
          have b0 := hb.1
          have b1 := hb.2
          have b2 : s ≤ 1000000000000 := by omega
          clear hb b1
          go_wp2
          go_round
          case rel => exact ⟨k + 1, by omega, by go_num, by rw [hT.out, HS.out], HN.out⟩
          case measure => simp [intOf]; omega
    · obtain rfl : k = nl := by omega
      have hT : L.take k = L := List.take_of_length_le (by have := hl.1; omega)
      have HC : Hid (minB n seats L = (decide (k = n) && decide (L.sum ≤ seats))) := by
        show _ = _
        rw [minB_of HNE.out (by have := hB.out; rwa [hT] at this), hl.1]
      have HLO := Lib.hid (lowOf_of (n := n) HNE.out)
      rw [hT] at hb ⊢
      clear hT
      obtain ⟨s, hs'⟩ : ∃ s, L.sum = s := ⟨_, rfl⟩
      rw [hs'] at hb HC ⊢
      have b0 := hb.1
      clear hb hs'
      by_cases hkn : k = n
      · subst hkn
        by_cases hp : s ≤ seats
        · have HC' : Hid (minB k seats L = true) := by show _ = _; rw [HC.out]; simp [hp]
          clear HC
          go_wp2
          go_ret2
          exact ⟨Al, k, cl, by rw [HC'.out]; rfl, fun _ => ⟨rfl, by rw [HLO.out]; exact hl⟩, Lat.refl _⟩
        · have HC' : Hid (minB k seats L = false) := by show _ = _; rw [HC.out]; simp [hp]
          clear HC
          go_wp2
          go_ret2
          exact ⟨Al, k, cl, by rw [HC'.out]; rfl, (fun h => by rw [HC'.out] at h; cases h), Lat.refl _⟩
      · have HC' : Hid (minB n seats L = false) := by show _ = _; rw [HC.out]; simp [hkn]
        have hkn' : ¬ (k : Int) = (n : Int) := by omega
        clear HC
        go_wp2
        go_ret2
        exact ⟨Al, k, cl, by rw [HC'.out]; rfl, (fun h => by rw [HC'.out] at h; cases h), Lat.refl _⟩

theorem minimums_any (n : Nat) (seats : Int) (Al : Option Addr) (nl cl : Nat) (L : List Int) (w : World) (hl : Sl w .i64 Al nl L) (hnl : nl ≤ 1000) (hs : 1 ≤ seats) (hs' : seats ≤ 1000) (hn : n ≤ 1000) :
    Calls Tryz.prog 74 #[.int .i64 n, .int .i64 seats, .slice Al nl cl] w (MinPost w n (minB n seats L) L) := by
  by_cases h0 : nl = 0
  · subst h0
    obtain rfl : L = [] := List.eq_nil_of_length_eq_zero hl.1
    exact min_nil n seats Al cl w hn hs
  · exact min_any n seats Al nl cl L w hl hnl h0 hs hs' hn
end Go.Proofs.YtebbhhdnjflmcaaGreat
