/- Several texts in one: QuoA, QuoB. -/
import Derived.Test.YtebbhhdnjflmcaaGreatJ32
import Derived.Still

/- The reference's quota: total, Right, Check. -/
namespace Go.Proofs.YtebbhhdnjflmcaaGreat
open Go.RowKit

theorem census_of {xs : List Int} (hx : ∀ x ∈ xs, 0 ≤ x ∧ x ≤ 1000000000) : censusB xs = (decide (xs.length ≤ 60) && decide (0 < xs.sum)) := by
  rw [Bool.eq_iff_iff, census_iff]
  simp
  exact fun _ _ => hx
theorem census_bad {xs : List Int} {x : Int} {k : Nat} (h : xs[k]? = some x) (hx : x < 0 ∨ 1000000000 < x) : censusB xs = false := by
  rw [← Bool.not_eq_true, census_iff]
  intro hc
  have := hc.2.1 x (List.mem_of_getElem? h)
  omega

def TotPost (w : World) (b : Bool) (e : Ending) (w' : World) : Prop := ∃ r : Int, e = .returned (.tuple #[.int .i64 r, .bool b]) ∧ w = w'
set_option maxHeartbeats 1000000 in
theorem qTotal_any (A : Option Addr) (n c : Nat) (xs : List Int) (w : World) (hs : Sl w .i64 A n xs) (hn : n ≤ 1000) :
    Calls Tryz.prog 133 #[.slice A n c] w (TotPost w (censusB xs)) := by
  go_enter Tryz.func133, Tryz.ntmps133
  go_wp2
  go_loop [4, 5] (fun t i => ∃ k : Nat, k ≤ n ∧ i = .int .i64 k ∧ t = .int .i64 (xs.take k).sum ∧ Hid (∀ x ∈ xs.take k, 0 ≤ x ∧ x ≤ 1000000000)) (fun _ i => n - (intOf i).toNat)
  case atStart => exact ⟨0, Nat.zero_le _, rfl, rfl, fun x hx => by simp at hx⟩
  case round =>
    obtain ⟨k, hk, rfl, rfl, hB⟩ := hrel
    have hb := sum_bound (xs := xs.take k) hB.out
    have hll : (xs.take k).length ≤ k := List.length_take_le _ _
    by_cases hlt : k < n
    · obtain ⟨a, x, rfl, ha, hxk, hcell⟩ := hs.at hlt
      by_cases hx0 : x < 0
      · have HC := Lib.hid (census_bad hxk (.inl hx0))
        clear hxk hb
        go_wp2
        go_ret2
        exact ⟨0, by rw [HC.out]; rfl, rfl⟩
      · by_cases hx1 : 1000000000 < x
        · have HC := Lib.hid (census_bad hxk (.inr hx1))
          have hx0' : 0 ≤ x := by omega
          clear hxk hb hx0
          go_wp2
          go_ret2
          exact ⟨0, by rw [HC.out]; rfl, rfl⟩
        · have hT := Lib.hid (sum_take hxk)
          have x0 : 0 ≤ x := by omega
          have x1 : x ≤ 1000000000 := by omega
          have HN : Hid (∀ y ∈ xs.take (k + 1), 0 ≤ y ∧ y ≤ 1000000000) := by
            intro y hy
            obtain ⟨hl, rfl⟩ := List.getElem?_eq_some_iff.1 hxk
            rw [List.take_succ_eq_append_getElem hl, List.mem_append, List.mem_singleton] at hy
            rcases hy with hy | rfl
            · exact hB.out y hy
            · exact ⟨x0, x1⟩
          clear hxk
          obtain ⟨s, hs'⟩ : ∃ s, (xs.take k).sum = s := ⟨_, rfl⟩
          rw [hs'] at hb ⊢
          have HS := Lib.hid hs'
          clear hs'
          have b0 := hb.1
          have b1 := hb.2
          have b2 : s ≤ 1000000000000 := by omega
          clear hb b1 hx0 hx1
          go_wp2
          go_round
          case rel => exact ⟨k + 1, by omega, by go_num, by rw [hT.out, HS.out], HN.out⟩
          case measure => simp [intOf]; omega
    · obtain rfl : k = n := by omega
      have hT : xs.take k = xs := List.take_of_length_le (by have := hs.1; omega)
      have HC : Hid (censusB xs = (decide (k ≤ 60) && decide (0 < xs.sum))) := by
        show _ = _
        rw [census_of (by have := hB.out; rwa [hT] at this), hs.1]
      rw [hT] at hb ⊢
      clear hT
      obtain ⟨s, hs'⟩ : ∃ s, xs.sum = s := ⟨_, rfl⟩
      rw [hs'] at hb HC ⊢
      have b0 := hb.1
      clear hb hs'
      by_cases h60 : k ≤ 60
      · by_cases hp : 0 < s
        · have HC' : Hid (censusB xs = true) := by show _ = _; rw [HC.out]; simp [h60, hp]
          clear HC
          go_wp2
          go_ret2
          exact ⟨s, by rw [HC'.out]; rfl, rfl⟩
        · have HC' : Hid (censusB xs = false) := by show _ = _; rw [HC.out]; simp [hp]
          clear HC
          go_wp2
          go_ret2
          exact ⟨s, by rw [HC'.out]; rfl, rfl⟩
      · have HC' : Hid (censusB xs = false) := by show _ = _; rw [HC.out]; simp [h60]
        clear HC
        go_wp2
        go_ret2
        exact ⟨s, by rw [HC'.out]; rfl, rfl⟩

set_option maxHeartbeats 1000000 in
theorem qRight_any (A : Option Addr) (n c : Nat) (xs : List Int) (w : World) (hs : Sl w .i64 A n xs) (hn : n ≤ 1000) :
    Calls Tryz.prog 106 #[.slice A n c] w (fun e w' => e = .returned (.bool (censusB xs)) ∧ w = w') := by
  have HT := Lib.hid (qTotal_any A n c xs w hs hn)
  go_enter Tryz.func106, Tryz.ntmps106
  go_wp2_with fail
  refine HT.out.mono ?_
  rintro e w1 ⟨r, rfl, rfl⟩
  go_wp2
  go_ret
  exact ⟨rfl, rfl⟩
set_option maxHeartbeats 1000000 in
theorem rCheck_any (A : Option Addr) (n c : Nat) (xs : List Int) (w : World) (hs : Sl w .i64 A n xs) (hn : n ≤ 1000) :
    Calls Tryz.prog 73 #[.slice A n c] w (fun e w' => e = .returned (.int .i64 (cenE xs)) ∧ w = w') := by
  have HT := Lib.hid (qRight_any A n c xs w hs hn)
  cases hc : censusB xs with
  | true =>
    have HC := Lib.hid (cenE_yes hc)
    have H0 := Lib.hid hc
    clear hc
    go_enter Tryz.func73, Tryz.ntmps73
    go_wp2_with fail
    refine HT.out.mono ?_
    rintro e w1 ⟨rfl, rfl⟩
    rw [H0.out]
    go_wp2
    go_ret
    exact ⟨by rw [HC.out]; rfl, rfl⟩
  | false =>
    have HC := Lib.hid (cenE_no hc)
    have H0 := Lib.hid hc
    clear hc
    go_enter Tryz.func73, Tryz.ntmps73
    go_wp2_with fail
    refine HT.out.mono ?_
    rintro e w1 ⟨rfl, rfl⟩
    rw [H0.out]
    go_wp2
    go_ret
    exact ⟨by rw [HC.out]; rfl, rfl⟩
end Go.Proofs.YtebbhhdnjflmcaaGreat

/- The reference's quota: Ints. -/
namespace Go.Proofs.YtebbhhdnjflmcaaGreat
open Go.RowKit

theorem take_ne {xs ys : List Int} {k : Nat} {x y : Int} (hx : xs[k]? = some x) (hy : ys[k]? = some y) (h : x ≠ y) : (xs == ys) = false := by
  rw [beq_eq_false_iff_ne]
  rintro rfl
  rw [hx] at hy
  exact h (by simpa using hy)
theorem take_eq {xs ys : List Int} {k : Nat} {x : Int} (hx : xs[k]? = some x) (hy : ys[k]? = some x) (h : xs.take k = ys.take k) : xs.take (k + 1) = ys.take (k + 1) := by
  obtain ⟨hl, rfl⟩ := List.getElem?_eq_some_iff.1 hx
  obtain ⟨hl2, e⟩ := List.getElem?_eq_some_iff.1 hy
  rw [List.take_succ_eq_append_getElem hl, List.take_succ_eq_append_getElem hl2, h, e]

set_option maxHeartbeats 1000000 in
theorem ints_any (A1 : Option Addr) (n1 c1 : Nat) (xs : List Int) (A2 : Option Addr) (n2 c2 : Nat) (ys : List Int) (w : World) (h1 : Sl w .i64 A1 n1 xs) (h2 : Sl w .i64 A2 n2 ys) (hn1 : n1 ≤ 17000000000000) (hn2 : n2 ≤ 17000000000000) :
    Calls Tryz.prog 47 #[.slice A1 n1 c1, .slice A2 n2 c2] w (fun e w' => e = .returned (.bool (xs == ys)) ∧ Lat w w') := by
  have e1 := h1.1
  have e2 := h2.1
  by_cases hne : n1 = n2
  · subst hne
    go_enter Tryz.func47, Tryz.ntmps47
    go_wp2
    go_loopw [5] (fun i wr => ∃ k : Nat, k ≤ n1 ∧ i = .int .i64 k ∧ Hid (xs.take k = ys.take k) ∧ Lat w wr) (fun i _ => n1 - (intOf i).toNat)
    case atStart => exact ⟨0, Nat.zero_le _, rfl, rfl, Lat.refl _⟩
    case round =>
      obtain ⟨k, hk, rfl, hT, hlr⟩ := hrel
      by_cases hlt : k < n1
      · obtain ⟨a, x, rfl, ha, hxk, hcx⟩ := (h1.later hlr).at hlt
        obtain ⟨b, y, rfl, hb, hyk, hcy⟩ := (h2.later hlr).at hlt
        by_cases hxy : x = y
        · subst hxy
          have HN := Lib.hid (take_eq hxk hyk hT.out)
          clear hxk hyk e1 e2 h1 h2
          go_wp2
          go_region
          go_wp2
          go_roundw
          case rel => exact ⟨k + 1, by omega, by go_num, HN.out, hlr.trans (Lat.drew _)⟩
          case measure => simp [intOf]; omega
        · have HN := Lib.hid (take_ne hxk hyk hxy)
          clear hxk hyk e1 e2 h1 h2
          go_wp2
          go_region
          go_wp2
          go_ret
          exact ⟨by rw [HN.out]; rfl, hlr.trans (Lat.drew _)⟩
      · obtain rfl : k = n1 := by omega
        have HN : Hid ((xs == ys) = true) := by
          show _ = _
          have := hT.out
          rw [List.take_of_length_le (by omega), List.take_of_length_le (by omega)] at this
          rw [this]; exact beq_self_eq_true _
        go_wp2
        go_ret
        exact ⟨by rw [HN.out]; rfl, hlr⟩
  · have HN : Hid ((xs == ys) = false) := by
      show _ = _
      rw [beq_eq_false_iff_ne]
      rintro rfl
      omega
    have hne' : ¬ (n1 : Int) = (n2 : Int) := by omega
    clear e1 e2
    go_enter Tryz.func47, Tryz.ntmps47
    go_wp2
    go_ret
    exact ⟨by rw [HN.out]; rfl, Lat.refl _⟩
end Go.Proofs.YtebbhhdnjflmcaaGreat
