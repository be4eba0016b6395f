/- Several texts in one: DivA, DivB, DivC0, Check. -/
import Derived.Test.YtbgngmamnonlbaaGreatH13
import Derived.Test.YtbgngmamnonlbaaGreatH14
import Derived.Laws.EntriesVeiled
import Derived.Test.YtbgngmamnonlbaaGreatH24
namespace Go.Proofs.YtbgngmamnonlbaaGreat
open Go.RowKit
end Go.Proofs.YtbgngmamnonlbaaGreat
namespace Go.Proofs.YtbgngmamnonlbaaGreat
open Go.RowKit
def outB (lo hi n : Int) : Bool := decide (n < lo) || decide (hi < n)
theorem outB_lo {lo hi n : Int} (h : n < lo) : outB lo hi n = true := by simp [outB, h]
theorem outB_hi {lo hi n : Int} (h : hi < n) : outB lo hi n = true := by simp [outB, h]
theorem check1_any (n : Int) (w : World) :
  Calls Tryz.prog 39 #[.int .i64 n] w (fun e w' => e = .returned (.bool (outB 0 1000000000 n)) ∧ w = w') := by
 by_cases h1 : n < 0
 ·have HO := Lib.hid (outB_lo (hi := 1000000000) h1)
  go_enter Tryz.func39, Tryz.ntmps39
  go_wp2
  go_ret
  exact ⟨by rw [HO.out]; rfl, rfl⟩
 ·by_cases h2 : 1000000000 < n
  ·have HO := Lib.hid (outB_hi (lo := 0) h2)
   have h1' : 0 ≤ n := by omega
   clear h1
   go_enter Tryz.func39, Tryz.ntmps39
   go_wp2
   go_ret
   exact ⟨by rw [HO.out]; rfl, rfl⟩
  ·have h1' : 0 ≤ n := by omega
   have h2' : n ≤ 1000000000 := by omega
   clear h1 h2
   go_enter Tryz.func39, Tryz.ntmps39
   go_wp2
   go_ret
   exact ⟨rfl, rfl⟩
def IdxCheck (w : World) (xs : List Int) (e : Ending) (w' : World) : Prop := ∃ r : Int, e = .returned (.int .i64 r) ∧ (xs.any (outB 0 1000000000) = true → 0 ≤ r) ∧ (xs.any (outB 0 1000000000) = false → r < 0) ∧ w = w'
set_option maxHeartbeats 1000000 in
theorem idxCheck (A : Option Addr) (n c : Nat) (xs : List Int) (w : World) (hs : Sl w .i64 A n xs) (hn : n ≤ 17000000000000) :
  Calls Tryz.prog 63 #[.slice A n c, .func (.func 39) #[] #[]] w (IdxCheck w xs ) := by
 go_enter Tryz.func63, Tryz.ntmps63
 go_wp2
 go_loop [8] (fun i => ∃ k : Nat, k ≤ n ∧ i = .int .i64 k ∧ Hid ((xs.take k).any (outB 0 1000000000) = false)) (fun i => n - (intOf i).toNat)
 case atStart => exact ⟨0, Nat.zero_le _, rfl, rfl⟩
 case round =>
  obtain ⟨k, hk, rfl, hno⟩ := hrel
  by_cases hlt : k < n
  ·obtain ⟨a, x, rfl, ha, hxk, hcell⟩ := hs.at hlt
   have HX := Lib.hid hxk
   have HT : Hid ((xs.take (k + 1)).any (outB 0 1000000000) = (outB 0 1000000000) x) := by
    obtain ⟨hl, rfl⟩ := List.getElem?_eq_some_iff.1 hxk
    show _ = _
    rw [List.take_succ_eq_append_getElem hl, List.any_append, hno.out]; simp
   have HM := Lib.hid (List.mem_of_getElem? hxk)
   clear hxk
   by_cases hp : (outB 0 1000000000) x = true
   ·have HA : Hid (xs.any (outB 0 1000000000) = true) := by show _ = _; rw [List.any_eq_true]; exact ⟨x, HM.out, hp⟩
    have HP := Lib.hid hp
    clear hp
    go_wp2_with fail
    refine (check1_any x _).mono ?_
    rintro e w1 ⟨rfl, rfl⟩
    rw [HP.out]
    go_wp2
    go_ret
    exact ⟨k, rfl, (fun _ => by omega), (fun h => by rw [HA.out] at h; cases h), rfl⟩
   ·have hp' : (outB 0 1000000000) x = false := by simpa using hp
    have HP := Lib.hid hp'
    clear hp hp'
    go_wp2_with fail
    refine (check1_any x _).mono ?_
    rintro e w1 ⟨rfl, rfl⟩
    rw [HP.out]
    go_wp2
    go_round
    case rel => exact ⟨k + 1, by omega, by go_num, by rw [HT.out, HP.out]; rfl⟩
    case measure => simp [intOf]; omega
  ·obtain rfl : k = n := by omega
   have HA : Hid (xs.any (outB 0 1000000000) = false) := by
    have := hno.out
    rw [List.take_of_length_le (by have := hs.1; omega)] at this
    exact this
   go_wp2
   go_ret
   exact ⟨-1, rfl, (fun h => by rw [HA.out] at h; cases h), (fun _ => by omega), rfl⟩
theorem hasCheck (A : Option Addr) (n c : Nat) (xs : List Int) (w : World) (hs : Sl w .i64 A n xs) (hn : n ≤ 17000000000000) :
  Calls Tryz.prog 40 #[.slice A n c, .func (.func 39) #[] #[]] w (fun e w' => e = .returned (.bool (xs.any (outB 0 1000000000))) ∧ w = w') := by
 have HI := idxCheck A n c xs w hs hn
 go_enter Tryz.func40, Tryz.ntmps40
 go_wp2_with fail
 refine HI.mono ?_
 rintro e w1 ⟨r, rfl, h1, h2, rfl⟩
 cases hb : xs.any (outB 0 1000000000) with
 | true =>
   have h0 := h1 hb
   have HB := Lib.hid hb
   clear h1 h2 hb
   go_wp2
   go_ret
   exact ⟨by rw [HB.out]; rfl, rfl⟩
 | false =>
   have h0 := h2 hb
   have h0' : decide (0 ≤ r) = false := by simp; omega
   have HB := Lib.hid hb
   clear h1 h2 hb
   go_wp2
   go_ret
   exact ⟨by rw [HB.out]; rfl, rfl⟩
def inAll (lo hi : Int) (xs : List Int) : Bool := !xs.any (outB lo hi)
end Go.Proofs.YtbgngmamnonlbaaGreat
namespace Go.Proofs.YtbgngmamnonlbaaGreat
open Go.RowKit
end Go.Proofs.YtbgngmamnonlbaaGreat
namespace Go.Proofs.YtbgngmamnonlbaaGreat
open Go.RowKit
theorem sum_bound {xs : List Int} (h : ∀ x ∈ xs, 0 ≤ x ∧ x ≤ 1000000000) : 0 ≤ xs.sum ∧ xs.sum ≤ 1000000000 * xs.length := by
 induction xs with
 | nil => simp
 | cons y r ih =>
   have h1 := h y (by simp)
   have h2 := ih (fun x hx => h x (by simp [hx]))
   simp only [List.sum_cons, List.length_cons]
   omega
theorem sum_take {xs : List Int} {k : Nat} {x : Int} (h : xs[k]? = some x) : (xs.take (k + 1)).sum = (xs.take k).sum + x := by
 obtain ⟨hl, rfl⟩ := List.getElem?_eq_some_iff.1 h
 rw [List.take_succ_eq_append_getElem hl, List.sum_append]
 simp
set_option maxHeartbeats 1000000 in
theorem qSum_any (A : Option Addr) (n c : Nat) (xs : List Int) (w : World) (hs : Sl w .i64 A n xs) (hn : n ≤ 1000) (hx : ∀ x ∈ xs, 0 ≤ x ∧ x ≤ 1000000000) :
  Calls Tryz.prog 37 #[.slice A n c] w (fun e w' => e = .returned (.int .i64 xs.sum) ∧ w = w') := by
 have HB := Lib.hid hx
 clear hx
 go_enter Tryz.func37, Tryz.ntmps37
 go_wp2
 go_loop [3, 8] (fun t i => ∃ k : Nat, k ≤ n ∧ i = .int .i64 k ∧ t = .int .i64 (xs.take k).sum) (fun _ i => n - (intOf i).toNat)
 case atStart => exact ⟨0, Nat.zero_le _, rfl, rfl⟩
 case round =>
  obtain ⟨k, hk, rfl, rfl⟩ := hrel
  have hb := sum_bound (xs := xs.take k) (fun x h => HB.out x (List.mem_of_mem_take h))
  have hll : (xs.take k).length ≤ k := List.length_take_le _ _
  by_cases hlt : k < n
  ·obtain ⟨a, x, rfl, ha, hxk, hcell⟩ := hs.at hlt
   have hT := Lib.hid (sum_take hxk)
   have hxb := HB.out x (List.mem_of_getElem? hxk)
   clear hxk
   obtain ⟨s, hs'⟩ : ∃ s, (xs.take k).sum = s := ⟨_, rfl⟩
   rw [hs'] at hb ⊢
   have HS := Lib.hid hs'
   clear hs'
   have b0 := hb.1
   have b1 := hb.2
   have x0 := hxb.1
   have x1 := hxb.2
   have b2 : s ≤ 1000000000000 := by omega
   clear hb hxb b1
   go_wp2
   go_round
   case rel => exact ⟨k + 1, by omega, by go_num, by rw [hT.out, HS.out]⟩
   case measure => simp [intOf]; omega
  ·obtain rfl : k = n := by omega
   have HT : Hid (xs.take k = xs) := List.take_of_length_le (by have := hs.1; omega)
   clear hb
   go_wp2
   go_ret
   exact ⟨by rw [HT.out]; rfl, rfl⟩
def censusB (xs : List Int) : Bool := decide (xs.length ≤ 60) && inAll 0 1000000000 xs && !(xs.sum == 0)
theorem inAll_iff {lo hi : Int} {xs : List Int} : inAll lo hi xs = true ↔ ∀ x ∈ xs, lo ≤ x ∧ x ≤ hi := by
 unfold inAll
 rw [Bool.not_eq_true', ← Bool.not_eq_true, List.any_eq_true]
 constructor
 ·intro h x hx
  by_cases hh : lo ≤ x ∧ x ≤ hi
  ·exact hh
  ·exact absurd ⟨x, hx, by simp [outB]; omega⟩ h
 ·rintro h ⟨x, hx, ho⟩
  have := h x hx
  simp [outB] at ho
  omega
theorem census_iff {xs : List Int} : censusB xs = true ↔ xs.length ≤ 60 ∧ (∀ x ∈ xs, 0 ≤ x ∧ x ≤ 1000000000) ∧ 0 < xs.sum := by
 simp only [censusB, Bool.and_eq_true, decide_eq_true_eq, inAll_iff, Bool.not_eq_true', beq_eq_false_iff_ne]
 constructor
 ·rintro ⟨⟨h1, h2⟩, h3⟩
  exact ⟨h1, h2, by have := (sum_bound h2).1; omega⟩
 ·rintro ⟨h1, h2, h3⟩
  exact ⟨⟨h1, h2⟩, by omega⟩
def cenE (xs : List Int) : Int := if censusB xs then 0 else 60
theorem cenE_yes {xs : List Int} (h : censusB xs = true) : cenE xs = 0 := by rw [cenE, if_pos h]
theorem cenE_no {xs : List Int} (h : censusB xs = false) : cenE xs = 60 := by rw [cenE, if_neg (by simp [h])]
set_option maxHeartbeats 1000000 in
theorem qCheck_any (A : Option Addr) (n c : Nat) (xs : List Int) (w : World) (hs : Sl w .i64 A n xs) (hn : n ≤ 17000000000000) :
  Calls Tryz.prog 15 #[.slice A n c] w (fun e w' => e = .returned (.int .i64 (cenE xs)) ∧ w = w') := by
 have hlen := hs.1
 by_cases h1 : 60 < n
 ·have HC : Hid (cenE xs = 60) := by
   refine cenE_no ?_
   rw [← Bool.not_eq_true, census_iff]; omega
  have hd : decide ((60 : Int) < (n : Int)) = true := by simp; omega
  have hi : (60 : Int) < (n : Int) := by omega
  go_enter Tryz.func15, Tryz.ntmps15
  go_wp2
  go_ret
  exact ⟨by rw [HC.out]; rfl, rfl⟩
 ·have hd : decide ((60 : Int) < (n : Int)) = false := by simp; omega
  have hi : ¬ (60 : Int) < (n : Int) := by omega
  have HK := Lib.hid (hasCheck A n c xs w hs hn)
  cases ha : xs.any (outB 0 1000000000) with
  | true =>
    have HC : Hid (cenE xs = 60) := cenE_no (by simp [censusB, inAll, ha])
    have HA := Lib.hid ha
    clear ha
    go_enter Tryz.func15, Tryz.ntmps15
    go_wp2_with fail
    refine HK.out.mono ?_
    rintro e w1 ⟨rfl, rfl⟩
    rw [HA.out]
    go_wp2
    go_ret
    exact ⟨by rw [HC.out]; rfl, rfl⟩
  | false =>
    have hx : ∀ x ∈ xs, 0 ≤ x ∧ x ≤ 1000000000 := inAll_iff.1 (by rw [inAll, ha]; rfl)
    have HS := Lib.hid (qSum_any A n c xs w hs (by omega) hx)
    have HA := Lib.hid ha
    have HC' : Hid (censusB xs = !(xs.sum == 0)) := by
     show _ = _
     have : xs.length ≤ 60 := by omega
     simp [censusB, inAll, ha, this]
    clear ha hx
    cases hz : (xs.sum == 0) with
    | true =>
      have HC : Hid (cenE xs = 60) := cenE_no (by rw [HC'.out, hz]; rfl)
      have HZ := Lib.hid hz
      clear hz
      go_enter Tryz.func15, Tryz.ntmps15
      go_wp2_with fail
      refine HK.out.mono ?_
      rintro e w1 ⟨rfl, rfl⟩
      rw [HA.out]
      go_wp2_with fail
      refine HS.out.mono ?_
      rintro e w1 ⟨rfl, rfl⟩
      have hz := HZ.out
      go_wp2
      go_ret
      exact ⟨by rw [HC.out]; rfl, rfl⟩
    | false =>
      have HC : Hid (cenE xs = 0) := cenE_yes (by rw [HC'.out, hz]; rfl)
      have HZ := Lib.hid hz
      clear hz
      go_enter Tryz.func15, Tryz.ntmps15
      go_wp2_with fail
      refine HK.out.mono ?_
      rintro e w1 ⟨rfl, rfl⟩
      rw [HA.out]
      go_wp2_with fail
      refine HS.out.mono ?_
      rintro e w1 ⟨rfl, rfl⟩
      have hz := HZ.out
      go_wp2
      go_ret
      exact ⟨by rw [HC.out]; rfl, rfl⟩
end Go.Proofs.YtbgngmamnonlbaaGreat
