/- Several texts in one: DivA, DivB, DivC0, Check, RunA. -/
import Derived.Test.YteocdndanehpnaaGreatH13
import Derived.Test.YteocdndanehpnaaGreatH14
import Derived.Laws.EntriesVeiled
import Derived.Test.YteocdndanehpnaaGreatH19
import Derived.WalkMore
namespace Go.Proofs.YteocdndanehpnaaGreat
open Go.RowKit
def postN (m s : Int) : Int := if m = 11 then s else if m = 12 then 2 * s * (s + 1) else if m = 13 then s * (s + 1) else if m = 14 then 2 * s + 1 else s + 1
def postD (m s : Int) : Int := if m = 12 then 2 * s + 1 else if m = 14 then 2 else 1
theorem sq_le {s : Int} (h0 : 0 ≤ s) (h1 : s ≤ 1000) : 0 ≤ s * (s + 1) ∧ s * (s + 1) ≤ 1001000 := by
 refine ⟨Int.mul_nonneg h0 (by omega), ?_⟩
 have h2 := Int.mul_le_mul_of_nonneg_left (show s + 1 ≤ 1001 by omega) h0
 omega
theorem postN_range {m s : Int} (h0 : 0 ≤ s) (h1 : s ≤ 1000) : 0 ≤ postN m s ∧ postN m s ≤ 2002000 := by
 have h := sq_le h0 h1
 have e : 2 * s * (s + 1) = 2 * (s * (s + 1)) := by rw [Int.mul_assoc]
 unfold postN
 rw [e]
 split
 ·omega
 ·split
  ·omega
  ·split
   ·omega
   ·split <;> omega
theorem postD_range {m s : Int} (h0 : 0 ≤ s) (h1 : s ≤ 1000) : 1 ≤ postD m s ∧ postD m s ≤ 2001 := by
 unfold postD
 split
 ·omega
 ·split <;> omega
set_option maxHeartbeats 400000 in
theorem pAdams (s : Int) (w : World) : Calls Tryz.prog 102 #[.int .i64 s] w (fun e w' => e = .returned (.tuple #[.int .i64 s, .int .i64 1]) ∧ w = w') := by
 go_enter Tryz.func102, Tryz.ntmps102
 go_wp2
 go_ret2
 exact ⟨rfl, rfl⟩
set_option maxHeartbeats 400000 in
theorem pDean (s : Int) (w : World) (h0 : 0 ≤ s) (h1 : s ≤ 1000) : Calls Tryz.prog 103 #[.int .i64 s] w (fun e w' => e = .returned (.tuple #[.int .i64 (2 * s * (s + 1)), .int .i64 (2 * s + 1)]) ∧ w = w') := by
 have h := sq_le h0 h1
 have e : IntKind.i64.wrap (2 * s * (s + 1)) = 2 * s * (s + 1) := IntWalk.i64_in _ (by rw [Int.mul_assoc]; omega)
 have e' : wrap64 (2 * s * (s + 1)) = 2 * s * (s + 1) := IntWalk.wrap64_in _ (by rw [Int.mul_assoc]; omega)
 go_enter Tryz.func103, Tryz.ntmps103
 go_wp2
 go_ret2
 exact ⟨rfl, rfl⟩
set_option maxHeartbeats 400000 in
theorem pHill (s : Int) (w : World) (h0 : 0 ≤ s) (h1 : s ≤ 1000) : Calls Tryz.prog 104 #[.int .i64 s] w (fun e w' => e = .returned (.tuple #[.int .i64 (s * (s + 1)), .int .i64 1]) ∧ w = w') := by
 have h := sq_le h0 h1
 have e : IntKind.i64.wrap (s * (s + 1)) = s * (s + 1) := IntWalk.i64_in _ (by omega)
 have e' : wrap64 (s * (s + 1)) = s * (s + 1) := IntWalk.wrap64_in _ (by omega)
 go_enter Tryz.func104, Tryz.ntmps104
 go_wp2
 go_ret2
 exact ⟨rfl, rfl⟩
set_option maxHeartbeats 400000 in
theorem pWebster (s : Int) (w : World) (h0 : 0 ≤ s) (h1 : s ≤ 1000) : Calls Tryz.prog 105 #[.int .i64 s] w (fun e w' => e = .returned (.tuple #[.int .i64 (2 * s + 1), .int .i64 2]) ∧ w = w') := by
 go_enter Tryz.func105, Tryz.ntmps105
 go_wp2
 go_ret2
 exact ⟨rfl, rfl⟩
set_option maxHeartbeats 400000 in
theorem pJefferson (s : Int) (w : World) (h0 : 0 ≤ s) (h1 : s ≤ 1000) : Calls Tryz.prog 106 #[.int .i64 s] w (fun e w' => e = .returned (.tuple #[.int .i64 (s + 1), .int .i64 1]) ∧ w = w') := by
 go_enter Tryz.func106, Tryz.ntmps106
 go_wp2
 go_ret2
 exact ⟨rfl, rfl⟩
set_option maxRecDepth 100000 in
set_option maxHeartbeats 1000000 in
theorem pPost (m s : Int) (w : World) (hm0 : 11 ≤ m) (hm1 : m ≤ 15) (h0 : 0 ≤ s) (h1 : s ≤ 1000) :
  Calls Tryz.prog 79 #[.int .i64 s, .int .i64 m] w (fun e w' => e = .returned (.tuple #[.int .i64 (postN m s), .int .i64 (postD m s)]) ∧ Lat w w') := by
 have hm : m = 11 ∨ m = 12 ∨ m = 13 ∨ m = 14 ∨ m = 15 := by omega
 rcases hm with rfl | rfl | rfl | rfl | rfl
 ·go_enter Tryz.func79, Tryz.ntmps79
  go_wp2_with (go_at_call 102; refine (pAdams s _).mono ?_; rintro e w' ⟨rfl, rfl⟩)
  go_ret2
  exact ⟨rfl, Lat.alloc _ _⟩
 ·go_enter Tryz.func79, Tryz.ntmps79
  go_wp2_with (go_at_call 103; refine (pDean s _ h0 h1).mono ?_; rintro e w' ⟨rfl, rfl⟩)
  go_ret2
  exact ⟨rfl, Lat.alloc _ _⟩
 ·go_enter Tryz.func79, Tryz.ntmps79
  go_wp2_with (go_at_call 104; refine (pHill s _ h0 h1).mono ?_; rintro e w' ⟨rfl, rfl⟩)
  go_ret2
  exact ⟨rfl, Lat.alloc _ _⟩
 ·go_enter Tryz.func79, Tryz.ntmps79
  go_wp2_with (go_at_call 105; refine (pWebster s _ h0 h1).mono ?_; rintro e w' ⟨rfl, rfl⟩)
  go_ret2
  exact ⟨rfl, Lat.alloc _ _⟩
 ·go_enter Tryz.func79, Tryz.ntmps79
  go_wp2_with (go_at_call 106; refine (pJefferson s _ h0 h1).mono ?_; rintro e w' ⟨rfl, rfl⟩)
  go_ret2
  exact ⟨rfl, Lat.alloc _ _⟩
end Go.Proofs.YteocdndanehpnaaGreat
namespace Go.Proofs.YteocdndanehpnaaGreat
open Go.RowKit
def outB (lo hi n : Int) : Bool := decide (n < lo) || decide (hi < n)
theorem outB_lo {lo hi n : Int} (h : n < lo) : outB lo hi n = true := by simp [outB, h]
theorem outB_hi {lo hi n : Int} (h : hi < n) : outB lo hi n = true := by simp [outB, h]
theorem within1_any (lo hi n : Int) (p q : Addr) (w : World) (hl : w.cell? p = some (.int .i64 lo)) (hh : w.cell? q = some (.int .i64 hi)) :
  Calls Tryz.prog 78 #[.int .i64 n, .pointer (some p), .pointer (some q)] w (fun e w' => e = .returned (.bool (outB lo hi n)) ∧ w = w') := by
 by_cases h1 : n < lo
 ·have HO := Lib.hid (outB_lo (hi := hi) h1)
  go_enter Tryz.func78, Tryz.ntmps78
  go_wp2
  go_ret
  exact ⟨by rw [HO.out]; rfl, rfl⟩
 ·by_cases h2 : hi < n
  ·have HO := Lib.hid (outB_hi (lo := lo) h2)
   have h1' : lo ≤ n := by omega
   clear h1
   go_enter Tryz.func78, Tryz.ntmps78
   go_wp2
   go_ret
   exact ⟨by rw [HO.out]; rfl, rfl⟩
  ·have h1' : lo ≤ n := by omega
   have h2' : n ≤ hi := by omega
   clear h1 h2
   go_enter Tryz.func78, Tryz.ntmps78
   go_wp2
   go_ret
   exact ⟨rfl, rfl⟩
theorem check1_any (n : Int) (w : World) :
  Calls Tryz.prog 29 #[.int .i64 n] w (fun e w' => e = .returned (.bool (outB 0 1000000000 n)) ∧ w = w') := by
 by_cases h1 : n < 0
 ·have HO := Lib.hid (outB_lo (hi := 1000000000) h1)
  go_enter Tryz.func29, Tryz.ntmps29
  go_wp2
  go_ret
  exact ⟨by rw [HO.out]; rfl, rfl⟩
 ·by_cases h2 : 1000000000 < n
  ·have HO := Lib.hid (outB_hi (lo := 0) h2)
   have h1' : 0 ≤ n := by omega
   clear h1
   go_enter Tryz.func29, Tryz.ntmps29
   go_wp2
   go_ret
   exact ⟨by rw [HO.out]; rfl, rfl⟩
  ·have h1' : 0 ≤ n := by omega
   have h2' : n ≤ 1000000000 := by omega
   clear h1 h2
   go_enter Tryz.func29, Tryz.ntmps29
   go_wp2
   go_ret
   exact ⟨rfl, rfl⟩
def IdxWithin (w : World) (xs : List Int) (lo hi : Int) (e : Ending) (w' : World) : Prop := ∃ r : Int, e = .returned (.int .i64 r) ∧ (xs.any (outB lo hi) = true → 0 ≤ r) ∧ (xs.any (outB lo hi) = false → r < 0) ∧ w = w'
set_option maxHeartbeats 1000000 in
theorem idxWithin (lo hi : Int) (p q : Addr) (A : Option Addr) (n c : Nat) (xs : List Int) (w : World) (hs : Sl w .i64 A n xs) (hn : n ≤ 17000000000000) (hl : w.cell? p = some (.int .i64 lo)) (hh : w.cell? q = some (.int .i64 hi)) :
  Calls Tryz.prog 54 #[.slice A n c, .func (.func 78) #[] #[.pointer (some p), .pointer (some q)]] w (IdxWithin w xs lo hi) := by
 go_enter Tryz.func54, Tryz.ntmps54
 go_wp2
 go_loop [8] (fun i => ∃ k : Nat, k ≤ n ∧ i = .int .i64 k ∧ Hid ((xs.take k).any (outB lo hi) = false)) (fun i => n - (intOf i).toNat)
 case atStart => exact ⟨0, Nat.zero_le _, rfl, rfl⟩
 case round =>
  obtain ⟨k, hk, rfl, hno⟩ := hrel
  by_cases hlt : k < n
  ·obtain ⟨a, x, rfl, ha, hxk, hcell⟩ := hs.at hlt
   have HX := Lib.hid hxk
   have HT : Hid ((xs.take (k + 1)).any (outB lo hi) = (outB lo hi) x) := by
    obtain ⟨hl, rfl⟩ := List.getElem?_eq_some_iff.1 hxk
    show _ = _
    rw [List.take_succ_eq_append_getElem hl, List.any_append, hno.out]; simp
   have HM := Lib.hid (List.mem_of_getElem? hxk)
   clear hxk
   by_cases hp : (outB lo hi) x = true
   ·have HA : Hid (xs.any (outB lo hi) = true) := by show _ = _; rw [List.any_eq_true]; exact ⟨x, HM.out, hp⟩
    have HP := Lib.hid hp
    clear hp
    go_wp2_with fail
    refine (within1_any lo hi x p q _ hl hh).mono ?_
    rintro e w1 ⟨rfl, rfl⟩
    rw [HP.out]
    go_wp2
    go_ret
    exact ⟨k, rfl, (fun _ => by omega), (fun h => by rw [HA.out] at h; cases h), rfl⟩
   ·have hp' : (outB lo hi) x = false := by simpa using hp
    have HP := Lib.hid hp'
    clear hp hp'
    go_wp2_with fail
    refine (within1_any lo hi x p q _ hl hh).mono ?_
    rintro e w1 ⟨rfl, rfl⟩
    rw [HP.out]
    go_wp2
    go_round
    case rel => exact ⟨k + 1, by omega, by go_num, by rw [HT.out, HP.out]; rfl⟩
    case measure => simp [intOf]; omega
  ·obtain rfl : k = n := by omega
   have HA : Hid (xs.any (outB lo hi) = false) := by
    have := hno.out
    rw [List.take_of_length_le (by have := hs.1; omega)] at this
    exact this
   go_wp2
   go_ret
   exact ⟨-1, rfl, (fun h => by rw [HA.out] at h; cases h), (fun _ => by omega), rfl⟩
theorem hasWithin (lo hi : Int) (p q : Addr) (A : Option Addr) (n c : Nat) (xs : List Int) (w : World) (hs : Sl w .i64 A n xs) (hn : n ≤ 17000000000000) (hl : w.cell? p = some (.int .i64 lo)) (hh : w.cell? q = some (.int .i64 hi)) :
  Calls Tryz.prog 30 #[.slice A n c, .func (.func 78) #[] #[.pointer (some p), .pointer (some q)]] w (fun e w' => e = .returned (.bool (xs.any (outB lo hi))) ∧ w = w') := by
 have HI := idxWithin lo hi p q A n c xs w hs hn hl hh
 go_enter Tryz.func30, Tryz.ntmps30
 go_wp2_with fail
 refine HI.mono ?_
 rintro e w1 ⟨r, rfl, h1, h2, rfl⟩
 cases hb : xs.any (outB lo hi) with
 | true =>
   have h0 := h1 hb
   have HB := Lib.hid hb
   clear h1 h2 hb
   go_wp2
   go_ret
   exact ⟨by rw [HB.out]; rfl, rfl⟩
 | false =>
   have h0 := h2 hb
   have h0' : decide (0 ≤ r) = false := by simp; omega
   have HB := Lib.hid hb
   clear h1 h2 hb
   go_wp2
   go_ret
   exact ⟨by rw [HB.out]; rfl, rfl⟩
def IdxCheck (w : World) (xs : List Int) (e : Ending) (w' : World) : Prop := ∃ r : Int, e = .returned (.int .i64 r) ∧ (xs.any (outB 0 1000000000) = true → 0 ≤ r) ∧ (xs.any (outB 0 1000000000) = false → r < 0) ∧ w = w'
set_option maxHeartbeats 1000000 in
theorem idxCheck (A : Option Addr) (n c : Nat) (xs : List Int) (w : World) (hs : Sl w .i64 A n xs) (hn : n ≤ 17000000000000) :
  Calls Tryz.prog 54 #[.slice A n c, .func (.func 29) #[] #[]] w (IdxCheck w xs ) := by
 go_enter Tryz.func54, Tryz.ntmps54
 go_wp2
 go_loop [8] (fun i => ∃ k : Nat, k ≤ n ∧ i = .int .i64 k ∧ Hid ((xs.take k).any (outB 0 1000000000) = false)) (fun i => n - (intOf i).toNat)
 case atStart => exact ⟨0, Nat.zero_le _, rfl, rfl⟩
 case round =>
  obtain ⟨k, hk, rfl, hno⟩ := hrel
  by_cases hlt : k < n
  ·obtain ⟨a, x, rfl, ha, hxk, hcell⟩ := hs.at hlt
   have HX := Lib.hid hxk
   have HT : Hid ((xs.take (k + 1)).any (outB 0 1000000000) = (outB 0 1000000000) x) := by
    obtain ⟨hl, rfl⟩ := List.getElem?_eq_some_iff.1 hxk
    show _ = _
    rw [List.take_succ_eq_append_getElem hl, List.any_append, hno.out]; simp
   have HM := Lib.hid (List.mem_of_getElem? hxk)
   clear hxk
   by_cases hp : (outB 0 1000000000) x = true
   ·have HA : Hid (xs.any (outB 0 1000000000) = true) := by show _ = _; rw [List.any_eq_true]; exact ⟨x, HM.out, hp⟩
    have HP := Lib.hid hp
    clear hp
    go_wp2_with fail
    refine (check1_any x _).mono ?_
    rintro e w1 ⟨rfl, rfl⟩
    rw [HP.out]
    go_wp2
    go_ret
    exact ⟨k, rfl, (fun _ => by omega), (fun h => by rw [HA.out] at h; cases h), rfl⟩
   ·have hp' : (outB 0 1000000000) x = false := by simpa using hp
    have HP := Lib.hid hp'
    clear hp hp'
    go_wp2_with fail
    refine (check1_any x _).mono ?_
    rintro e w1 ⟨rfl, rfl⟩
    rw [HP.out]
    go_wp2
    go_round
    case rel => exact ⟨k + 1, by omega, by go_num, by rw [HT.out, HP.out]; rfl⟩
    case measure => simp [intOf]; omega
  ·obtain rfl : k = n := by omega
   have HA : Hid (xs.any (outB 0 1000000000) = false) := by
    have := hno.out
    rw [List.take_of_length_le (by have := hs.1; omega)] at this
    exact this
   go_wp2
   go_ret
   exact ⟨-1, rfl, (fun h => by rw [HA.out] at h; cases h), (fun _ => by omega), rfl⟩
theorem hasCheck (A : Option Addr) (n c : Nat) (xs : List Int) (w : World) (hs : Sl w .i64 A n xs) (hn : n ≤ 17000000000000) :
  Calls Tryz.prog 30 #[.slice A n c, .func (.func 29) #[] #[]] w (fun e w' => e = .returned (.bool (xs.any (outB 0 1000000000))) ∧ w = w') := by
 have HI := idxCheck A n c xs w hs hn
 go_enter Tryz.func30, Tryz.ntmps30
 go_wp2_with fail
 refine HI.mono ?_
 rintro e w1 ⟨r, rfl, h1, h2, rfl⟩
 cases hb : xs.any (outB 0 1000000000) with
 | true =>
   have h0 := h1 hb
   have HB := Lib.hid hb
   clear h1 h2 hb
   go_wp2
   go_ret
   exact ⟨by rw [HB.out]; rfl, rfl⟩
 | false =>
   have h0 := h2 hb
   have h0' : decide (0 ≤ r) = false := by simp; omega
   have HB := Lib.hid hb
   clear h1 h2 hb
   go_wp2
   go_ret
   exact ⟨by rw [HB.out]; rfl, rfl⟩
def inAll (lo hi : Int) (xs : List Int) : Bool := !xs.any (outB lo hi)
theorem within_any (lo hi : Int) (A : Option Addr) (n c : Nat) (xs : List Int) (w : World) (hs : Sl w .i64 A n xs) (hn : n ≤ 17000000000000) :
  Calls Tryz.prog 55 #[.int .i64 lo, .int .i64 hi, .slice A n c] w (fun e w' => e = .returned (.bool (inAll lo hi xs)) ∧ Lat w w') := by
 have hu : Hid (∀ b : Bool, (xs.any (outB lo hi)) = b → inAll lo hi xs = !b) := fun b h => by rw [inAll, h]
 go_enter Tryz.func55, Tryz.ntmps55
 go_wp2_with fail
 refine name2 (Q := fun W => Calls _ _ _ W _) ?_
 intro W hl hs2 k1 k2
 refine (hasWithin lo hi ⟨w.heap.size, 0, none⟩ ⟨w.heap.size + 1, 0, none⟩ A n c xs W (hs.later hl) hn (k1.cell 0) (k2.cell 0)).mono ?_
 rintro e w1 ⟨rfl, rfl⟩
 cases hb : xs.any (outB lo hi) with
 | true =>
   have HU := Lib.hid (hu.out _ hb)
   clear hb
   go_wp2
   go_ret
   exact ⟨by rw [HU.out]; rfl, hl⟩
 | false =>
   have HU := Lib.hid (hu.out _ hb)
   clear hb
   go_wp2
   go_ret
   exact ⟨by rw [HU.out]; rfl, hl⟩
def knownB (m : Int) (xs : List Int) : Bool := inAll 11 15 [m] && inAll 0 1000 xs
theorem known_any (m : Int) (A : Option Addr) (n c : Nat) (xs : List Int) (w : World) (hs : Sl w .i64 A n xs) (hn : n ≤ 17000000000000) :
  Calls Tryz.prog 56 #[.int .i64 m, .slice A n c] w (fun e w' => e = .returned (.bool (knownB m xs)) ∧ Lat w w') := by
 go_enter Tryz.func56, Tryz.ntmps56
 go_wp2_with fail
 refine name1 (Q := fun W => Calls _ _ _ W _) ?_
 intro W hl hs2 k1
 refine (within_any 11 15 _ 1 1 [m] W (Sl.of_blk' (t := 3) k1 rfl) (by omega)).mono ?_
 rintro e w1 ⟨rfl, l1⟩
 cases hb : inAll 11 15 [m] with
 | true =>
   have HB := Lib.hid hb
   clear hb
   go_wp2_with fail
   refine (within_any 0 1000 A n c xs w1 (hs.later (hl.trans l1)) hn).mono ?_
   rintro e w2 ⟨rfl, l2⟩
   go_wp2
   go_ret
   exact ⟨by rw [knownB, HB.out]; rfl, (hl.trans l1).trans l2⟩
 | false =>
   have HB := Lib.hid hb
   clear hb
   go_wp2
   go_ret
   exact ⟨by rw [knownB, HB.out]; rfl, hl.trans l1⟩
end Go.Proofs.YteocdndanehpnaaGreat
namespace Go.Proofs.YteocdndanehpnaaGreat
open Go.RowKit
end Go.Proofs.YteocdndanehpnaaGreat
namespace Go.Proofs.YteocdndanehpnaaGreat
open Go.RowKit
theorem sum_bound {xs : List Int} (h : ∀ x ∈ xs, 0 ≤ x ∧ x ≤ 1000000000) : 0 ≤ xs.sum ∧ xs.sum ≤ 1000000000 * xs.length := by
 induction xs with
 | nil => simp
 | cons y r ih =>
   have h1 := h y (by simp)
   have h2 := ih (fun x hx => h x (by simp [hx]))
   simp only [List.sum_cons, List.length_cons]
   omega
theorem sum_take {xs : List Int} {k : Nat} {x : Int} (h : xs[k]? = some x) : (xs.take (k + 1)).sum = (xs.take k).sum + x := by
 obtain ⟨hl, rfl⟩ := List.getElem?_eq_some_iff.1 h
 rw [List.take_succ_eq_append_getElem hl, List.sum_append]
 simp
set_option maxHeartbeats 1000000 in
theorem qSum_any (A : Option Addr) (n c : Nat) (xs : List Int) (w : World) (hs : Sl w .i64 A n xs) (hn : n ≤ 1000) (hx : ∀ x ∈ xs, 0 ≤ x ∧ x ≤ 1000000000) :
  Calls Tryz.prog 31 #[.slice A n c] w (fun e w' => e = .returned (.int .i64 xs.sum) ∧ w = w') := by
 have HB := Lib.hid hx
 clear hx
 go_enter Tryz.func31, Tryz.ntmps31
 go_wp2
 go_loop [3, 8] (fun t i => ∃ k : Nat, k ≤ n ∧ i = .int .i64 k ∧ t = .int .i64 (xs.take k).sum) (fun _ i => n - (intOf i).toNat)
 case atStart => exact ⟨0, Nat.zero_le _, rfl, rfl⟩
 case round =>
  obtain ⟨k, hk, rfl, rfl⟩ := hrel
  have hb := sum_bound (xs := xs.take k) (fun x h => HB.out x (List.mem_of_mem_take h))
  have hll : (xs.take k).length ≤ k := List.length_take_le _ _
  by_cases hlt : k < n
  ·obtain ⟨a, x, rfl, ha, hxk, hcell⟩ := hs.at hlt
   have hT := Lib.hid (sum_take hxk)
   have hxb := HB.out x (List.mem_of_getElem? hxk)
   clear hxk
   obtain ⟨s, hs'⟩ : ∃ s, (xs.take k).sum = s := ⟨_, rfl⟩
   rw [hs'] at hb ⊢
   have HS := Lib.hid hs'
   clear hs'
   have b0 := hb.1
   have b1 := hb.2
   have x0 := hxb.1
   have x1 := hxb.2
   have b2 : s ≤ 1000000000000 := by omega
   clear hb hxb b1
   go_wp2
   go_round
   case rel => exact ⟨k + 1, by omega, by go_num, by rw [hT.out, HS.out]⟩
   case measure => simp [intOf]; omega
  ·obtain rfl : k = n := by omega
   have HT : Hid (xs.take k = xs) := List.take_of_length_le (by have := hs.1; omega)
   clear hb
   go_wp2
   go_ret
   exact ⟨by rw [HT.out]; rfl, rfl⟩
def censusB (xs : List Int) : Bool := decide (xs.length ≤ 60) && inAll 0 1000000000 xs && !(xs.sum == 0)
theorem inAll_iff {lo hi : Int} {xs : List Int} : inAll lo hi xs = true ↔ ∀ x ∈ xs, lo ≤ x ∧ x ≤ hi := by
 unfold inAll
 rw [Bool.not_eq_true', ← Bool.not_eq_true, List.any_eq_true]
 constructor
 ·intro h x hx
  by_cases hh : lo ≤ x ∧ x ≤ hi
  ·exact hh
  ·exact absurd ⟨x, hx, by simp [outB]; omega⟩ h
 ·rintro h ⟨x, hx, ho⟩
  have := h x hx
  simp [outB] at ho
  omega
theorem in_one {lo hi x : Int} (h0 : lo ≤ x) (h1 : x ≤ hi) : inAll lo hi [x] = true := inAll_iff.2 (fun y hy => by rw [List.mem_singleton] at hy; subst hy; exact ⟨h0, h1⟩)
theorem out_one {lo hi x : Int} (h : ¬ (lo ≤ x ∧ x ≤ hi)) : inAll lo hi [x] = false := by
 rw [← Bool.not_eq_true, inAll_iff]
 exact fun h' => h (h' x (by simp))
theorem census_iff {xs : List Int} : censusB xs = true ↔ xs.length ≤ 60 ∧ (∀ x ∈ xs, 0 ≤ x ∧ x ≤ 1000000000) ∧ 0 < xs.sum := by
 simp only [censusB, Bool.and_eq_true, decide_eq_true_eq, inAll_iff, Bool.not_eq_true', beq_eq_false_iff_ne]
 constructor
 ·rintro ⟨⟨h1, h2⟩, h3⟩
  exact ⟨h1, h2, by have := (sum_bound h2).1; omega⟩
 ·rintro ⟨h1, h2, h3⟩
  exact ⟨⟨h1, h2⟩, by omega⟩
def cenE (xs : List Int) : Int := if censusB xs then 0 else 60
theorem cenE_yes {xs : List Int} (h : censusB xs = true) : cenE xs = 0 := by rw [cenE, if_pos h]
theorem cenE_no {xs : List Int} (h : censusB xs = false) : cenE xs = 60 := by rw [cenE, if_neg (by simp [h])]
set_option maxHeartbeats 1000000 in
theorem qCheck_any (A : Option Addr) (n c : Nat) (xs : List Int) (w : World) (hs : Sl w .i64 A n xs) (hn : n ≤ 17000000000000) :
  Calls Tryz.prog 14 #[.slice A n c] w (fun e w' => e = .returned (.int .i64 (cenE xs)) ∧ w = w') := by
 have hlen := hs.1
 by_cases h1 : 60 < n
 ·have HC : Hid (cenE xs = 60) := by
   refine cenE_no ?_
   rw [← Bool.not_eq_true, census_iff]; omega
  have hd : decide ((60 : Int) < (n : Int)) = true := by simp; omega
  have hi : (60 : Int) < (n : Int) := by omega
  go_enter Tryz.func14, Tryz.ntmps14
  go_wp2
  go_ret
  exact ⟨by rw [HC.out]; rfl, rfl⟩
 ·have hd : decide ((60 : Int) < (n : Int)) = false := by simp; omega
  have hi : ¬ (60 : Int) < (n : Int) := by omega
  have HK := Lib.hid (hasCheck A n c xs w hs hn)
  cases ha : xs.any (outB 0 1000000000) with
  | true =>
    have HC : Hid (cenE xs = 60) := cenE_no (by simp [censusB, inAll, ha])
    have HA := Lib.hid ha
    clear ha
    go_enter Tryz.func14, Tryz.ntmps14
    go_wp2_with fail
    refine HK.out.mono ?_
    rintro e w1 ⟨rfl, rfl⟩
    rw [HA.out]
    go_wp2
    go_ret
    exact ⟨by rw [HC.out]; rfl, rfl⟩
  | false =>
    have hx : ∀ x ∈ xs, 0 ≤ x ∧ x ≤ 1000000000 := inAll_iff.1 (by rw [inAll, ha]; rfl)
    have HS := Lib.hid (qSum_any A n c xs w hs (by omega) hx)
    have HA := Lib.hid ha
    have HC' : Hid (censusB xs = !(xs.sum == 0)) := by
     show _ = _
     have : xs.length ≤ 60 := by omega
     simp [censusB, inAll, ha, this]
    clear ha hx
    cases hz : (xs.sum == 0) with
    | true =>
      have HC : Hid (cenE xs = 60) := cenE_no (by rw [HC'.out, hz]; rfl)
      have HZ := Lib.hid hz
      clear hz
      go_enter Tryz.func14, Tryz.ntmps14
      go_wp2_with fail
      refine HK.out.mono ?_
      rintro e w1 ⟨rfl, rfl⟩
      rw [HA.out]
      go_wp2_with fail
      refine HS.out.mono ?_
      rintro e w1 ⟨rfl, rfl⟩
      have hz := HZ.out
      go_wp2
      go_ret
      exact ⟨by rw [HC.out]; rfl, rfl⟩
    | false =>
      have HC : Hid (cenE xs = 0) := cenE_yes (by rw [HC'.out, hz]; rfl)
      have HZ := Lib.hid hz
      clear hz
      go_enter Tryz.func14, Tryz.ntmps14
      go_wp2_with fail
      refine HK.out.mono ?_
      rintro e w1 ⟨rfl, rfl⟩
      rw [HA.out]
      go_wp2_with fail
      refine HS.out.mono ?_
      rintro e w1 ⟨rfl, rfl⟩
      have hz := HZ.out
      go_wp2
      go_ret
      exact ⟨by rw [HC.out]; rfl, rfl⟩
end Go.Proofs.YteocdndanehpnaaGreat
namespace Go.Proofs.YteocdndanehpnaaGreat
open Go.RowKit
set_option linter.unusedSimpArgs false
def RunNo (w : World) (r : Int) (e : Ending) (w' : World) : Prop := e = .returned (.tuple #[.agg #[.slice none 0 0, .slice none 0 0, .int .i64 0], .slice none 0 0, .int .i64 r]) ∧ Lat w w'
def askB (seats m : Int) : Bool := decide (1 ≤ seats ∧ seats ≤ 1000 ∧ 11 ≤ m ∧ m ≤ 15)
set_option maxRecDepth 100000 in
set_option maxHeartbeats 2000000 in
theorem run_census (A : Option Addr) (n c : Nat) (P : List Int) (v3 : Value) (seats m : Int) (w : World) (hs : Sl w .i64 A n P) (hn : n ≤ 17000000000000) (hc : censusB P = false) :
  Calls Tryz.prog 42 #[.slice A n c, .int .i64 seats, .int .i64 m, v3] w (RunNo w 60) := by
 have HC := Lib.hid (cenE_no hc)
 clear hc
 go_enter Tryz.func42, Tryz.ntmps42
 go_wp2_with fail
 refine wp_scope_straight ?_
 go_wp2_with fail
 refine name3 (Q := fun W => Calls _ _ _ W _) ?_
 intro W hl hs2 k1 k2 k3
 refine (qCheck_any A n c P W (hs.later hl) hn).mono ?_
 rintro e w1 ⟨rfl, rfl⟩
 rw [HC.out]
 have c2_0 := k2.cell 0
 have c2_1 := k2.cell 1
 have c2_2 := k2.cell 2
 have c3 := k3.cell 0
 have f2_0 := k2.frozen 0
 have f2_1 := k2.frozen 1
 have f2_2 := k2.frozen 2
 have f3 := k3.frozen 0
 go_wp2
 rw [Exit.noGoto_ret]
 refine bodyPost_ret (v := .tuple #[.agg #[.slice none 0 0, .slice none 0 0, .int .i64 0], .slice none 0 0, .int .i64 60]) (by simp [results, Tryz.results42, go_sem, c2_0, c2_1, c2_2, c3]) rfl ?_
 refine ⟨rfl, ?_⟩
 iterate 4 (refine Lat.setCell ?_ (by simp; try omega) _)
 exact hl
set_option maxRecDepth 100000 in
set_option maxHeartbeats 2000000 in
theorem run_ask (A : Option Addr) (n c : Nat) (P : List Int) (v3 : Value) (seats m : Int) (w : World) (hs : Sl w .i64 A n P) (hn : n ≤ 17000000000000) (hc : censusB P = true) (ha : askB seats m = false) :
  Calls Tryz.prog 42 #[.slice A n c, .int .i64 seats, .int .i64 m, v3] w (RunNo w 2) := by
 have HC := Lib.hid (cenE_yes hc)
 clear hc
 by_cases hse : 1 ≤ seats ∧ seats ≤ 1000
 ·have HI := Lib.hid (in_one hse.1 hse.2)
  have HK : Hid (knownB m [] = false) := by
   show _ = _
   have : ¬ (11 ≤ m ∧ m ≤ 15) := fun h => by simp [askB, hse, h] at ha
   rw [knownB, out_one this]; rfl
  clear ha hse
  go_enter Tryz.func42, Tryz.ntmps42
  go_wp2_with fail
  refine wp_scope_straight ?_
  go_wp2_with fail
  refine name3 (Q := fun W => Calls _ _ _ W _) ?_
  intro W hl hs2 k1 k2 k3
  refine (qCheck_any A n c P W (hs.later hl) hn).mono ?_
  rintro e w1 ⟨rfl, rfl⟩
  rw [HC.out]
  have c1 := k1.cell 0
  go_wp2_with fail
  refine name1 (Q := fun W => Calls _ _ _ W _) ?_
  intro w2 l2 hs3 k4
  refine (within_any 1 1000 (some ⟨W.heap.size, 0, none⟩) 1 1 [seats] w2 (Sl.of_blk' (t := 3) k4 rfl) (by omega)).mono ?_
  rintro e w3 ⟨rfl, l3⟩
  rw [HI.out]
  have K2 := k2.later (l2.trans l3)
  have K3 := k3.later (l2.trans l3)
  have L := (hl.trans l2).trans l3
  clear c1 k1 k2 k3 k4 l2
  go_wp2_with fail
  refine (known_any m none 0 0 [] w3 (Sl.nil _ _ _) (by omega)).mono ?_
  rintro e w4 ⟨rfl, l4⟩
  rw [HK.out]
  have K2 := K2.later l4
  have K3 := K3.later l4
  have L := L.trans l4
  have c2_0 := K2.cell 0
  have c2_1 := K2.cell 1
  have c2_2 := K2.cell 2
  have c3 := K3.cell 0
  have f2_0 := K2.frozen 0
  have f2_1 := K2.frozen 1
  have f2_2 := K2.frozen 2
  have f3 := K3.frozen 0
  go_wp2
  rw [Exit.noGoto_ret]
  refine bodyPost_ret (v := .tuple #[.agg #[.slice none 0 0, .slice none 0 0, .int .i64 0], .slice none 0 0, .int .i64 2]) (by simp [results, Tryz.results42, go_sem, c2_0, c2_1, c2_2, c3]) rfl ?_
  refine ⟨rfl, ?_⟩
  iterate 4 (refine Lat.setCell ?_ (by simp; try omega) _)
  exact L
 ·have HI := Lib.hid (out_one hse)
  clear ha hse
  go_enter Tryz.func42, Tryz.ntmps42
  go_wp2_with fail
  refine wp_scope_straight ?_
  go_wp2_with fail
  refine name3 (Q := fun W => Calls _ _ _ W _) ?_
  intro W hl hs2 k1 k2 k3
  refine (qCheck_any A n c P W (hs.later hl) hn).mono ?_
  rintro e w1 ⟨rfl, rfl⟩
  rw [HC.out]
  have c1 := k1.cell 0
  go_wp2_with fail
  refine name1 (Q := fun W => Calls _ _ _ W _) ?_
  intro w2 l2 hs3 k4
  refine (within_any 1 1000 (some ⟨W.heap.size, 0, none⟩) 1 1 [seats] w2 (Sl.of_blk' (t := 3) k4 rfl) (by omega)).mono ?_
  rintro e w3 ⟨rfl, l3⟩
  rw [HI.out]
  have K2 := k2.later (l2.trans l3)
  have K3 := k3.later (l2.trans l3)
  have L := (hl.trans l2).trans l3
  clear c1 k1 k2 k3 k4 l2
  have c2_0 := K2.cell 0
  have c2_1 := K2.cell 1
  have c2_2 := K2.cell 2
  have c3 := K3.cell 0
  have f2_0 := K2.frozen 0
  have f2_1 := K2.frozen 1
  have f2_2 := K2.frozen 2
  have f3 := K3.frozen 0
  go_wp2
  rw [Exit.noGoto_ret]
  refine bodyPost_ret (v := .tuple #[.agg #[.slice none 0 0, .slice none 0 0, .int .i64 0], .slice none 0 0, .int .i64 2]) (by simp [results, Tryz.results42, go_sem, c2_0, c2_1, c2_2, c3]) rfl ?_
  refine ⟨rfl, ?_⟩
  iterate 4 (refine Lat.setCell ?_ (by simp; try omega) _)
  exact L
end Go.Proofs.YteocdndanehpnaaGreat
