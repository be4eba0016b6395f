/- Several texts in one: EqI, PxK, PxV, PxW, PxM. -/
import Derived.Test.YteocdndanehpnaaGreatH31
import Derived.Test.YteocdndanehpnaaGreatH48
import Derived.Test.YteocdndanehpnaaGreatH49
import Derived.Test.YteocdndanehpnaaGreatH47
import Derived.Test.YteocdndanehpnaaGreatH52
import Derived.Test.YteocdndanehpnaaGreatH50
import Derived.Test.YteocdndanehpnaaGreatH38
import Derived.Test.YteocdndanehpnaaGreatH46
namespace Go.Proofs.YteocdndanehpnaaGreat
open Go.RowKit
set_option linter.unusedSimpArgs false
set_option linter.unusedVariables false
theorem equal_any (A1 : Option Addr) (n1 c1 : Nat) (xs : List Int) (A2 : Option Addr) (n2 c2 : Nat) (ys : List Int) (w : World) (h1 : Sl w .i64 A1 n1 xs) (h2 : Sl w .i64 A2 n2 ys) (hn1 : n1 ≤ 17000000000000) (hn2 : n2 ≤ 17000000000000) :
  Calls Tryz.prog 21 #[.slice A1 n1 c1, .slice A2 n2 c2] w (fun e w' => e = .returned (.bool (xs == ys)) ∧ Lat w w') := by
 have l1 := h1.1
 have l2 := h2.1
 by_cases hne : n1 = n2
 ·rcases Nat.eq_zero_or_pos n1 with h0 | h0
  ·have hx : xs = [] := List.eq_nil_of_length_eq_zero (by omega)
   have hy : ys = [] := List.eq_nil_of_length_eq_zero (by omega)
   subst hx hy
   have : n1 = 0 := h0
   subst this
   refine (Tryz.slices_Equal_int_empty A1 A2 c1 n2 c2 w (by omega)).mono ?_
   rintro e w' ⟨rfl, rfl⟩
   refine ⟨?_, Lat.refl _⟩
   have : n2 = 0 := by omega
   subst this
   rfl
  ·obtain ⟨b1, o1, rfl, q1⟩ := h1.plain h0
   obtain ⟨b2, o2, rfl, q2⟩ := h2.plain (by omega)
   refine (Tryz.slices_Equal_int b1 o1 n1 c1 b2 o2 n2 c2 xs ys w (by omega) (by omega) (by omega) (by omega) q1 q2).mono ?_
   rintro e w' ⟨rfl, q, rfl⟩
   rw [List.take_of_length_le (by omega), List.take_of_length_le (by omega)]
   exact ⟨rfl, Lat.drewN _ _⟩
 ·refine (Tryz.slices_Equal_int_lens A1 A2 n1 c1 n2 c2 w hne).mono ?_
  rintro e w' ⟨rfl, rfl⟩
  refine ⟨?_, Lat.refl _⟩
  have : (xs == ys) = false := by
   rw [beq_eq_false_iff_ne]
   intro e
   rw [e] at l1
   omega
  rw [this]
end Go.Proofs.YteocdndanehpnaaGreat
namespace Go.Proofs.YteocdndanehpnaaGreat
open Go.RowKit
set_option linter.unusedSimpArgs false
set_option linter.unusedVariables false
theorem cen_pos {P : List Int} (h : censusB P = true) : 0 < P.length := by
 rcases Nat.eq_zero_or_pos P.length with h0 | h0
 ·rw [List.eq_nil_of_length_eq_zero h0] at h
  exact absurd h (by decide)
 ·exact h0
theorem decE_zero {P : List Int} {s k : Int} (h : decE P s k = 0) : censusB P = true ∧ famB k = true ∧ (1 ≤ s ∧ s ≤ 1000) ∧ ∃ A, decO k P s = some A ∧ ¬ 0 < A.left := by
 unfold decE at h
 split at h
 ·omega
 ·split at h
  ·omega
  ·split at h
   ·omega
   ·rename_i h1 h2 h3
    refine ⟨by simpa using h1, by simpa using h2, Classical.not_not.1 h3, ?_⟩
    split at h
    ·omega
    ·rename_i A hA
     refine ⟨A, hA, fun h9 => ?_⟩
     rw [if_pos h9] at h
     omega
theorem decL_of {P : List Int} {s k : Int} {A : Aw} (h : decE P s k = 0) (hA : decO k P s = some A) : decL P s k = A.seats := by rw [decL, if_pos h, hA]; rfl
theorem decO_len {P : List Int} {s k : Int} {A : Aw} (hc : censusB P = true) (hs : 0 ≤ s) (h : decO k P s = some A) : A.seats.length = P.length := by
 have hcen := census_iff.1 hc
 unfold decO at h
 split at h
 ·cases h
  have ha : Adds (divA k P s) (List.replicate P.length 0) ((List.replicate P.length (0 : Int)).sum + s) (full P) := awardOf_adds (full_ne hcen.2.2) (by simp) hs
  rw [ha.seats, bump_length, List.length_replicate]
 ·have := (giveQ_len (fun x hx => (hcen.2.1 x hx).1) hs h).len
  rw [this, List.length_replicate]
theorem decL_len {P : List Int} {s k : Int} (h : decE P s k = 0) : (decL P s k).length = P.length := by
 obtain ⟨h1, h2, h3, A, hA, h4⟩ := decE_zero h
 rw [decL_of h hA]
 exact decO_len h1 (by omega) hA
theorem givF_len {P : List Int} {s k : Int} (hc : censusB P = true) (h1 : 1 ≤ s ∧ s ≤ 1000) (h : givE P s k = 0) : (givF P s k).seats.length = P.length := by
 unfold givE at h
 rw [if_neg (fun h9 => h9 h1)] at h
 unfold givF
 cases hd : decO k P s with
 | none => rw [hd] at h; simp at h
 | some A => exact decO_len hc (by omega) hd
def hosF (P : List Int) (k a : Int) (T : Nat) : List (Int × Int) := lossG (fun s => decE P s k) (fun s => decL P s k) P.length a T
def hosL (P : List Int) (k a z : Int) : List (Int × Int) := if spanE P k a z = 0 then hosF P k a (z - a).toNat else []
def fstL (P : List Int) (k a z : Int) : Int × Int × Int := if spanE P k a z = 0 then firstV (hosF P k a (z - a).toNat) else (0, 0, spanE P k a z)
theorem spanE_zero {P : List Int} {k a z : Int} (h : spanE P k a z = 0) : censusB P = true ∧ famB k = true ∧ 1 ≤ a ∧ z ≤ 1000 ∧ a ≤ z ∧ z - a ≤ 100 := by
 unfold spanE at h
 split at h
 ·omega
 ·split at h
  ·rename_i h1 h2
   exact ⟨by simpa using h1, h2⟩
  ·omega
theorem decRun {A : Option Addr} {n c : Nat} {P : List Int} {k a z : Int} (hn : n < 20) (hl : P.length = n) (h : spanE P k a z = 0) : DecRun (fun s => decE P s k) (fun s => decL P s k) n c A P a k (z - a).toNat := by
 obtain ⟨h1, h2, h3, h4, h5, h6⟩ := spanE_zero h
 refine ⟨by omega, by omega, by omega, by rw [← hl]; exact cen_pos h1, by omega, fun t w ht hs => decided_any A n c P _ k w hs hn, fun s hs => by rw [← hl]; exact decL_len hs⟩
theorem pHouse_any (A : Option Addr) (n c : Nat) (P : List Int) (k a z : Int) (w : World) (hs : Sl w .i64 A n P) (hn : n < 20) :
  Calls Tryz.prog 11 #[.slice A n c, .int .i64 k, .int .i64 a, .int .i64 z] w (PrsPost w (hosL P k a z) (spanE P k a z)) := by
 have HS : ∀ w', Lat w w' → Calls Tryz.prog 26 #[.slice A n c, .int .i64 k, .int .i64 a, .int .i64 z] w' (fun e w'' => e = .returned (.int .i64 (spanE P k a z)) ∧ Lat w' w'') := fun w' hl => spanned_any A n c P k a z w' (hs.later hl) (by omega)
 by_cases h : spanE P k a z = 0
 ·have hz : z = a + ((z - a).toNat : Int) := by have := spanE_zero h; omega
  rw [hosL, if_pos h, h]
  rw [h] at HS
  have := house_ok (decRun (A := A) (c := c) hn hs.1 h) hz w hs HS
  rw [hosF, hs.1]
  exact this
 ·rw [hosL, if_neg h]
  refine (house_no h w HS).mono ?_
  rintro e w' ⟨rfl, hl⟩
  exact PrsPost.no _ _ _ hl
theorem pFirst_any (A : Option Addr) (n c : Nat) (P : List Int) (k a z : Int) (w : World) (hs : Sl w .i64 A n P) (hn : n < 20) :
  Calls Tryz.prog 12 #[.slice A n c, .int .i64 k, .int .i64 a, .int .i64 z] w (fun e w' => e = .returned (.tuple #[.int .i64 (fstL P k a z).1, .int .i64 (fstL P k a z).2.1, .int .i64 (fstL P k a z).2.2]) ∧ Lat w w') := by
 have HS : ∀ w', Lat w w' → Calls Tryz.prog 26 #[.slice A n c, .int .i64 k, .int .i64 a, .int .i64 z] w' (fun e w'' => e = .returned (.int .i64 (spanE P k a z)) ∧ Lat w' w'') := fun w' hl => spanned_any A n c P k a z w' (hs.later hl) (by omega)
 by_cases h : spanE P k a z = 0
 ·have hz : z = a + ((z - a).toNat : Int) := by have := spanE_zero h; omega
  rw [fstL, if_pos h]
  rw [h] at HS
  have := first_ok (decRun (A := A) (c := c) hn hs.1 h) hz w hs HS
  rw [hosF, hs.1]
  exact this
 ·rw [fstL, if_neg h]
  exact first_no h w HS
theorem peopleV_any (A1 : Option Addr) (n1 c1 : Nat) (P : List Int) (A2 : Option Addr) (n2 c2 : Nat) (Q : List Int) (s k : Int) (w : World) (hP : Sl w .i64 A1 n1 P) (hQ : Sl w .i64 A2 n2 Q) (hn1 : n1 < 20) (hn2 : n2 < 20) :
  Calls Tryz.prog 15 #[.slice A1 n1 c1, .slice A2 n2 c2, .int .i64 s, .int .i64 k] w (PrsPost w (pplL P Q (decL P s k) (decL Q s k) (decE P s k) (decE Q s k)) (pplE P Q (decE P s k) (decE Q s k))) :=
 people_any A1 n1 c1 P A2 n2 c2 Q s k _ _ _ _ w hP hQ (by omega) (by omega) (fun w' hl => decided_any A1 n1 c1 P s k w' (hP.later hl) hn1) (fun w' hl => decided_any A2 n2 c2 Q s k w' (hQ.later hl) hn2)
  (fun h => by rw [← hP.1]; exact decL_len h) (fun h => by rw [← hQ.1]; exact decL_len h)
theorem arrivalV_any (A1 : Option Addr) (n1 c1 : Nat) (P : List Int) (s k x m : Int) (w : World) (hP : Sl w .i64 A1 n1 P) (hn1 : n1 < 19) :
  Calls Tryz.prog 16 #[.slice A1 n1 c1, .int .i64 s, .int .i64 k, .int .i64 x, .int .i64 m] w
   (IntsPost w (arrL P (decL P s k) (decL (P ++ [x]) (s + m) k) s x m (decE P s k) (decE (P ++ [x]) (s + m) k)) (arrE P s x m (decE P s k) (decE (P ++ [x]) (s + m) k) (decL (P ++ [x]) (s + m) k))) :=
 arrival_any A1 n1 c1 P s k x m _ _ _ _ w hP (by omega) (fun w' hl => decided_any A1 n1 c1 P s k w' (hP.later hl) (by omega)) (fun A' c' w' hl hs => decided_any A' (n1 + 1) c' (P ++ [x]) (s + m) k w' hs (by omega))
  (fun h => by
    obtain ⟨h1, h2, h3, _⟩ := decE_zero h
    exact ⟨by rw [← hP.1]; exact decL_len h, by rw [← hP.1]; exact cen_pos h1, h3.1, h3.2⟩)
  (fun h => by rw [decL_len h, List.length_append, hP.1]; rfl)
end Go.Proofs.YteocdndanehpnaaGreat
namespace Go.Proofs.YteocdndanehpnaaGreat
theorem pv1 : decE [6, 6, 2] 10 1 = 0 ∧ decL [6, 6, 2] 10 1 = [4, 4, 2] := by decide +kernel
theorem pv2 : decE [6, 6, 2] 11 1 = 0 ∧ decL [6, 6, 2] 11 1 = [5, 5, 1] := by decide +kernel
theorem pv3 : decE [2, 2] 3 14 = 8 ∧ decL [2, 2] 3 14 = [] := by decide +kernel
theorem pv4 : spanE [6, 6, 2] 1 10 12 = 0 ∧ hosL [6, 6, 2] 1 10 12 = [(11, 2)] ∧ fstL [6, 6, 2] 1 10 12 = (11, 2, 0) := by decide +kernel
theorem pv5 : pplE [1050, 145, 805] [1040, 143, 817] (decE [1050, 145, 805] 20 1) (decE [1040, 143, 817] 20 1) = 0 ∧
  pplL [1050, 145, 805] [1040, 143, 817] (decL [1050, 145, 805] 20 1) (decL [1040, 143, 817] 20 1) (decE [1050, 145, 805] 20 1) (decE [1040, 143, 817] 20 1) = [(0, 1)] := by decide +kernel
theorem pv6 : arrE [147, 253] 4 132 1 (decE [147, 253] 4 1) (decE ([147, 253] ++ [132]) (4 + 1) 1) (decL ([147, 253] ++ [132]) (4 + 1) 1) = 0 ∧
  arrL [147, 253] (decL [147, 253] 4 1) (decL ([147, 253] ++ [132]) (4 + 1) 1) 4 132 1 (decE [147, 253] 4 1) (decE ([147, 253] ++ [132]) (4 + 1) 1) = [0, 1] := by decide +kernel
theorem pv7 : arrE [147, 253] 4 132 1 (decE [147, 253] 4 14) (decE ([147, 253] ++ [132]) (4 + 1) 14) (decL ([147, 253] ++ [132]) (4 + 1) 14) = 0 ∧
  arrL [147, 253] (decL [147, 253] 4 14) (decL ([147, 253] ++ [132]) (4 + 1) 14) 4 132 1 (decE [147, 253] 4 14) (decE ([147, 253] ++ [132]) (4 + 1) 14) = [] := by decide +kernel
theorem pv8 : arrE [1, 1] 2 100 1 (decE [1, 1] 2 1) (decE ([1, 1] ++ [100]) (2 + 1) 1) (decL ([1, 1] ++ [100]) (2 + 1) 1) = 4 ∧
  arrL [1, 1] (decL [1, 1] 2 1) (decL ([1, 1] ++ [100]) (2 + 1) 1) 2 100 1 (decE [1, 1] 2 1) (decE ([1, 1] ++ [100]) (2 + 1) 1) = [] := by decide +kernel
end Go.Proofs.YteocdndanehpnaaGreat
namespace Go.Proofs.YteocdndanehpnaaGreat
open Go.RowKit
set_option linter.unusedSimpArgs false
set_option linter.unusedVariables false
set_option maxRecDepth 100000
def YesP (w : World) (e : Ending) (w' : World) : Prop := e = .returned (.bool true) ∧ Lat w w'
theorem equal_same (A1 : Option Addr) (n1 c1 : Nat) (xs : List Int) (A2 : Option Addr) (n2 c2 : Nat) (w : World) (h1 : Sl w .i64 A1 n1 xs) (h2 : Sl w .i64 A2 n2 xs) (hn1 : n1 ≤ 1000) (hn2 : n2 ≤ 1000) :
  Calls Tryz.prog 21 #[.slice A1 n1 c1, .slice A2 n2 c2] w (fun e w' => e = .returned (.bool true) ∧ Lat w w') := by
 have h := equal_any A1 n1 c1 xs A2 n2 c2 xs w h1 h2 (by omega) (by omega)
 rw [beq_self_eq_true] at h
 exact h
theorem rowM_one {w : World} {g : Nat} {a b : Int} (h : Blk w g 56 #[.int .i64 a, .int .i64 b]) : RowM w (some ⟨g, 0, none⟩) 2 1 (prs [(a, b)]) := by
 refine ⟨rfl, fun x hx => ?_, fun _ => ⟨g, 0, rfl, h.lt, fun i x hx => ?_⟩⟩
 ·simp only [prs, List.map_cons, List.map_nil, List.mem_cons, List.not_mem_nil, or_false] at hx
  subst hx
  rfl
 ·match i, hx with
  | 0, hx =>
    obtain rfl := Option.some.inj hx
    exact fun j v hj => by
     simp only [Nat.zero_mul, Nat.zero_add]
     rw [h.cell j]
     simpa using hj
theorem spell143 (T : Array Value) (h : T.size = 143) : ∃ f : Nat → Value, (∀ k, f k = T.getD k undef) ∧ T = #[f 0, f 1, f 2, f 3, f 4, f 5, f 6, f 7, f 8, f 9, f 10, f 11, f 12, f 13, f 14, f 15, f 16, f 17, f 18, f 19, f 20, f 21, f 22, f 23, f 24, f 25, f 26, f 27, f 28, f 29, f 30, f 31, f 32, f 33, f 34, f 35, f 36, f 37, f 38, f 39, f 40, f 41, f 42, f 43, f 44, f 45, f 46, f 47, f 48, f 49, f 50, f 51, f 52, f 53, f 54, f 55, f 56, f 57, f 58, f 59, f 60, f 61, f 62, f 63, f 64, f 65, f 66, f 67, f 68, f 69, f 70, f 71, f 72, f 73, f 74, f 75, f 76, f 77, f 78, f 79, f 80, f 81, f 82, f 83, f 84, f 85, f 86, f 87, f 88, f 89, f 90, f 91, f 92, f 93, f 94, f 95, f 96, f 97, f 98, f 99, f 100, f 101, f 102, f 103, f 104, f 105, f 106, f 107, f 108, f 109, f 110, f 111, f 112, f 113, f 114, f 115, f 116, f 117, f 118, f 119, f 120, f 121, f 122, f 123, f 124, f 125, f 126, f 127, f 128, f 129, f 130, f 131, f 132, f 133, f 134, f 135, f 136, f 137, f 138, f 139, f 140, f 141, f 142] := ⟨fun k => T.getD k undef, fun _ => rfl, (spell 143 T h).trans (by kernel_rfl)⟩
noncomputable def pw11_rows (A2 : Option Addr) (c2 : Nat) (A4 : Option Addr) (c4 : Nat) (A8 : Option Addr) (c8 : Nat) (A13 : Option Addr) (c13 : Nat) (A15 : Option Addr) (c15 : Nat) (A17 : Option Addr) (c17 : Nat) : List SRow := [
 ⟨Op.move (Operand.tmp 2), some 69, none, [], fun v _ => v = .slice A2 3 c2⟩,
 ⟨Op.buildSlice 29 3 #[(0, Operand.const (Value.int IntKind.i64 4)), (1, Operand.const (Value.int IntKind.i64 4)), (2, Operand.const (Value.int IntKind.i64 2))], some 70, none, [], fun v w => ∃ g : Nat, v = .slice (some ⟨g, 0, none⟩) 3 3 ∧ Blk w g 3 #[.int .i64 4, .int .i64 4, .int .i64 2]⟩,
 ⟨Op.call { callee := Callee.value (Operand.func 21), args := #[Operand.tmp 69, Operand.tmp 70], argTypes := #[29, 29] }, some 71, none, [0, 1], fun v _ => v = .bool true⟩,
 ⟨Op.move (Operand.tmp 71), some 72, none, [2, 2], fun v _ => v = .bool true⟩,
 ⟨Op.move (Operand.tmp 3), some 73, some (3, true), [3], fun v _ => v = .int .i64 0⟩,
 ⟨Op.binOp BinOp.eql 33 (Operand.tmp 73) (Operand.const (Value.int IntKind.i64 0)) 33, some 74, some (3, true), [4, 3], fun v _ => v = .bool true⟩,
 ⟨Op.pick (Operand.tmp 72) (Operand.tmp 74) (Operand.const (Value.bool false)), some 75, none, [3, 5], fun v _ => v = .bool true⟩,
 ⟨Op.move (Operand.tmp 75), some 76, none, [6, 3], fun v _ => v = .bool true⟩,
 ⟨Op.move (Operand.tmp 4), some 77, some (7, true), [7], fun v _ => v = .slice A4 3 c4⟩,
 ⟨Op.buildSlice 29 3 #[(0, Operand.const (Value.int IntKind.i64 5)), (1, Operand.const (Value.int IntKind.i64 5)), (2, Operand.const (Value.int IntKind.i64 1))], some 78, some (7, true), [7], fun v w => ∃ g : Nat, v = .slice (some ⟨g, 0, none⟩) 3 3 ∧ Blk w g 3 #[.int .i64 5, .int .i64 5, .int .i64 1]⟩,
 ⟨Op.call { callee := Callee.value (Operand.func 21), args := #[Operand.tmp 77, Operand.tmp 78], argTypes := #[29, 29] }, some 79, some (7, true), [8, 9, 7, 7], fun v _ => v = .bool true⟩,
 ⟨Op.pick (Operand.tmp 76) (Operand.tmp 79) (Operand.const (Value.bool false)), some 80, none, [7, 10], fun v _ => v = .bool true⟩,
 ⟨Op.move (Operand.tmp 80), some 81, none, [11, 10], fun v _ => v = .bool true⟩,
 ⟨Op.move (Operand.tmp 5), some 82, some (12, true), [12], fun v _ => v = .int .i64 0⟩,
 ⟨Op.binOp BinOp.eql 33 (Operand.tmp 82) (Operand.const (Value.int IntKind.i64 0)) 33, some 83, some (12, true), [13, 12], fun v _ => v = .bool true⟩,
 ⟨Op.pick (Operand.tmp 81) (Operand.tmp 83) (Operand.const (Value.bool false)), some 84, none, [12, 14], fun v _ => v = .bool true⟩,
 ⟨Op.move (Operand.tmp 84), some 85, none, [15, 12], fun v _ => v = .bool true⟩,
 ⟨Op.move (Operand.tmp 7), some 86, some (16, true), [16], fun v _ => v = .int .i64 8⟩,
 ⟨Op.binOp BinOp.eql 33 (Operand.tmp 86) (Operand.const (Value.int IntKind.i64 8)) 33, some 87, some (16, true), [17, 16], fun v _ => v = .bool true⟩,
 ⟨Op.pick (Operand.tmp 85) (Operand.tmp 87) (Operand.const (Value.bool false)), some 88, none, [16, 18], fun v _ => v = .bool true⟩,
 ⟨Op.move (Operand.tmp 88), some 89, none, [19, 16], fun v _ => v = .bool true⟩,
 ⟨Op.move (Operand.tmp 8), some 90, some (20, true), [20], fun v _ => v = .slice A8 1 c8⟩,
 ⟨Op.build 56 #[(0, Operand.const (Value.int IntKind.i64 11)), (1, Operand.const (Value.int IntKind.i64 2))], some 91, some (20, true), [20], fun v _ => v = .agg #[.int .i64 11, .int .i64 2]⟩,
 ⟨Op.buildSlice 32 1 #[(0, Operand.tmp 91)], some 92, some (20, true), [22, 20], fun v w => ∃ g : Nat, v = .slice (some ⟨g, 0, none⟩) 1 1 ∧ Blk w g 56 #[.int .i64 11, .int .i64 2]⟩,
 ⟨Op.call { callee := Callee.value (Operand.func 25), args := #[Operand.tmp 90, Operand.tmp 92], argTypes := #[32, 32] }, some 93, some (20, true), [21, 23, 20, 20], fun v _ => v = .bool true⟩,
 ⟨Op.pick (Operand.tmp 89) (Operand.tmp 93) (Operand.const (Value.bool false)), some 94, none, [20, 24], fun v _ => v = .bool true⟩,
 ⟨Op.move (Operand.tmp 94), some 95, none, [25, 24], fun v _ => v = .bool true⟩,
 ⟨Op.move (Operand.tmp 9), some 96, some (26, true), [26], fun v _ => v = .int .i64 0⟩,
 ⟨Op.binOp BinOp.eql 33 (Operand.tmp 96) (Operand.const (Value.int IntKind.i64 0)) 33, some 97, some (26, true), [27, 26], fun v _ => v = .bool true⟩,
 ⟨Op.pick (Operand.tmp 95) (Operand.tmp 97) (Operand.const (Value.bool false)), some 98, none, [26, 28], fun v _ => v = .bool true⟩,
 ⟨Op.move (Operand.tmp 98), some 99, none, [29, 26], fun v _ => v = .bool true⟩,
 ⟨Op.move (Operand.tmp 10), some 100, some (30, true), [30], fun v _ => v = .int .i64 11⟩,
 ⟨Op.binOp BinOp.eql 3 (Operand.tmp 100) (Operand.const (Value.int IntKind.i64 11)) 3, some 101, some (30, true), [31, 30], fun v _ => v = .bool true⟩,
 ⟨Op.pick (Operand.tmp 99) (Operand.tmp 101) (Operand.const (Value.bool false)), some 102, none, [30, 32], fun v _ => v = .bool true⟩,
 ⟨Op.move (Operand.tmp 102), some 103, none, [33, 30], fun v _ => v = .bool true⟩,
 ⟨Op.move (Operand.tmp 11), some 104, some (34, true), [34], fun v _ => v = .int .i64 2⟩,
 ⟨Op.binOp BinOp.eql 3 (Operand.tmp 104) (Operand.const (Value.int IntKind.i64 2)) 3, some 105, some (34, true), [35, 34], fun v _ => v = .bool true⟩,
 ⟨Op.pick (Operand.tmp 103) (Operand.tmp 105) (Operand.const (Value.bool false)), some 106, none, [34, 36], fun v _ => v = .bool true⟩,
 ⟨Op.move (Operand.tmp 106), some 107, none, [37, 34], fun v _ => v = .bool true⟩,
 ⟨Op.move (Operand.tmp 12), some 108, some (38, true), [38], fun v _ => v = .int .i64 0⟩,
 ⟨Op.binOp BinOp.eql 33 (Operand.tmp 108) (Operand.const (Value.int IntKind.i64 0)) 33, some 109, some (38, true), [39, 38], fun v _ => v = .bool true⟩,
 ⟨Op.pick (Operand.tmp 107) (Operand.tmp 109) (Operand.const (Value.bool false)), some 110, none, [38, 40], fun v _ => v = .bool true⟩,
 ⟨Op.move (Operand.tmp 110), some 111, none, [41, 38], fun v _ => v = .bool true⟩,
 ⟨Op.move (Operand.tmp 13), some 112, some (42, true), [42], fun v _ => v = .slice A13 1 c13⟩,
 ⟨Op.build 56 #[(0, Operand.const (Value.int IntKind.i64 0)), (1, Operand.const (Value.int IntKind.i64 1))], some 113, some (42, true), [42], fun v _ => v = .agg #[.int .i64 0, .int .i64 1]⟩,
 ⟨Op.buildSlice 32 1 #[(0, Operand.tmp 113)], some 114, some (42, true), [44, 42], fun v w => ∃ g : Nat, v = .slice (some ⟨g, 0, none⟩) 1 1 ∧ Blk w g 56 #[.int .i64 0, .int .i64 1]⟩,
 ⟨Op.call { callee := Callee.value (Operand.func 25), args := #[Operand.tmp 112, Operand.tmp 114], argTypes := #[32, 32] }, some 115, some (42, true), [43, 45, 42, 42], fun v _ => v = .bool true⟩,
 ⟨Op.pick (Operand.tmp 111) (Operand.tmp 115) (Operand.const (Value.bool false)), some 116, none, [42, 46], fun v _ => v = .bool true⟩,
 ⟨Op.move (Operand.tmp 116), some 117, none, [47, 46], fun v _ => v = .bool true⟩,
 ⟨Op.move (Operand.tmp 14), some 118, some (48, true), [48], fun v _ => v = .int .i64 0⟩,
 ⟨Op.binOp BinOp.eql 33 (Operand.tmp 118) (Operand.const (Value.int IntKind.i64 0)) 33, some 119, some (48, true), [49, 48], fun v _ => v = .bool true⟩,
 ⟨Op.pick (Operand.tmp 117) (Operand.tmp 119) (Operand.const (Value.bool false)), some 120, none, [48, 50], fun v _ => v = .bool true⟩,
 ⟨Op.move (Operand.tmp 120), some 121, none, [51, 48], fun v _ => v = .bool true⟩,
 ⟨Op.move (Operand.tmp 15), some 122, some (52, true), [52], fun v _ => v = .slice A15 2 c15⟩,
 ⟨Op.buildSlice 29 2 #[(0, Operand.const (Value.int IntKind.i64 0)), (1, Operand.const (Value.int IntKind.i64 1))], some 123, some (52, true), [52], fun v w => ∃ g : Nat, v = .slice (some ⟨g, 0, none⟩) 2 2 ∧ Blk w g 3 #[.int .i64 0, .int .i64 1]⟩,
 ⟨Op.call { callee := Callee.value (Operand.func 21), args := #[Operand.tmp 122, Operand.tmp 123], argTypes := #[29, 29] }, some 124, some (52, true), [53, 54, 52, 52], fun v _ => v = .bool true⟩,
 ⟨Op.pick (Operand.tmp 121) (Operand.tmp 124) (Operand.const (Value.bool false)), some 125, none, [52, 55], fun v _ => v = .bool true⟩,
 ⟨Op.move (Operand.tmp 125), some 126, none, [56, 55], fun v _ => v = .bool true⟩,
 ⟨Op.move (Operand.tmp 16), some 127, some (57, true), [57], fun v _ => v = .int .i64 0⟩,
 ⟨Op.binOp BinOp.eql 33 (Operand.tmp 127) (Operand.const (Value.int IntKind.i64 0)) 33, some 128, some (57, true), [58, 57], fun v _ => v = .bool true⟩,
 ⟨Op.pick (Operand.tmp 126) (Operand.tmp 128) (Operand.const (Value.bool false)), some 129, none, [57, 59], fun v _ => v = .bool true⟩,
 ⟨Op.move (Operand.tmp 129), some 130, none, [60, 57], fun v _ => v = .bool true⟩,
 ⟨Op.move (Operand.tmp 17), some 131, some (61, true), [61], fun v _ => v = .slice A17 0 c17⟩,
 ⟨Op.call { callee := Callee.builtin Builtin.len, args := #[Operand.tmp 131], argTypes := #[29] }, some 132, some (61, true), [62, 61], fun v _ => v = .int .i64 0⟩,
 ⟨Op.binOp BinOp.eql 3 (Operand.tmp 132) (Operand.const (Value.int IntKind.i64 0)) 3, some 133, some (61, true), [63, 61], fun v _ => v = .bool true⟩,
 ⟨Op.pick (Operand.tmp 130) (Operand.tmp 133) (Operand.const (Value.bool false)), some 134, none, [61, 64], fun v _ => v = .bool true⟩,
 ⟨Op.move (Operand.tmp 134), some 135, none, [65, 61], fun v _ => v = .bool true⟩,
 ⟨Op.move (Operand.tmp 18), some 136, some (66, true), [66], fun v _ => v = .int .i64 0⟩,
 ⟨Op.binOp BinOp.eql 33 (Operand.tmp 136) (Operand.const (Value.int IntKind.i64 0)) 33, some 137, some (66, true), [67, 66], fun v _ => v = .bool true⟩,
 ⟨Op.pick (Operand.tmp 135) (Operand.tmp 137) (Operand.const (Value.bool false)), some 138, none, [66, 68], fun v _ => v = .bool true⟩,
 ⟨Op.move (Operand.tmp 138), some 139, none, [69, 66], fun v _ => v = .bool true⟩,
 ⟨Op.move (Operand.tmp 20), some 140, some (70, true), [70], fun v _ => v = .int .i64 4⟩,
 ⟨Op.binOp BinOp.eql 33 (Operand.tmp 140) (Operand.const (Value.int IntKind.i64 4)) 33, some 141, some (70, true), [71, 70], fun v _ => v = .bool true⟩,
 ⟨Op.pick (Operand.tmp 139) (Operand.tmp 141) (Operand.const (Value.bool false)), some 142, none, [70, 72], fun v _ => v = .bool true⟩,
 ⟨Op.assign (Operand.tmp 142), some 0, none, [73, 70, 0, 1, 2, 3, 4, 5, 6, 7, 8, 9, 10, 11, 12, 13, 14, 15, 16, 17, 18, 19, 20, 21, 22, 23, 24, 25, 26, 27, 28, 29, 30, 31, 32, 33, 34, 35, 36, 37, 38, 39, 40, 41, 42, 43, 44, 45, 46, 47, 48, 49, 50, 51, 52, 53, 54, 55, 56, 57, 58, 59, 60, 61, 62, 63, 64, 65, 66, 67, 68, 69, 70, 71, 72, 73], fun v _ => v = .bool true⟩]
noncomputable def pw11_base (A2 : Option Addr) (c2 : Nat) (A4 : Option Addr) (c4 : Nat) (A8 : Option Addr) (c8 : Nat) (A13 : Option Addr) (c13 : Nat) (A15 : Option Addr) (c15 : Nat) (A17 : Option Addr) (c17 : Nat) : List (Nat × Value) := [(2, .slice A2 3 c2), (3, .int .i64 0), (4, .slice A4 3 c4), (5, .int .i64 0), (7, .int .i64 8), (8, .slice A8 1 c8), (9, .int .i64 0), (10, .int .i64 11), (11, .int .i64 2), (12, .int .i64 0), (13, .slice A13 1 c13), (14, .int .i64 0), (15, .slice A15 2 c15), (16, .int .i64 0), (17, .slice A17 0 c17), (18, .int .i64 0), (20, .int .i64 4)]
set_option maxRecDepth 100000 in
set_option maxHeartbeats 4000000 in
theorem pw11_steps (V : World) (A2 : Option Addr) (c2 : Nat) (A4 : Option Addr) (c4 : Nat) (A8 : Option Addr) (c8 : Nat) (A13 : Option Addr) (c13 : Nat) (A15 : Option Addr) (c15 : Nat) (A17 : Option Addr) (c17 : Nat) (HE2 : ∀ w, Lat V w → ∀ (g2 : Nat) (b2 : Blk w g2 3 #[.int .i64 4, .int .i64 4, .int .i64 2]), Calls Tryz.prog 21 #[.slice A2 3 c2, .slice (some ⟨g2, 0, none⟩) 3 3] w (fun e w' => e = .returned (.bool true) ∧ Lat w w')) (HE4 : ∀ w, Lat V w → ∀ (g2 : Nat) (b2 : Blk w g2 3 #[.int .i64 5, .int .i64 5, .int .i64 1]), Calls Tryz.prog 21 #[.slice A4 3 c4, .slice (some ⟨g2, 0, none⟩) 3 3] w (fun e w' => e = .returned (.bool true) ∧ Lat w w')) (HE8 : ∀ w, Lat V w → ∀ (g2 : Nat) (b2 : Blk w g2 56 #[.int .i64 11, .int .i64 2]), Calls Tryz.prog 25 #[.slice A8 1 c8, .slice (some ⟨g2, 0, none⟩) 1 1] w (fun e w' => e = .returned (.bool true) ∧ Lat w w')) (HE13 : ∀ w, Lat V w → ∀ (g2 : Nat) (b2 : Blk w g2 56 #[.int .i64 0, .int .i64 1]), Calls Tryz.prog 25 #[.slice A13 1 c13, .slice (some ⟨g2, 0, none⟩) 1 1] w (fun e w' => e = .returned (.bool true) ∧ Lat w w')) (HE15 : ∀ w, Lat V w → ∀ (g2 : Nat) (b2 : Blk w g2 3 #[.int .i64 0, .int .i64 1]), Calls Tryz.prog 21 #[.slice A15 2 c15, .slice (some ⟨g2, 0, none⟩) 2 2] w (fun e w' => e = .returned (.bool true) ∧ Lat w w')) :
  AllStepsN Tryz.prog (pw11_rows A2 c2 A4 c4 A8 c8 A13 c13 A15 c15 A17 c17) (pw11_base A2 c2 A4 c4 A8 c8 A13 c13 A15 c15 A17 c17) V (pw11_rows A2 c2 A4 c4 A8 c8 A13 c13 A15 c15 A17 c17) := by
 refine n1 ?_ (eb 2) (fun ev w hl ec e1 d ty p af g => ?_)
 refine AllStepsN.next (fun v w w' h l => by obtain ⟨g, h1, h2⟩ := h; exact ⟨g, h1, h2.later l⟩) (fun j b h => by cases h) (fun a w hl hb hd o ho => by obtain ⟨d, op, ty, p, af, g⟩ := o; simp only at ho; subst ho; have ec : ∀ v, a.eval (.const v) = v := fun _ => rfl; exact Runs.new (w' := w.alloc (.cells #[.int .i64 4, .int .i64 4, .int .i64 2] 3)) (by unfold execOp; generalize a.eval = ev at ec ⊢; simp only [ec]; go_simp) ⟨Lat.alloc _ _, fun _ => ⟨_, rfl, Blk.new _ _ _⟩⟩) ?_
 refine AllStepsN.next (fun _ _ _ h _ => h) (fun j b h => by cases h) (fun a w hl hb hd o ho => by obtain ⟨v1, e1, q1⟩ := hd 0 _ _ (by simp) rfl rfl; subst q1; obtain ⟨v2, e2, q2⟩ := hd 1 _ _ (by simp) rfl rfl; obtain ⟨g2, rfl, b2⟩ := q2; exact Runs.call (yv_call (f := 21) (fun _ => by go_simp) o ho (by simp only [List.map_toArray, List.map_cons, List.map_nil, e1, e2])) ((HE2 w hl g2 b2).mono fun e w' h => ⟨_, h.1, h.2, fun _ => rfl⟩)) ?_
 refine n1 ?_ (ed 2) (fun ev w hl ec e1 d ty p af g => ?_)
 refine n1 ?_ (eb 3) (fun ev w hl ec e1 d ty p af g => ?_)
 refine n1 ?_ (ed 4) (fun ev w hl ec e1 d ty p af g => ?_)
 refine n2 ?_ (ed 3) (ed 5) (fun ev w hl ec e1 e2 d ty p af g => ?_)
 refine n1 ?_ (ed 6) (fun ev w hl ec e1 d ty p af g => ?_)
 refine n1 ?_ (eb 4) (fun ev w hl ec e1 d ty p af g => ?_)
 refine AllStepsN.next (fun v w w' h l => by obtain ⟨g, h1, h2⟩ := h; exact ⟨g, h1, h2.later l⟩) (fun j b h => by cases h; exact ⟨_, rfl, ⟨_, rfl⟩, by simp, fun _ _ h => h⟩) (fun a w hl hb hd o ho => by obtain ⟨d, op, ty, p, af, g⟩ := o; simp only at ho; subst ho; have ec : ∀ v, a.eval (.const v) = v := fun _ => rfl; exact Runs.new (w' := w.alloc (.cells #[.int .i64 5, .int .i64 5, .int .i64 1] 3)) (by unfold execOp; generalize a.eval = ev at ec ⊢; simp only [ec]; go_simp) ⟨Lat.alloc _ _, fun _ => ⟨_, rfl, Blk.new _ _ _⟩⟩) ?_
 refine AllStepsN.next (fun _ _ _ h _ => h) (fun j b h => by cases h; exact ⟨_, rfl, ⟨_, rfl⟩, by simp, fun _ _ h => h⟩) (fun a w hl hb hd o ho => by obtain ⟨v1, e1, q1⟩ := hd 8 _ _ (by simp) rfl rfl; subst q1; obtain ⟨v2, e2, q2⟩ := hd 9 _ _ (by simp) rfl rfl; obtain ⟨g2, rfl, b2⟩ := q2; exact Runs.call (yv_call (f := 21) (fun _ => by go_simp) o ho (by simp only [List.map_toArray, List.map_cons, List.map_nil, e1, e2])) ((HE4 w hl g2 b2).mono fun e w' h => ⟨_, h.1, h.2, fun _ => rfl⟩)) ?_
 refine n2 ?_ (ed 7) (ed 10) (fun ev w hl ec e1 e2 d ty p af g => ?_)
 refine n1 ?_ (ed 11) (fun ev w hl ec e1 d ty p af g => ?_)
 refine n1 ?_ (eb 5) (fun ev w hl ec e1 d ty p af g => ?_)
 refine n1 ?_ (ed 13) (fun ev w hl ec e1 d ty p af g => ?_)
 refine n2 ?_ (ed 12) (ed 14) (fun ev w hl ec e1 e2 d ty p af g => ?_)
 refine n1 ?_ (ed 15) (fun ev w hl ec e1 d ty p af g => ?_)
 refine n1 ?_ (eb 7) (fun ev w hl ec e1 d ty p af g => ?_)
 refine n1 ?_ (ed 17) (fun ev w hl ec e1 d ty p af g => ?_)
 refine n2 ?_ (ed 16) (ed 18) (fun ev w hl ec e1 e2 d ty p af g => ?_)
 refine n1 ?_ (ed 19) (fun ev w hl ec e1 d ty p af g => ?_)
 refine n1 ?_ (eb 8) (fun ev w hl ec e1 d ty p af g => ?_)
 refine n0 ?_  (fun ev w hl ec  d ty p af g => ?_)
 refine AllStepsN.next (fun v w w' h l => by obtain ⟨g, h1, h2⟩ := h; exact ⟨g, h1, h2.later l⟩) (fun j b h => by cases h; exact ⟨_, rfl, ⟨_, rfl⟩, by simp, fun _ _ h => h⟩) (fun a w hl hb hd o ho => by obtain ⟨v1, e1, q1⟩ := hd 22 _ _ (by simp) rfl rfl; subst q1; obtain ⟨d, op, ty, p, af, g⟩ := o; simp only at ho; subst ho; have ec : ∀ v, a.eval (.const v) = v := fun _ => rfl; exact Runs.new (w' := w.alloc (.cells #[.int .i64 11, .int .i64 2] 56)) (by unfold execOp; generalize a.eval = ev at e1 ec ⊢; simp only [e1, ec]; go_simp) ⟨Lat.alloc _ _, fun _ => ⟨_, rfl, Blk.new _ _ _⟩⟩) ?_
 refine AllStepsN.next (fun _ _ _ h _ => h) (fun j b h => by cases h; exact ⟨_, rfl, ⟨_, rfl⟩, by simp, fun _ _ h => h⟩) (fun a w hl hb hd o ho => by obtain ⟨v1, e1, q1⟩ := hd 21 _ _ (by simp) rfl rfl; subst q1; obtain ⟨v2, e2, q2⟩ := hd 23 _ _ (by simp) rfl rfl; obtain ⟨g2, rfl, b2⟩ := q2; exact Runs.call (yv_call (f := 25) (fun _ => by go_simp) o ho (by simp only [List.map_toArray, List.map_cons, List.map_nil, e1, e2])) ((HE8 w hl g2 b2).mono fun e w' h => ⟨_, h.1, h.2, fun _ => rfl⟩)) ?_
 refine n2 ?_ (ed 20) (ed 24) (fun ev w hl ec e1 e2 d ty p af g => ?_)
 refine n1 ?_ (ed 25) (fun ev w hl ec e1 d ty p af g => ?_)
 refine n1 ?_ (eb 9) (fun ev w hl ec e1 d ty p af g => ?_)
 refine n1 ?_ (ed 27) (fun ev w hl ec e1 d ty p af g => ?_)
 refine n2 ?_ (ed 26) (ed 28) (fun ev w hl ec e1 e2 d ty p af g => ?_)
 refine n1 ?_ (ed 29) (fun ev w hl ec e1 d ty p af g => ?_)
 refine n1 ?_ (eb 10) (fun ev w hl ec e1 d ty p af g => ?_)
 refine n1 ?_ (ed 31) (fun ev w hl ec e1 d ty p af g => ?_)
 refine n2 ?_ (ed 30) (ed 32) (fun ev w hl ec e1 e2 d ty p af g => ?_)
 refine n1 ?_ (ed 33) (fun ev w hl ec e1 d ty p af g => ?_)
 refine n1 ?_ (eb 11) (fun ev w hl ec e1 d ty p af g => ?_)
 refine n1 ?_ (ed 35) (fun ev w hl ec e1 d ty p af g => ?_)
 refine n2 ?_ (ed 34) (ed 36) (fun ev w hl ec e1 e2 d ty p af g => ?_)
 refine n1 ?_ (ed 37) (fun ev w hl ec e1 d ty p af g => ?_)
 refine n1 ?_ (eb 12) (fun ev w hl ec e1 d ty p af g => ?_)
 refine n1 ?_ (ed 39) (fun ev w hl ec e1 d ty p af g => ?_)
 refine n2 ?_ (ed 38) (ed 40) (fun ev w hl ec e1 e2 d ty p af g => ?_)
 refine n1 ?_ (ed 41) (fun ev w hl ec e1 d ty p af g => ?_)
 refine n1 ?_ (eb 13) (fun ev w hl ec e1 d ty p af g => ?_)
 refine n0 ?_  (fun ev w hl ec  d ty p af g => ?_)
 refine AllStepsN.next (fun v w w' h l => by obtain ⟨g, h1, h2⟩ := h; exact ⟨g, h1, h2.later l⟩) (fun j b h => by cases h; exact ⟨_, rfl, ⟨_, rfl⟩, by simp, fun _ _ h => h⟩) (fun a w hl hb hd o ho => by obtain ⟨v1, e1, q1⟩ := hd 44 _ _ (by simp) rfl rfl; subst q1; obtain ⟨d, op, ty, p, af, g⟩ := o; simp only at ho; subst ho; have ec : ∀ v, a.eval (.const v) = v := fun _ => rfl; exact Runs.new (w' := w.alloc (.cells #[.int .i64 0, .int .i64 1] 56)) (by unfold execOp; generalize a.eval = ev at e1 ec ⊢; simp only [e1, ec]; go_simp) ⟨Lat.alloc _ _, fun _ => ⟨_, rfl, Blk.new _ _ _⟩⟩) ?_
 refine AllStepsN.next (fun _ _ _ h _ => h) (fun j b h => by cases h; exact ⟨_, rfl, ⟨_, rfl⟩, by simp, fun _ _ h => h⟩) (fun a w hl hb hd o ho => by obtain ⟨v1, e1, q1⟩ := hd 43 _ _ (by simp) rfl rfl; subst q1; obtain ⟨v2, e2, q2⟩ := hd 45 _ _ (by simp) rfl rfl; obtain ⟨g2, rfl, b2⟩ := q2; exact Runs.call (yv_call (f := 25) (fun _ => by go_simp) o ho (by simp only [List.map_toArray, List.map_cons, List.map_nil, e1, e2])) ((HE13 w hl g2 b2).mono fun e w' h => ⟨_, h.1, h.2, fun _ => rfl⟩)) ?_
 refine n2 ?_ (ed 42) (ed 46) (fun ev w hl ec e1 e2 d ty p af g => ?_)
 refine n1 ?_ (ed 47) (fun ev w hl ec e1 d ty p af g => ?_)
 refine n1 ?_ (eb 14) (fun ev w hl ec e1 d ty p af g => ?_)
 refine n1 ?_ (ed 49) (fun ev w hl ec e1 d ty p af g => ?_)
 refine n2 ?_ (ed 48) (ed 50) (fun ev w hl ec e1 e2 d ty p af g => ?_)
 refine n1 ?_ (ed 51) (fun ev w hl ec e1 d ty p af g => ?_)
 refine n1 ?_ (eb 15) (fun ev w hl ec e1 d ty p af g => ?_)
 refine AllStepsN.next (fun v w w' h l => by obtain ⟨g, h1, h2⟩ := h; exact ⟨g, h1, h2.later l⟩) (fun j b h => by cases h; exact ⟨_, rfl, ⟨_, rfl⟩, by simp, fun _ _ h => h⟩) (fun a w hl hb hd o ho => by obtain ⟨d, op, ty, p, af, g⟩ := o; simp only at ho; subst ho; have ec : ∀ v, a.eval (.const v) = v := fun _ => rfl; exact Runs.new (w' := w.alloc (.cells #[.int .i64 0, .int .i64 1] 3)) (by unfold execOp; generalize a.eval = ev at ec ⊢; simp only [ec]; go_simp) ⟨Lat.alloc _ _, fun _ => ⟨_, rfl, Blk.new _ _ _⟩⟩) ?_
 refine AllStepsN.next (fun _ _ _ h _ => h) (fun j b h => by cases h; exact ⟨_, rfl, ⟨_, rfl⟩, by simp, fun _ _ h => h⟩) (fun a w hl hb hd o ho => by obtain ⟨v1, e1, q1⟩ := hd 53 _ _ (by simp) rfl rfl; subst q1; obtain ⟨v2, e2, q2⟩ := hd 54 _ _ (by simp) rfl rfl; obtain ⟨g2, rfl, b2⟩ := q2; exact Runs.call (yv_call (f := 21) (fun _ => by go_simp) o ho (by simp only [List.map_toArray, List.map_cons, List.map_nil, e1, e2])) ((HE15 w hl g2 b2).mono fun e w' h => ⟨_, h.1, h.2, fun _ => rfl⟩)) ?_
 refine n2 ?_ (ed 52) (ed 55) (fun ev w hl ec e1 e2 d ty p af g => ?_)
 refine n1 ?_ (ed 56) (fun ev w hl ec e1 d ty p af g => ?_)
 refine n1 ?_ (eb 16) (fun ev w hl ec e1 d ty p af g => ?_)
 refine n1 ?_ (ed 58) (fun ev w hl ec e1 d ty p af g => ?_)
 refine n2 ?_ (ed 57) (ed 59) (fun ev w hl ec e1 e2 d ty p af g => ?_)
 refine n1 ?_ (ed 60) (fun ev w hl ec e1 d ty p af g => ?_)
 refine n1 ?_ (eb 17) (fun ev w hl ec e1 d ty p af g => ?_)
 refine n1 ?_ (ed 62) (fun ev w hl ec e1 d ty p af g => ?_)
 refine n1 ?_ (ed 63) (fun ev w hl ec e1 d ty p af g => ?_)
 refine n2 ?_ (ed 61) (ed 64) (fun ev w hl ec e1 e2 d ty p af g => ?_)
 refine n1 ?_ (ed 65) (fun ev w hl ec e1 d ty p af g => ?_)
 refine n1 ?_ (eb 18) (fun ev w hl ec e1 d ty p af g => ?_)
 refine n1 ?_ (ed 67) (fun ev w hl ec e1 d ty p af g => ?_)
 refine n2 ?_ (ed 66) (ed 68) (fun ev w hl ec e1 e2 d ty p af g => ?_)
 refine n1 ?_ (ed 69) (fun ev w hl ec e1 d ty p af g => ?_)
 refine n1 ?_ (eb 20) (fun ev w hl ec e1 d ty p af g => ?_)
 refine n1 ?_ (ed 71) (fun ev w hl ec e1 d ty p af g => ?_)
 refine n2 ?_ (ed 70) (ed 72) (fun ev w hl ec e1 e2 d ty p af g => ?_)
 refine n1 ?_ (ed 73) (fun ev w hl ec e1 d ty p af g => ?_)
 ·exact AllStepsN.none
 all_goals (unfold execOp; first | simp only [e1, e2, ec] | simp only [e1, ec] | simp only [ec])
 all_goals go_simp
set_option maxHeartbeats 8000000 in
theorem wakes10 (w : World) : Calls Tryz.prog 8 #[] w (YesP w) := by
 go_enter Tryz.func8, Tryz.ntmps8
 go_upto_region 2 with (fail)
 refine name1 (Q := fun W => Code.wp _ _ _ _ W) ?_
 intro W1 l1 _ k1
 obtain ⟨g1, hg1⟩ : ∃ z, w.heap.size = z := ⟨_, rfl⟩
 rw [hg1] at k1 ⊢
 have L1 := Lib.hid l1
 have s1 := Lib.hid (Sl.of_blk' (t := 3) (xs := [6, 6, 2]) k1 rfl)
 clear hg1 k1 l1
 have h := decided_any (some ⟨g1, 0, none⟩) 3 3 [6, 6, 2] 10 1 W1 s1.out (by decide)
 rw [pv1.1, pv1.2] at h
 go_wp2_with fail
 refine h.mono ?_
 rintro e W2 ⟨A2, n2, c2, rfl, q, _, l⟩
 replace s1 := Lib.hid (s1.out.later l)
 have L2 := Lib.hid (L1.out.trans l)
 obtain rfl : 3 = n2 := q.1
 have f2 := Lib.hid q
 clear q
 clear h l L1
 have h := decided_any (some ⟨g1, 0, none⟩) 3 3 [6, 6, 2] 11 1 W2 s1.out (by decide)
 rw [pv2.1, pv2.2] at h
 go_wp2_with fail
 refine h.mono ?_
 rintro e W3 ⟨A4, n4, c4, rfl, q, _, l⟩
 replace s1 := Lib.hid (s1.out.later l)
 replace f2 := Lib.hid (f2.out.later l)
 have L3 := Lib.hid (L2.out.trans l)
 obtain rfl : 3 = n4 := q.1
 have f4 := Lib.hid q
 clear q
 clear h l L2
 go_wp2_with fail
 refine name1 (Q := fun W => Calls _ _ _ W _) ?_
 intro V3 lv _ k0
 obtain ⟨gv, hgv⟩ : ∃ z, W3.heap.size = z := ⟨_, rfl⟩
 rw [hgv] at k0 ⊢
 replace s1 := Lib.hid (s1.out.later lv)
 replace f2 := Lib.hid (f2.out.later lv)
 replace f4 := Lib.hid (f4.out.later lv)
 replace L3 := Lib.hid (L3.out.trans lv)
 have h := decided_any (some ⟨gv, 0, none⟩) 2 2 [2, 2] 3 14 V3 (Sl.of_blk' (t := 3) k0 rfl) (by decide)
 rw [pv3.1, pv3.2] at h
 refine h.mono ?_
 rintro e W4 ⟨A6, n6, c6, rfl, q, _, l⟩
 replace s1 := Lib.hid (s1.out.later l)
 replace f2 := Lib.hid (f2.out.later l)
 replace f4 := Lib.hid (f4.out.later l)
 have L4 := Lib.hid (L3.out.trans l)
 clear q
 clear h l L3 lv hgv k0
 have h := pHouse_any (some ⟨g1, 0, none⟩) 3 3 [6, 6, 2] 1 10 12 W4 s1.out (by decide)
 rw [pv4.1, pv4.2.1] at h
 go_wp2_with fail
 refine h.mono ?_
 rintro e W5 ⟨v8, rfl, q, l⟩
 replace s1 := Lib.hid (s1.out.later l)
 replace f2 := Lib.hid (f2.out.later l)
 replace f4 := Lib.hid (f4.out.later l)
 have L5 := Lib.hid (L4.out.trans l)
 obtain ⟨A8, c8, rfl, q8, _⟩ := q.form
 have f8 : Hid (RowM W5 A8 2 1 (prs [(11, 2)])) := q8
 rw [show (prs [((11 : Int), (2 : Int))]).length = 1 from rfl]
 clear q q8
 clear h l L4
 have h := pFirst_any (some ⟨g1, 0, none⟩) 3 3 [6, 6, 2] 1 10 12 W5 s1.out (by decide)
 rw [pv4.2.2] at h
 go_wp2_with fail
 refine h.mono ?_
 rintro e W6 ⟨rfl, l⟩
 replace s1 := Lib.hid (s1.out.later l)
 replace f2 := Lib.hid (f2.out.later l)
 replace f4 := Lib.hid (f4.out.later l)
 replace f8 := Lib.hid (f8.out.later l)
 have L6 := Lib.hid (L5.out.trans l)
 clear h l L5
 go_wp2_with fail
 refine name2 (Q := fun W => Calls _ _ _ W _) ?_
 intro V6 lv _ k0 k1
 obtain ⟨gv, hgv⟩ : ∃ z, W6.heap.size = z := ⟨_, rfl⟩
 rw [hgv] at k0 k1 ⊢
 replace s1 := Lib.hid (s1.out.later lv)
 replace f2 := Lib.hid (f2.out.later lv)
 replace f4 := Lib.hid (f4.out.later lv)
 replace f8 := Lib.hid (f8.out.later lv)
 replace L6 := Lib.hid (L6.out.trans lv)
 have h := peopleV_any (some ⟨gv, 0, none⟩) 3 3 [1050, 145, 805] (some ⟨gv + 1, 0, none⟩) 3 3 [1040, 143, 817] 20 1 V6 (Sl.of_blk' (t := 3) k0 rfl) (Sl.of_blk' (t := 3) k1 rfl) (by decide) (by decide)
 rw [pv5.1, pv5.2] at h
 refine h.mono ?_
 rintro e W7 ⟨v13, rfl, q, l⟩
 replace s1 := Lib.hid (s1.out.later l)
 replace f2 := Lib.hid (f2.out.later l)
 replace f4 := Lib.hid (f4.out.later l)
 replace f8 := Lib.hid (f8.out.later l)
 have L7 := Lib.hid (L6.out.trans l)
 obtain ⟨A13, c13, rfl, q8, _⟩ := q.form
 have f13 : Hid (RowM W7 A13 2 1 (prs [(0, 1)])) := q8
 rw [show (prs [((0 : Int), (1 : Int))]).length = 1 from rfl]
 clear q q8
 clear h l L6 lv hgv k0 k1
 go_wp2_with fail
 refine name1 (Q := fun W => Calls _ _ _ W _) ?_
 intro V7 lv _ k0
 obtain ⟨gv, hgv⟩ : ∃ z, W7.heap.size = z := ⟨_, rfl⟩
 rw [hgv] at k0 ⊢
 replace s1 := Lib.hid (s1.out.later lv)
 replace f2 := Lib.hid (f2.out.later lv)
 replace f4 := Lib.hid (f4.out.later lv)
 replace f8 := Lib.hid (f8.out.later lv)
 replace f13 := Lib.hid (f13.out.later lv)
 replace L7 := Lib.hid (L7.out.trans lv)
 have h := arrivalV_any (some ⟨gv, 0, none⟩) 2 2 [147, 253] 4 1 132 1 V7 (Sl.of_blk' (t := 3) k0 rfl) (by decide)
 rw [pv6.1, pv6.2] at h
 refine h.mono ?_
 rintro e W8 ⟨v15, rfl, q, l⟩
 replace s1 := Lib.hid (s1.out.later l)
 replace f2 := Lib.hid (f2.out.later l)
 replace f4 := Lib.hid (f4.out.later l)
 replace f8 := Lib.hid (f8.out.later l)
 replace f13 := Lib.hid (f13.out.later l)
 have L8 := Lib.hid (L7.out.trans l)
 obtain ⟨A15, c15, rfl, q8, _⟩ := q.form
 have f15 : Hid (Sl W8 .i64 A15 2 [0, 1]) := q8
 rw [show ([0, 1] : List Int).length = 2 from rfl]
 clear q q8
 clear h l L7 lv hgv k0
 go_wp2_with fail
 refine name1 (Q := fun W => Calls _ _ _ W _) ?_
 intro V8 lv _ k0
 obtain ⟨gv, hgv⟩ : ∃ z, W8.heap.size = z := ⟨_, rfl⟩
 rw [hgv] at k0 ⊢
 replace s1 := Lib.hid (s1.out.later lv)
 replace f2 := Lib.hid (f2.out.later lv)
 replace f4 := Lib.hid (f4.out.later lv)
 replace f8 := Lib.hid (f8.out.later lv)
 replace f13 := Lib.hid (f13.out.later lv)
 replace f15 := Lib.hid (f15.out.later lv)
 replace L8 := Lib.hid (L8.out.trans lv)
 have h := arrivalV_any (some ⟨gv, 0, none⟩) 2 2 [147, 253] 4 14 132 1 V8 (Sl.of_blk' (t := 3) k0 rfl) (by decide)
 rw [pv7.1, pv7.2] at h
 refine h.mono ?_
 rintro e W9 ⟨v17, rfl, q, l⟩
 replace s1 := Lib.hid (s1.out.later l)
 replace f2 := Lib.hid (f2.out.later l)
 replace f4 := Lib.hid (f4.out.later l)
 replace f8 := Lib.hid (f8.out.later l)
 replace f13 := Lib.hid (f13.out.later l)
 replace f15 := Lib.hid (f15.out.later l)
 have L9 := Lib.hid (L8.out.trans l)
 obtain ⟨A17, c17, rfl, q8, _⟩ := q.form
 rw [show ([] : List Int).length = 0 from rfl]
 clear q q8
 clear h l L8 lv hgv k0
 go_wp2_with fail
 refine name1 (Q := fun W => Calls _ _ _ W _) ?_
 intro V9 lv _ k0
 obtain ⟨gv, hgv⟩ : ∃ z, W9.heap.size = z := ⟨_, rfl⟩
 rw [hgv] at k0 ⊢
 replace s1 := Lib.hid (s1.out.later lv)
 replace f2 := Lib.hid (f2.out.later lv)
 replace f4 := Lib.hid (f4.out.later lv)
 replace f8 := Lib.hid (f8.out.later lv)
 replace f13 := Lib.hid (f13.out.later lv)
 replace f15 := Lib.hid (f15.out.later lv)
 replace L9 := Lib.hid (L9.out.trans lv)
 have h := arrivalV_any (some ⟨gv, 0, none⟩) 2 2 [1, 1] 2 1 100 1 V9 (Sl.of_blk' (t := 3) k0 rfl) (by decide)
 rw [pv8.1, pv8.2] at h
 refine h.mono ?_
 rintro e W10 ⟨v19, rfl, q, l⟩
 replace s1 := Lib.hid (s1.out.later l)
 replace f2 := Lib.hid (f2.out.later l)
 replace f4 := Lib.hid (f4.out.later l)
 replace f8 := Lib.hid (f8.out.later l)
 replace f13 := Lib.hid (f13.out.later l)
 replace f15 := Lib.hid (f15.out.later l)
 have L10 := Lib.hid (L9.out.trans l)
 obtain ⟨A19, c19, rfl, q8, _⟩ := q.form
 clear q q8
 clear h l L9 lv hgv k0
 go_upto_region 11 with (fail)
 obtain ⟨W11, hW11⟩ : ∃ z, z = W10 := ⟨_, rfl⟩
 have L11 : Hid (Lat w W11) := by rw [hW11]; exact L10.out
 have HE2 : Hid (∀ w, Lat W11 w → ∀ (g2 : Nat) (b2 : Blk w g2 3 #[.int .i64 4, .int .i64 4, .int .i64 2]), Calls Tryz.prog 21 #[.slice A2 3 c2, .slice (some ⟨g2, 0, none⟩) 3 3] w (fun e w' => e = .returned (.bool true) ∧ Lat w w')) := fun w9 h9 g2 b2 => equal_same A2 3 c2 [4, 4, 2] (some ⟨g2, 0, none⟩) 3 3 w9 (f2.out.later (by rw [← hW11]; exact h9)) (Sl.of_blk' (t := 3) b2 rfl) (by decide) (by decide)
 have HE4 : Hid (∀ w, Lat W11 w → ∀ (g2 : Nat) (b2 : Blk w g2 3 #[.int .i64 5, .int .i64 5, .int .i64 1]), Calls Tryz.prog 21 #[.slice A4 3 c4, .slice (some ⟨g2, 0, none⟩) 3 3] w (fun e w' => e = .returned (.bool true) ∧ Lat w w')) := fun w9 h9 g2 b2 => equal_same A4 3 c4 [5, 5, 1] (some ⟨g2, 0, none⟩) 3 3 w9 (f4.out.later (by rw [← hW11]; exact h9)) (Sl.of_blk' (t := 3) b2 rfl) (by decide) (by decide)
 have HE8 : Hid (∀ w, Lat W11 w → ∀ (g2 : Nat) (b2 : Blk w g2 56 #[.int .i64 11, .int .i64 2]), Calls Tryz.prog 25 #[.slice A8 1 c8, .slice (some ⟨g2, 0, none⟩) 1 1] w (fun e w' => e = .returned (.bool true) ∧ Lat w w')) := fun w9 h9 g2 b2 => equal22_same A8 1 c8 [(11, 2)] (some ⟨g2, 0, none⟩) 1 w9 (f8.out.later (by rw [← hW11]; exact h9)) (rowM_one b2) (by decide)
 have HE13 : Hid (∀ w, Lat W11 w → ∀ (g2 : Nat) (b2 : Blk w g2 56 #[.int .i64 0, .int .i64 1]), Calls Tryz.prog 25 #[.slice A13 1 c13, .slice (some ⟨g2, 0, none⟩) 1 1] w (fun e w' => e = .returned (.bool true) ∧ Lat w w')) := fun w9 h9 g2 b2 => equal22_same A13 1 c13 [(0, 1)] (some ⟨g2, 0, none⟩) 1 w9 (f13.out.later (by rw [← hW11]; exact h9)) (rowM_one b2) (by decide)
 have HE15 : Hid (∀ w, Lat W11 w → ∀ (g2 : Nat) (b2 : Blk w g2 3 #[.int .i64 0, .int .i64 1]), Calls Tryz.prog 21 #[.slice A15 2 c15, .slice (some ⟨g2, 0, none⟩) 2 2] w (fun e w' => e = .returned (.bool true) ∧ Lat w w')) := fun w9 h9 g2 b2 => equal_same A15 2 c15 [0, 1] (some ⟨g2, 0, none⟩) 2 2 w9 (f15.out.later (by rw [← hW11]; exact h9)) (Sl.of_blk' (t := 3) b2 rfl) (by decide) (by decide)
 rw [← hW11]
 clear hW11 s1 f2 f4 f8 f13 f15 L10
 go_upto_region 11 with (fail)
 rename_i KN hKN
 refine wp_region_slotsN (pw11_rows A2 c2 A4 c4 A8 c8 A13 c13 A15 c15 A17 c17) (pw11_base A2 c2 A4 c4 A8 c8 A13 c13 A15 c15 A17 c17) 143 75 [[], [], [0, 1], [2, 2], [3], [4, 3], [3, 5], [6, 3], [7], [7], [8, 9, 7, 7], [7, 10], [11, 10], [12], [13, 12], [12, 14], [15, 12], [16], [17, 16], [16, 18], [19, 16], [20], [20], [22, 20], [21, 23, 20, 20], [20, 24], [25, 24], [26], [27, 26], [26, 28], [29, 26], [30], [31, 30], [30, 32], [33, 30], [34], [35, 34], [34, 36], [37, 34], [38], [39, 38], [38, 40], [41, 38], [42], [42], [44, 42], [43, 45, 42, 42], [42, 46], [47, 46], [48], [49, 48], [48, 50], [51, 48], [52], [52], [53, 54, 52, 52], [52, 55], [56, 55], [57], [58, 57], [57, 59], [60, 57], [61], [62, 61], [63, 61], [61, 64], [65, 61], [66], [67, 66], [66, 68], [69, 66], [70], [71, 70], [70, 72], [73, 70, 0, 1, 2, 3, 4, 5, 6, 7, 8, 9, 10, 11, 12, 13, 14, 15, 16, 17, 18, 19, 20, 21, 22, 23, 24, 25, 26, 27, 28, 29, 30, 31, 32, 33, 34, 35, 36, 37, 38, 39, 40, 41, 42, 43, 44, 45, 46, 47, 48, 49, 50, 51, 52, 53, 54, 55, 56, 57, 58, 59, 60, 61, 62, 63, 64, 65, 66, 67, 68, 69, 70, 71, 72, 73]] (by kernel_rfl) (by kernel_rfl) (by kernel_rfl) (by kernel_rfl) (by kernel_rfl) (by kernel_rfl) (by rfl) rfl (base_of (by repeat (first | exact base_nil _ | refine base_consL rfl ?_))) (pw11_steps W11 A2 c2 A4 c4 A8 c8 A13 c13 A15 c15 A17 c17 HE2.out HE4.out HE8.out HE13.out HE15.out) ?_
 ·intro a9 W9 hsz9 hdf9 hL9 hbs hsl
  obtain ⟨v9, h9, q9⟩ := hsl 74 _ _ rfl rfl
  obtain rfl : v9 = .bool true := q9
  have w0 := slot_getD h9
  clear h9
  refine hKN _ _ ?_
  obtain ⟨T9, df9⟩ := a9
  obtain rfl : df9 = [] := hdf9
  obtain ⟨f, hf, rfl⟩ := spell143 T9 hsz9
  have x2 := (hf 2).trans (slot_getD (hbs 2 _ rfl))
  have x3 := (hf 3).trans (slot_getD (hbs 3 _ rfl))
  have x4 := (hf 4).trans (slot_getD (hbs 4 _ rfl))
  have x5 := (hf 5).trans (slot_getD (hbs 5 _ rfl))
  have x7 := (hf 7).trans (slot_getD (hbs 7 _ rfl))
  have x8 := (hf 8).trans (slot_getD (hbs 8 _ rfl))
  have x9 := (hf 9).trans (slot_getD (hbs 9 _ rfl))
  have x10 := (hf 10).trans (slot_getD (hbs 10 _ rfl))
  have x11 := (hf 11).trans (slot_getD (hbs 11 _ rfl))
  have x12 := (hf 12).trans (slot_getD (hbs 12 _ rfl))
  have x13 := (hf 13).trans (slot_getD (hbs 13 _ rfl))
  have x14 := (hf 14).trans (slot_getD (hbs 14 _ rfl))
  have x15 := (hf 15).trans (slot_getD (hbs 15 _ rfl))
  have x16 := (hf 16).trans (slot_getD (hbs 16 _ rfl))
  have x17 := (hf 17).trans (slot_getD (hbs 17 _ rfl))
  have x18 := (hf 18).trans (slot_getD (hbs 18 _ rfl))
  have x20 := (hf 20).trans (slot_getD (hbs 20 _ rfl))
  have x0 := (hf 0).trans w0
  clear hbs hsl hf hsz9 hKN w0
  simp only [x2, x3, x4, x5, x7, x8, x9, x10, x11, x12, x13, x14, x15, x16, x17, x18, x20, x0]
  clear x2 x3 x4 x5 x7 x8 x9 x10 x11 x12 x13 x14 x15 x16 x17 x18 x20 x0
  go_wp2
  go_ret
  exact ⟨rfl, L11.out.trans hL9⟩
end Go.Proofs.YteocdndanehpnaaGreat
namespace Go.Proofs.YteocdndanehpnaaGreat
open Go.RowKit
set_option linter.unusedSimpArgs false
set_option linter.unusedVariables false
theorem methods10_any (w : World) : Calls Tryz.prog 17 #[] w (fun e w' => e = .returned (.agg #[.int .i64 1, .int .i64 2, .int .i64 3, .int .i64 4, .int .i64 11, .int .i64 12, .int .i64 13, .int .i64 14, .int .i64 15]) ∧ Lat w w') := by
 go_enter Tryz.func17, Tryz.ntmps17
 go_upto_region 1 with (fail)
 refine name1 (Q := fun W => Code.wp _ _ _ _ W) ?_
 intro W hl hs k1
 have c1_0 := k1.cell 0
 have c1_1 := k1.cell 1
 have c1_2 := k1.cell 2
 have c1_3 := k1.cell 3
 have c1_4 := k1.cell 4
 have c1_5 := k1.cell 5
 have c1_6 := k1.cell 6
 have c1_7 := k1.cell 7
 have c1_8 := k1.cell 8
 have f1_0 := k1.frozen 0
 have f1_1 := k1.frozen 1
 have f1_2 := k1.frozen 2
 have f1_3 := k1.frozen 3
 have f1_4 := k1.frozen 4
 have f1_5 := k1.frozen 5
 have f1_6 := k1.frozen 6
 have f1_7 := k1.frozen 7
 have f1_8 := k1.frozen 8
 go_wp2
 refine bodyPost_ret (v := .agg #[.int .i64 1, .int .i64 2, .int .i64 3, .int .i64 4, .int .i64 11, .int .i64 12, .int .i64 13, .int .i64 14, .int .i64 15]) (by simp [results, Tryz.results17, go_sem, c1_0, c1_1, c1_2, c1_3, c1_4, c1_5, c1_6, c1_7, c1_8]) rfl ?_
 refine ⟨rfl, ?_⟩
 iterate 9 (refine Lat.setCell ?_ (Nat.le_refl _) _)
 exact hl
theorem idx9 {k : Int} (h0 : 0 ≤ k) (h1 : k ≤ 8) : ∃ m : Int, famB m = true ∧ ∀ w, (Instr.index 44 (.agg #[.int .i64 1, .int .i64 2, .int .i64 3, .int .i64 4, .int .i64 11, .int .i64 12, .int .i64 13, .int .i64 14, .int .i64 15]) (.int .u8 k)).run Tryz.prog w = .ok (.int .i64 m) w := by
 have hk : k = 0 ∨ k = 1 ∨ k = 2 ∨ k = 3 ∨ k = 4 ∨ k = 5 ∨ k = 6 ∨ k = 7 ∨ k = 8 := by omega
 rcases hk with rfl | rfl | rfl | rfl | rfl | rfl | rfl | rfl | rfl
 ·exact ⟨1, by decide, fun w => by unfold Instr.index; go_simp⟩
 ·exact ⟨2, by decide, fun w => by unfold Instr.index; go_simp⟩
 ·exact ⟨3, by decide, fun w => by unfold Instr.index; go_simp⟩
 ·exact ⟨4, by decide, fun w => by unfold Instr.index; go_simp⟩
 ·exact ⟨11, by decide, fun w => by unfold Instr.index; go_simp⟩
 ·exact ⟨12, by decide, fun w => by unfold Instr.index; go_simp⟩
 ·exact ⟨13, by decide, fun w => by unfold Instr.index; go_simp⟩
 ·exact ⟨14, by decide, fun w => by unfold Instr.index; go_simp⟩
 ·exact ⟨15, by decide, fun w => by unfold Instr.index; go_simp⟩
end Go.Proofs.YteocdndanehpnaaGreat
