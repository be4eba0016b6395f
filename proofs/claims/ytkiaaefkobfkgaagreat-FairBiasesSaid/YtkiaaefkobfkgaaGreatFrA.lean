/- Fair: within, product. -/
import Derived.Test.YtkiaaefkobfkgaaGreatJ32
namespace Go.Proofs.YtkiaaefkobfkgaaGreat
open Go.RowKit
set_option linter.unusedSimpArgs false

theorem fWithin1_any (lo hi n : Int) (p q : Addr) (w : World) (hl : w.cell? p = some (.int .i64 lo)) (hh : w.cell? q = some (.int .i64 hi)) :
    Calls Tryz.prog 133 #[.int .i64 n, .pointer (some p), .pointer (some q)] w (fun e w' => e = .returned (.bool (outB lo hi n)) ∧ w = w') := by
  by_cases h1 : n < lo
  · have HO := Lib.hid (outB_lo (hi := hi) h1)
    go_enter Tryz.func133, Tryz.ntmps133
    go_wp2
    go_ret
    exact ⟨by rw [HO.out]; rfl, rfl⟩
  · by_cases h2 : hi < n
    · have HO := Lib.hid (outB_hi (lo := lo) h2)
      have h1' : lo ≤ n := by omega
      clear h1
      go_enter Tryz.func133, Tryz.ntmps133
      go_wp2
      go_ret
      exact ⟨by rw [HO.out]; rfl, rfl⟩
    · have h1' : lo ≤ n := by omega
      have h2' : n ≤ hi := by omega
      clear h1 h2
      go_enter Tryz.func133, Tryz.ntmps133
      go_wp2
      go_ret
      exact ⟨rfl, rfl⟩
/-- slices.IndexFunc, where the function is Within. -/
def FIdxWithin (w : World) (xs : List Int) (lo hi : Int) (e : Ending) (w' : World) : Prop := ∃ r : Int, e = .returned (.int .i64 r) ∧ (xs.any (outB lo hi) = true → 0 ≤ r) ∧ (xs.any (outB lo hi) = false → r < 0) ∧ w = w'
set_option maxHeartbeats 1000000 in
theorem fIdxWithin (lo hi : Int) (p q : Addr) (A : Option Addr) (n c : Nat) (xs : List Int) (w : World) (hs : Sl w .i64 A n xs) (hn : n ≤ 17000000000000) (hl : w.cell? p = some (.int .i64 lo)) (hh : w.cell? q = some (.int .i64 hi)) :
    Calls Tryz.prog 136 #[.slice A n c, .func (.func 133) #[] #[.pointer (some p), .pointer (some q)]] w (FIdxWithin w xs lo hi) := by
  go_enter Tryz.func136, Tryz.ntmps136
  go_wp2
  go_loop [8] (fun i => ∃ k : Nat, k ≤ n ∧ i = .int .i64 k ∧ Hid ((xs.take k).any (outB lo hi) = false)) (fun i => n - (intOf i).toNat)
  case atStart => exact ⟨0, Nat.zero_le _, rfl, rfl⟩
  case round =>
    obtain ⟨k, hk, rfl, hno⟩ := hrel
    by_cases hlt : k < n
    · obtain ⟨a, x, rfl, ha, hxk, hcell⟩ := hs.at hlt
      have HX := Lib.hid hxk
      have HT : Hid ((xs.take (k + 1)).any (outB lo hi) = (outB lo hi) x) := by
        obtain ⟨hl, rfl⟩ := List.getElem?_eq_some_iff.1 hxk
        show _ = _
        rw [List.take_succ_eq_append_getElem hl, List.any_append, hno.out]; simp
      have HM := Lib.hid (List.mem_of_getElem? hxk)
      clear hxk
      by_cases hp : (outB lo hi) x = true
      · have HA : Hid (xs.any (outB lo hi) = true) := by show _ = _; rw [List.any_eq_true]; exact ⟨x, HM.out, hp⟩
        have HP := Lib.hid hp
        clear hp
        go_wp2_with fail
        refine (fWithin1_any lo hi x p q _ hl hh).mono ?_
        rintro e w1 ⟨rfl, rfl⟩
        rw [HP.out]
        go_wp2
        go_ret
        exact ⟨k, rfl, (fun _ => by omega), (fun h => by rw [HA.out] at h; cases h), rfl⟩
      · have hp' : (outB lo hi) x = false := by simpa using hp
        have HP := Lib.hid hp'
        clear hp hp'
        go_wp2_with fail
        refine (fWithin1_any lo hi x p q _ hl hh).mono ?_
        rintro e w1 ⟨rfl, rfl⟩
        rw [HP.out]
        go_wp2
        go_round
        case rel => exact ⟨k + 1, by omega, by go_num, by rw [HT.out, HP.out]; rfl⟩
        case measure => simp [intOf]; omega
    · obtain rfl : k = n := by omega
      have HA : Hid (xs.any (outB lo hi) = false) := by
        have := hno.out
        rw [List.take_of_length_le (by have := hs.1; omega)] at this
        exact this
      go_wp2
      go_ret
      exact ⟨-1, rfl, (fun h => by rw [HA.out] at h; cases h), (fun _ => by omega), rfl⟩
theorem fHasWithin (lo hi : Int) (p q : Addr) (A : Option Addr) (n c : Nat) (xs : List Int) (w : World) (hs : Sl w .i64 A n xs) (hn : n ≤ 17000000000000) (hl : w.cell? p = some (.int .i64 lo)) (hh : w.cell? q = some (.int .i64 hi)) :
    Calls Tryz.prog 90 #[.slice A n c, .func (.func 133) #[] #[.pointer (some p), .pointer (some q)]] w (fun e w' => e = .returned (.bool (xs.any (outB lo hi))) ∧ w = w') := by
  have HI := fIdxWithin lo hi p q A n c xs w hs hn hl hh
  go_enter Tryz.func90, Tryz.ntmps90
  go_wp2_with fail
  refine HI.mono ?_
  rintro e w1 ⟨r, rfl, h1, h2, rfl⟩
  cases hb : xs.any (outB lo hi) with
  | true =>
    have h0 := h1 hb
    have HB := Lib.hid hb
    clear h1 h2 hb
    go_wp2
    go_ret
    exact ⟨by rw [HB.out]; rfl, rfl⟩
  | false =>
    have h0 := h2 hb
    have h0' : decide (0 ≤ r) = false := by simp; omega
    have HB := Lib.hid hb
    clear h1 h2 hb
    go_wp2
    go_ret
    exact ⟨by rw [HB.out]; rfl, rfl⟩

theorem fWithin_any (lo hi : Int) (A : Option Addr) (n c : Nat) (xs : List Int) (w : World) (hs : Sl w .i64 A n xs) (hn : n ≤ 17000000000000) :
    Calls Tryz.prog 79 #[.int .i64 lo, .int .i64 hi, .slice A n c] w (fun e w' => e = .returned (.bool (inAll lo hi xs)) ∧ Lat w w') := by
  have hu : Hid (∀ b : Bool, (xs.any (outB lo hi)) = b → inAll lo hi xs = !b) := fun b h => by rw [inAll, h]
  go_enter Tryz.func79, Tryz.ntmps79
  go_wp2_with fail
  refine name2 (Q := fun W => Calls _ _ _ W _) ?_
  intro W hl hs2 k1 k2
  refine (fHasWithin lo hi ⟨w.heap.size, 0, none⟩ ⟨w.heap.size + 1, 0, none⟩ A n c xs W (hs.later hl) hn (k1.cell 0) (k2.cell 0)).mono ?_
  rintro e w1 ⟨rfl, rfl⟩
  cases hb : xs.any (outB lo hi) with
  | true =>
    have HU := Lib.hid (hu.out _ hb)
    clear hb
    go_wp2
    go_ret
    exact ⟨by rw [HU.out]; rfl, hl⟩
  | false =>
    have HU := Lib.hid (hu.out _ hb)
    clear hb
    go_wp2
    go_ret
    exact ⟨by rw [HU.out]; rfl, hl⟩

/-- A product of none, one, two numbers. -/
def prodT (a b : Int) (k : Nat) : Int := if k = 0 then 1 else if k = 1 then a else a * b
set_option maxHeartbeats 1000000 in
theorem fProduct_any (a b : Int) (g c : Nat) (t : TypeId) (w : World) (hb : Blk w g t #[.int .i64 a, .int .i64 b]) (h0 : -9223372036854775808 ≤ a) (h1 : a ≤ 9223372036854775807) (h2 : -9223372036854775808 ≤ a * b) (h3 : a * b ≤ 9223372036854775807) :
    Calls Tryz.prog 72 #[.slice (some ⟨g, 0, none⟩) 2 c] w (fun e w' => e = .returned (.int .i64 (a * b)) ∧ w = w') := by
  have c0 := hb.cell 0
  have c1 := hb.cell 1
  have w1 : wrap64 (1 * a) = a := by rw [Int.one_mul]; exact IntWalk.wrap64_in _ (by omega)
  have w2 : wrap64 (a * b) = a * b := IntWalk.wrap64_in _ (by omega)
  have w0 : wrap64 a = a := IntWalk.wrap64_in _ (by omega)
  have w1' : IntKind.i64.wrap (1 * a) = a := by rw [Int.one_mul]; exact IntWalk.i64_in _ (by omega)
  have w2' : IntKind.i64.wrap (a * b) = a * b := IntWalk.i64_in _ (by omega)
  clear h0 h1 h2 h3 hb
  go_enter Tryz.func72, Tryz.ntmps72
  go_wp2
  go_loop [3, 8] (fun n i => ∃ k : Nat, k ≤ 2 ∧ i = .int .i64 k ∧ n = .int .i64 (prodT a b k)) (fun _ i => 2 - (intOf i).toNat)
  case atStart => exact ⟨0, by omega, rfl, rfl⟩
  case round =>
    obtain ⟨k, hk, rfl, rfl⟩ := hrel
    have hk3 : k = 0 ∨ k = 1 ∨ k = 2 := by omega
    clear hk
    rcases hk3 with rfl | rfl | rfl
    · simp only [prodT, if_true]
      go_wp2
      go_round
      case rel => exact ⟨1, by omega, rfl, by simp [prodT, w0]⟩
      case measure => simp [intOf]
    · simp only [prodT, show ¬ (1 : Nat) = 0 by decide, if_false, if_true]
      go_wp2
      go_round
      case rel => exact ⟨2, by omega, rfl, by simp [prodT, w2]⟩
      case measure => simp [intOf]
    · simp only [prodT, show ¬ (2 : Nat) = 0 by decide, show ¬ (2 : Nat) = 1 by decide, if_false]
      go_wp2
      go_ret
      exact ⟨rfl, rfl⟩
end Go.Proofs.YtkiaaefkobfkgaaGreat
