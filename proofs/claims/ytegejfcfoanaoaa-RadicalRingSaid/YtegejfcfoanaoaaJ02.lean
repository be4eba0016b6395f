/- Several texts in one: WordsA. -/
import Derived.Test.YtegejfcfoanaoaaProg
import Derived.Test.YtegejfcfoanaoaaJ01

/- The packages' functions on words: sums. -/
namespace Go.Proofs.Ytegejfcfoanaoaa
open Go.RowKit

theorem infoU64 : (Try.prog.info? 41).map (fun i => (i.zero, i.size, i.bytes)) = some (some (.int .u64 0), 1, 8) := by kernel_rfl

theorem run_Add64 (x y c : Int) (hx : 0 ≤ x) (hy : 0 ≤ y) (hc0 : 0 ≤ c) (hc : c ≤ 1) (w : World) :
    (callFunc 48 #[.int .u64 x, .int .u64 y, .int .u64 c]).run Try.prog w = .ok (.value (.tuple #[.int .u64 (addS x y c), .int .u64 (addC x y c)])) w := by
  rw [run_callFunc_extern Try.func48 (by kernel_rfl) (by kernel_rfl) (by kernel_rfl) (e := add64Entry) (by kernel_rfl), run_add64 x y c hx hy hc0 hc]
  rfl

/-- After k words: the words so far, and the carry. -/
def AddInv (xs ys : List Int) (n k : Nat) (c : Int) (os : List Int) : Prop :=
  (0 ≤ c ∧ c ≤ 1) ∧ os.length = n + 1 ∧ InR W64 os ∧ val W64 (os.take k) + W64 ^ k * c = val W64 (xs.take k) + val W64 (ys.take k)
theorem AddInv.start (xs ys : List Int) (n : Nat) : AddInv xs ys n 0 0 (List.replicate (n + 1) 0) :=
  ⟨by omega, by simp, InR.zeros W64_pos _, by simp [val]⟩
theorem AddInv.step {xs ys : List Int} {n k : Nat} {c x y : Int} {os : List Int} (h : AddInv xs ys n k c os) (hk : k < n) (hx : xs.getD k 0 = x) (hy : ys.getD k 0 = y)
    (rx : 0 ≤ x ∧ x < W64) (ry : 0 ≤ y ∧ y < W64) : AddInv xs ys n (k + 1) (addC x y c) (os.set k (addS x y c)) := by
  obtain ⟨hc, hl, hr, he⟩ := h
  obtain ⟨e, r1, r2⟩ := add_facts rx ry hc
  refine ⟨r2, by simpa using hl, hr.set k r1, ?_⟩
  have e1 : (os.set k (addS x y c)).take k = os.take k := by rw [List.take_set_of_le (Nat.le_refl _)]
  have e2 : (os.set k (addS x y c)).getD k 0 = addS x y c := by simp [List.getD_eq_getElem?_getD, hl, show k < n + 1 by omega]
  rw [val_take_succ, val_take_succ, val_take_succ, e1, e2, hx, hy, pw_succ]
  have : addS x y c = x + y + c - W64 * addC x y c := by omega
  rw [this]
  grind
theorem AddInv.done {xs ys : List Int} {n : Nat} {c : Int} {os : List Int} (h : AddInv xs ys n n c os) (hx : xs.length = n) (hy : ys.length ≤ n) :
    InR W64 (os.set n c) ∧ (os.set n c).length = n + 1 ∧ val W64 (os.set n c) = val W64 xs + val W64 ys := by
  obtain ⟨hc, hl, hr, he⟩ := h
  have : W64 = 18446744073709551616 := rfl
  refine ⟨hr.set n (by omega), by simpa using hl, ?_⟩
  have e0 : os.set n c = os.take n ++ [c] := by
    rw [List.set_eq_take_append_cons_drop, if_pos (by omega), List.drop_of_length_le (by omega)]
  rw [e0, val_snoc, List.length_take, Nat.min_eq_left (by omega), he, List.take_of_length_le (by omega), List.take_of_length_le hy]

set_option maxHeartbeats 400000 in
theorem added_long (A1 : Option Addr) (n1 c1 : Nat) (xs : List Int) (A2 : Option Addr) (n2 c2 : Nat) (ys : List Int) (w : World) (h1 : Sl w .u64 A1 n1 xs) (h2 : Sl w .u64 A2 n2 ys) (hx : InR W64 xs) (hy : InR W64 ys)
    (hle : n2 ≤ n1) (hn : n1 ≤ 1000000) :
    Calls Try.prog 32 #[.slice A1 n1 c1, .slice A2 n2 c2] w (WordsPost w (val W64 xs + val W64 ys) (n1 + 1)) := by
  have hmk := run_make_nums (P := Try.prog) Try.underlying55 infoU64 ((n1 : Int) + 1) (n1 + 1) (by omega) (by omega) (by omega)
  go_enter Try.func32, Try.ntmps32
  go_wp2
  clear hmk
  refine name1 (Q := fun W => Code.wp _ _ _ _ W) ?_
  intro W hl hs hb
  go_loopw [6, 23] (fun cy i wr => ∃ (k : Nat) (c : Int) (os : List Int), k ≤ n1 ∧ i = .int .i64 k ∧ cy = .int .u64 c ∧ AddInv xs ys n1 k c os ∧ Lat w wr ∧ Blk wr w.heap.size 41 (nums .u64 os)) (fun _ i _ => n1 - (intOf i).toNat)
  case atStart => exact ⟨0, 0, _, Nat.zero_le _, rfl, rfl, AddInv.start xs ys n1, hl, hb⟩
  case round =>
    obtain ⟨k, c, os, hk, rfl, rfl, hinv, hlr, hbr⟩ := hrel
    have hc0 := hinv.1.1
    have hc1 := hinv.1.2
    have hlen := hinv.2.1
    by_cases hlt : k < n1
    · obtain ⟨a, x, rfl, ha, hxk, hcell⟩ := (h1.later hlr).at hlt
      obtain ⟨o, _, ho, hfo⟩ := hbr.slot (i := k) (by omega)
      have hrx := hx.at hxk
      have hgx : Hid (xs.getD k 0 = x) := by rw [List.getD_eq_getElem?_getD, hxk]; rfl
      clear hxk
      have HL := Lib.hid hlen
      clear hlen
      by_cases hlt2 : k < n2
      · obtain ⟨a', y, rfl, ha', hyk, hcell2⟩ := (h2.later hlr).at hlt2
        have hry := hy.at hyk
        have hgy : Hid (ys.getD k 0 = y) := by rw [List.getD_eq_getElem?_getD, hyk]; rfl
        clear hyk
        have hadd := run_Add64 x y c hrx.1 hry.1 hc0 hc1
        go_wp2
        go_roundw
        case rel => exact ⟨k + 1, _, _, by omega, by go_num, rfl, hinv.step hlt hgx.out hgy.out hrx hry, hlr.setCell (Nat.le_refl _) _, hbr.put k _⟩
        case measure => simp [intOf]; omega
      · have hy0 : Hid (ys.getD k 0 = 0) := by rw [List.getD_eq_getElem?_getD, List.getElem?_eq_none (by have := h2.1; omega)]; rfl
        have hadd := run_Add64 x 0 c hrx.1 (by omega) hc0 hc1
        go_wp2
        go_roundw
        case rel => exact ⟨k + 1, _, _, by omega, by go_num, rfl, hinv.step hlt hgx.out hy0.out hrx ⟨Int.le_refl _, W64_pos⟩, hlr.setCell (Nat.le_refl _) _, hbr.put k _⟩
        case measure => simp [intOf]; omega
    · obtain rfl : k = n1 := by omega
      obtain ⟨o, _, ho, hfo⟩ := hbr.slot (i := k) (by omega)
      obtain ⟨r1, r2, r3⟩ := hinv.done h1.1 (by have := h2.1; omega)
      have R2 := Lib.hid r2
      have R3 := Lib.hid r3
      have HL := Lib.hid hlen
      clear r2 r3 hlen
      go_wp2
      go_ret
      exact ⟨_, _, _, _, rfl, Sl.of_blk' (hbr.put k c) R2.out, r1, R3.out, Nat.le_refl _, Nat.le_refl _, hlr.setCell (Nat.le_refl _) _, fun _ e => by cases e; exact Nat.le_refl _⟩

set_option maxHeartbeats 400000 in
theorem added_short (A1 : Option Addr) (n1 c1 : Nat) (xs : List Int) (A2 : Option Addr) (n2 c2 : Nat) (ys : List Int) (w : World) (h1 : Sl w .u64 A1 n1 xs) (h2 : Sl w .u64 A2 n2 ys) (hx : InR W64 xs) (hy : InR W64 ys)
    (hle : n1 < n2) (hn : n2 ≤ 1000000) :
    Calls Try.prog 32 #[.slice A1 n1 c1, .slice A2 n2 c2] w (WordsPost w (val W64 xs + val W64 ys) (n2 + 1)) := by
  have hmk := run_make_nums (P := Try.prog) Try.underlying55 infoU64 ((n2 : Int) + 1) (n2 + 1) (by omega) (by omega) (by omega)
  go_enter Try.func32, Try.ntmps32
  go_wp2
  clear hmk
  refine name1 (Q := fun W => Code.wp _ _ _ _ W) ?_
  intro W hl hs hb
  go_loopw [6, 23] (fun cy i wr => ∃ (k : Nat) (c : Int) (os : List Int), k ≤ n2 ∧ i = .int .i64 k ∧ cy = .int .u64 c ∧ AddInv ys xs n2 k c os ∧ Lat w wr ∧ Blk wr w.heap.size 41 (nums .u64 os)) (fun _ i _ => n2 - (intOf i).toNat)
  case atStart => exact ⟨0, 0, _, Nat.zero_le _, rfl, rfl, AddInv.start ys xs n2, hl, hb⟩
  case round =>
    obtain ⟨k, c, os, hk, rfl, rfl, hinv, hlr, hbr⟩ := hrel
    have hc0 := hinv.1.1
    have hc1 := hinv.1.2
    have hlen := hinv.2.1
    by_cases hlt : k < n2
    · obtain ⟨a, x, rfl, ha, hxk, hcell⟩ := (h2.later hlr).at hlt
      obtain ⟨o, _, ho, hfo⟩ := hbr.slot (i := k) (by omega)
      have hrx := hy.at hxk
      have hgx : Hid (ys.getD k 0 = x) := by rw [List.getD_eq_getElem?_getD, hxk]; rfl
      clear hxk
      have HL := Lib.hid hlen
      clear hlen
      by_cases hlt2 : k < n1
      · obtain ⟨a', y, rfl, ha', hyk, hcell2⟩ := (h1.later hlr).at hlt2
        have hry := hx.at hyk
        have hgy : Hid (xs.getD k 0 = y) := by rw [List.getD_eq_getElem?_getD, hyk]; rfl
        clear hyk
        have hadd := run_Add64 x y c hrx.1 hry.1 hc0 hc1
        go_wp2
        go_roundw
        case rel => exact ⟨k + 1, _, _, by omega, by go_num, rfl, hinv.step hlt hgx.out hgy.out hrx hry, hlr.setCell (Nat.le_refl _) _, hbr.put k _⟩
        case measure => simp [intOf]; omega
      · have hy0 : Hid (xs.getD k 0 = 0) := by rw [List.getD_eq_getElem?_getD, List.getElem?_eq_none (by have := h1.1; omega)]; rfl
        have hadd := run_Add64 x 0 c hrx.1 (by omega) hc0 hc1
        go_wp2
        go_roundw
        case rel => exact ⟨k + 1, _, _, by omega, by go_num, rfl, hinv.step hlt hgx.out hy0.out hrx ⟨Int.le_refl _, W64_pos⟩, hlr.setCell (Nat.le_refl _) _, hbr.put k _⟩
        case measure => simp [intOf]; omega
    · obtain rfl : k = n2 := by omega
      obtain ⟨o, _, ho, hfo⟩ := hbr.slot (i := k) (by omega)
      obtain ⟨r1, r2, r3⟩ := hinv.done h2.1 (by have := h1.1; omega)
      have R2 := Lib.hid r2
      have R3 := Lib.hid r3
      have HL := Lib.hid hlen
      clear r2 r3 hlen
      go_wp2
      go_ret
      exact ⟨_, _, _, _, rfl, Sl.of_blk' (hbr.put k c) R2.out, r1, R3.out.trans (Int.add_comm _ _), Nat.le_refl _, Nat.le_refl _, hlr.setCell (Nat.le_refl _) _, fun _ e => by cases e; exact Nat.le_refl _⟩

theorem added_any (A1 : Option Addr) (n1 c1 : Nat) (xs : List Int) (A2 : Option Addr) (n2 c2 : Nat) (ys : List Int) (w : World) (h1 : Sl w .u64 A1 n1 xs) (h2 : Sl w .u64 A2 n2 ys) (hx : InR W64 xs) (hy : InR W64 ys)
    (hn : n1 ≤ 1000000) (hm : n2 ≤ 1000000) :
    Calls Try.prog 32 #[.slice A1 n1 c1, .slice A2 n2 c2] w (WordsPost w (val W64 xs + val W64 ys) (max n1 n2 + 1)) := by
  by_cases h : n2 ≤ n1
  · exact (added_long A1 n1 c1 xs A2 n2 c2 ys w h1 h2 hx hy h hn).mono fun e w' ⟨A, n, c, zs, a1, a2, a3, a4, a5, a6, a7⟩ => ⟨A, n, c, zs, a1, a2, a3, a4, a5, by omega, a7⟩
  · exact (added_short A1 n1 c1 xs A2 n2 c2 ys w h1 h2 hx hy (by omega) hm).mono fun e w' ⟨A, n, c, zs, a1, a2, a3, a4, a5, a6, a7⟩ => ⟨A, n, c, zs, a1, a2, a3, a4, a5, by omega, a7⟩

end Go.Proofs.Ytegejfcfoanaoaa
