/- Several texts in one: RefD, RefE, RefF, RefG. -/
import Derived.Test.YtegejfcfoanaoaaJ16

/- The reference's numbers: twice, less, more. -/
namespace Go.Proofs.Ytegejfcfoanaoaa
open Go.RowKit

theorem infoI64 : (Try.prog.info? 3).map (fun i => (i.zero, i.size, i.bytes)) = some (some (.int .i64 0), 1, 8) := by kernel_rfl
theorem B32_one : 1 < B32 := by decide

end Go.Proofs.Ytegejfcfoanaoaa

/- The reference's numbers: less, more. -/
namespace Go.Proofs.Ytegejfcfoanaoaa
open Go.RowKit

set_option maxHeartbeats 2000000 in
theorem less_any (A1 : Option Addr) (n1 c1 : Nat) (xs : List Int) (A2 : Option Addr) (n2 c2 : Nat) (ys : List Int) (w : World) (h1 : Sl w .i64 A1 n1 xs) (h2 : Sl w .i64 A2 n2 ys) (hx : InR B32 xs) (hy : InR B32 ys)
    (hz2 : n2 ≤ n1) (hle : val B32 ys ≤ val B32 xs) (hn : n1 ≤ 1000000) :
    Calls Try.prog 70 #[.slice A1 n1 c1, .slice A2 n2 c2] w (DigPost w (val B32 xs - val B32 ys) n1) := by
  have HLE := Lib.hid hle
  clear hle
  go_enter Try.func70, Try.ntmps70
  go_wp2
  go_loopw [5, 6, 7] (fun v bt i wr => ∃ (k : Nat) (c : Int) (os : List Int), k ≤ n1 ∧ i = .int .i64 k ∧ bt = .int .i64 c ∧ Own wr w.heap.size 3 .i64 v os ∧ LesInv B32 xs ys k c os ∧ Lat w wr) (fun _ _ i _ => n1 - (intOf i).toNat)
  case atStart => exact ⟨0, 0, [], Nat.zero_le _, rfl, rfl, Own.nil _ _ _ _, LesInv.start B32 xs ys, Lat.refl _⟩
  case round =>
    obtain ⟨k, c, os, hk, rfl, rfl, hown, hinv, hlr⟩ := hrel
    have hc0 := hinv.1.1
    have hc1 := hinv.1.2
    have hlen := Lib.hid hinv.2.1
    have hwl := hlr.size
    by_cases hlt : k < n1
    · obtain ⟨a, x, rfl, ha, hxk, hcell⟩ := (h1.later hlr).at hlt
      have hrx := hx.at hxk
      have rx0 := hrx.1
      have rx1 : x < 4294967296 := hrx.2
      have hgx : Hid (xs.getD k 0 = x) := by rw [List.getD_eq_getElem?_getD, hxk]; rfl
      clear hxk
      have hol : os.length ≤ 1000000 := by have := hlen.out; omega
      by_cases hlt2 : k < n2
      · obtain ⟨a', y, rfl, ha', hyk, hcell2⟩ := (h2.later hlr).at hlt2
        have hry := hy.at hyk
        have ry0 := hry.1
        have ry1 : y < 4294967296 := hry.2
        have hgy : Hid (ys.getD k 0 = y) := by rw [List.getD_eq_getElem?_getD, hyk]; rfl
        clear hyk
        have hst := hinv.step hgx.out hgy.out hrx hry
        by_cases hneg : x - c - y < 0
        · have hst' : LesInv B32 xs ys (k + 1) 1 (os ++ [x - c - y + 4294967296]) := by
            unfold lesD lesC at hst; rw [if_pos hneg, if_pos hneg] at hst; exact hst
          clear hst
          go_wp2_with (at_builtin; refine wpList_push rfl _ _ 60 rfl w.heap.size 3 3 .i64 8 Try.underlying60 infoI64 (by decide) _ os [_] _ rfl wr (by rfl) hown 1 rfl (by decide) (by rfl) (by omega) hwl ?_; intro v' w1 hown1 hlat1)
          go_roundw
          case rel => exact ⟨k + 1, _, _, by omega, by go_num, rfl, hown1, hst', hlat1 w hlr (Nat.le_refl _)⟩
          case measure => simp [intOf]; omega
        · have hst' : LesInv B32 xs ys (k + 1) 0 (os ++ [x - c - y]) := by
            unfold lesD lesC at hst; rw [if_neg hneg, if_neg hneg] at hst; exact hst
          clear hst
          have hneg' : 0 ≤ x - c - y := by omega
          clear hneg
          go_wp2_with (at_builtin; refine wpList_push rfl _ _ 60 rfl w.heap.size 3 3 .i64 8 Try.underlying60 infoI64 (by decide) _ os [_] _ rfl wr (by rfl) hown 1 rfl (by decide) (by rfl) (by omega) hwl ?_; intro v' w1 hown1 hlat1)
          go_roundw
          case rel => exact ⟨k + 1, _, _, by omega, by go_num, rfl, hown1, hst', hlat1 w hlr (Nat.le_refl _)⟩
          case measure => simp [intOf]; omega
      · have hy0 : Hid (ys.getD k 0 = 0) := by rw [List.getD_eq_getElem?_getD, List.getElem?_eq_none (by have := h2.1; omega)]; rfl
        have hst := hinv.step hgx.out hy0.out hrx ⟨Int.le_refl _, B32_pos⟩
        rw [Int.sub_zero] at hst
        by_cases hneg : x - c < 0
        · have hst' : LesInv B32 xs ys (k + 1) 1 (os ++ [x - c + 4294967296]) := by
            unfold lesD lesC at hst; rw [if_pos hneg, if_pos hneg] at hst; exact hst
          clear hst
          go_wp2_with (at_builtin; refine wpList_push rfl _ _ 60 rfl w.heap.size 3 3 .i64 8 Try.underlying60 infoI64 (by decide) _ os [_] _ rfl wr (by rfl) hown 1 rfl (by decide) (by rfl) (by omega) hwl ?_; intro v' w1 hown1 hlat1)
          go_roundw
          case rel => exact ⟨k + 1, _, _, by omega, by go_num, rfl, hown1, hst', hlat1 w hlr (Nat.le_refl _)⟩
          case measure => simp [intOf]; omega
        · have hst' : LesInv B32 xs ys (k + 1) 0 (os ++ [x - c]) := by
            unfold lesD lesC at hst; rw [if_neg hneg, if_neg hneg] at hst; exact hst
          clear hst
          have hneg' : 0 ≤ x - c := by omega
          clear hneg
          go_wp2_with (at_builtin; refine wpList_push rfl _ _ 60 rfl w.heap.size 3 3 .i64 8 Try.underlying60 infoI64 (by decide) _ os [_] _ rfl wr (by rfl) hown 1 rfl (by decide) (by rfl) (by omega) hwl ?_; intro v' w1 hown1 hlat1)
          go_roundw
          case rel => exact ⟨k + 1, _, _, by omega, by go_num, rfl, hown1, hst', hlat1 w hlr (Nat.le_refl _)⟩
          case measure => simp [intOf]; omega
    · obtain rfl : k = n1 := by omega
      obtain ⟨r1, r2, r3⟩ := hinv.done B32_pos h1.1 (by have := h2.1; omega) HLE.out
      have R3 := Lib.hid r3
      have R2 := Lib.hid r2
      clear r2 r3
      obtain ⟨A3, c3, rfl, hs1, hc1', hnew⟩ := hown.form
      have hl2 : os.length ≤ 3000000 := by have := R2.out; omega
      go_wp2_with fail
      refine (cut_any A3 _ c3 _ _ hs1 hc1' hl2).mono ?_
      rintro e w2 ⟨m, rfl, q1, q2, q3, q4, q5⟩
      have Q3 := Lib.hid q3
      have Q2 := Lib.hid q2
      clear q2 q3
      go_wp2
      go_ret
      exact ⟨A3, m, c3, _, rfl, q1, r1.take m, Q2.out, Q3.out.trans R3.out, by omega, by have := R2.out; omega, hlr.trans q5, fun a e => (hnew a e).1⟩
end Go.Proofs.Ytegejfcfoanaoaa

/- The reference's numbers: more. -/
namespace Go.Proofs.Ytegejfcfoanaoaa
open Go.RowKit

/-- Digits, some of which may be 0 at the end. -/
def DigW (w : World) (z : Int) (N : Nat) (e : Ending) (w' : World) : Prop :=
  ∃ A n c xs, e = .returned (.slice A n c) ∧ Sl w' .i64 A n xs ∧ InR B32 xs ∧ val B32 xs = z ∧ n ≤ c ∧ n ≤ N ∧ Lat w w'

/-- A digit that may be lacking: what is read at k. -/
theorem Sl.digit {w : World} {A : Option Addr} {n : Nat} {xs : List Int} (h : Sl w .i64 A n xs) (hr : InR B32 xs) (k : Nat) :
    (k < n ∧ ∃ a x, A = some a ∧ Hid (xs.getD k 0 = x) ∧ 0 ≤ x ∧ x < 4294967296 ∧ w.cell? (a.add k) = some (.int .i64 x)) ∨ (n ≤ k ∧ Hid (xs.getD k 0 = 0)) := by
  rcases Nat.lt_or_ge k n with hlt | hge
  · obtain ⟨a, x, e, ha, hxk, hcell⟩ := h.at hlt
    have hrx := hr.at hxk
    exact .inl ⟨hlt, a, x, e, by show _ = _; rw [List.getD_eq_getElem?_getD, hxk]; rfl, hrx.1, hrx.2, hcell⟩
  · exact .inr ⟨hge, by show _ = _; rw [List.getD_eq_getElem?_getD, List.getElem?_eq_none (by have := h.1; omega)]; rfl⟩

set_option maxHeartbeats 4000000 in
theorem more_any (A1 : Option Addr) (n1 c1 : Nat) (xs : List Int) (A2 : Option Addr) (n2 c2 : Nat) (ys : List Int) (w : World) (h1 : Sl w .i64 A1 n1 xs) (h2 : Sl w .i64 A2 n2 ys) (hx : InR B32 xs) (hy : InR B32 ys)
    (hn : n1 ≤ 1000000) (hm : n2 ≤ 1000000) :
    Calls Try.prog 69 #[.slice A1 n1 c1, .slice A2 n2 c2] w (DigW w (val B32 xs + val B32 ys) (max n1 n2 + 1)) := by
  go_enter Try.func69, Try.ntmps69
  go_wp2
  go_loopw [5, 6, 7] (fun v bt i wr => ∃ (k : Nat) (c : Int) (os : List Int), i = .int .i64 k ∧ bt = .int .i64 c ∧ Own wr w.heap.size 3 .i64 v os ∧ MorInv B32 xs ys (max n1 n2) k c os ∧ Lat w wr) (fun _ _ i _ => max n1 n2 + 1 - (intOf i).toNat)
  case atStart => exact ⟨0, 0, [], rfl, rfl, Own.nil _ _ _ _, MorInv.start B32 xs ys _, Lat.refl _⟩
  case round =>
    obtain ⟨k, c, os, rfl, rfl, hown, hinv, hlr⟩ := hrel
    have hc0 := hinv.1.1
    have hc1 := hinv.1.2
    have hlen := Lib.hid hinv.2.1
    have hkN := hinv.2.2.2.2.1
    have hend := Lib.hid hinv.2.2.2.2.2
    have hwl := hlr.size
    have hol : os.length ≤ 1000001 := by have := hlen.out; omega
    rcases (h1.later hlr).digit hx k with ⟨hlt, a, x, rfl, hgx, rx0, rx1, hcell⟩ | ⟨hlt, hgx⟩
    · rcases (h2.later hlr).digit hy k with ⟨hlt2, a', y, rfl, hgy, ry0, ry1, hcell2⟩ | ⟨hlt2, hgy⟩
      · have hst := hinv.step B32_one (by omega) hgx.out hgy.out ⟨rx0, rx1⟩ ⟨ry0, ry1⟩ (by omega)
        go_wp2_with (at_builtin; refine wpList_push rfl _ _ 60 rfl w.heap.size 3 3 .i64 8 Try.underlying60 infoI64 (by decide) _ os [_] _ rfl wr (by rfl) hown 1 rfl (by decide) (by rfl) (by omega) hwl ?_; intro v' w1 hown1 hlat1)
        go_roundw
        case rel => exact ⟨k + 1, _, _, by go_num, rfl, hown1, hst, hlat1 w hlr (Nat.le_refl _)⟩
        case measure => simp [intOf]; omega
      · have hst := hinv.step B32_one (by omega) hgx.out hgy.out ⟨rx0, rx1⟩ ⟨Int.le_refl _, B32_pos⟩ (by omega)
        rw [Int.add_zero] at hst
        go_wp2_with (at_builtin; refine wpList_push rfl _ _ 60 rfl w.heap.size 3 3 .i64 8 Try.underlying60 infoI64 (by decide) _ os [_] _ rfl wr (by rfl) hown 1 rfl (by decide) (by rfl) (by omega) hwl ?_; intro v' w1 hown1 hlat1)
        go_roundw
        case rel => exact ⟨k + 1, _, _, by go_num, rfl, hown1, hst, hlat1 w hlr (Nat.le_refl _)⟩
        case measure => simp [intOf]; omega
    · rcases (h2.later hlr).digit hy k with ⟨hlt2, a', y, rfl, hgy, ry0, ry1, hcell2⟩ | ⟨hlt2, hgy⟩
      · have hst := hinv.step B32_one (by omega) hgx.out hgy.out ⟨Int.le_refl _, B32_pos⟩ ⟨ry0, ry1⟩ (by omega)
        rw [Int.add_zero] at hst
        go_wp2_with (at_builtin; refine wpList_push rfl _ _ 60 rfl w.heap.size 3 3 .i64 8 Try.underlying60 infoI64 (by decide) _ os [_] _ rfl wr (by rfl) hown 1 rfl (by decide) (by rfl) (by omega) hwl ?_; intro v' w1 hown1 hlat1)
        go_roundw
        case rel => exact ⟨k + 1, _, _, by go_num, rfl, hown1, hst, hlat1 w hlr (Nat.le_refl _)⟩
        case measure => simp [intOf]; omega
      · by_cases hcp : 0 < c
        · have hkle : k ≤ max n1 n2 := by
            rcases Nat.lt_or_ge (max n1 n2) k with h | h
            · have := hend.out (by omega); omega
            · exact h
          have hst := hinv.step B32_one hkle hgx.out hgy.out ⟨Int.le_refl _, B32_pos⟩ ⟨Int.le_refl _, B32_pos⟩ (fun _ => ⟨rfl, rfl⟩)
          rw [Int.add_zero, Int.add_zero] at hst
          go_wp2_with (at_builtin; refine wpList_push rfl _ _ 60 rfl w.heap.size 3 3 .i64 8 Try.underlying60 infoI64 (by decide) _ os [_] _ rfl wr (by rfl) hown 1 rfl (by decide) (by rfl) (by omega) hwl ?_; intro v' w1 hown1 hlat1)
          go_roundw
          case rel => exact ⟨k + 1, _, _, by go_num, rfl, hown1, hst, hlat1 w hlr (Nat.le_refl _)⟩
          case measure => simp [intOf]; omega
        · obtain rfl : c = 0 := by omega
          obtain ⟨r1, r2, r3, r4⟩ := hinv.done (by have := h1.1; omega) (by have := h2.1; omega)
          have R4 := Lib.hid r4
          have R2 := Lib.hid r2
          clear r2 r4
          obtain ⟨A3, c3, rfl, hs1, hc1', _⟩ := hown.form
          go_wp2
          go_ret
          exact ⟨A3, _, c3, os, rfl, hs1, r1, R4.out, hc1', by have := R2.out; omega, hlr⟩
end Go.Proofs.Ytegejfcfoanaoaa

/- The reference's numbers: product. -/
namespace Go.Proofs.Ytegejfcfoanaoaa
open Go.RowKit

theorem prd_le {x y : Int} (hx : 0 ≤ x ∧ x < 4294967296) (hy : 0 ≤ y ∧ y < 4294967296) : 0 ≤ x * y ∧ x * y ≤ 18446744065119617025 := by
  refine ⟨Int.mul_nonneg hx.1 hy.1, ?_⟩
  have h1 := Int.mul_le_mul_of_nonneg_left (show y ≤ 4294967295 by omega) hx.1
  have h2 := Int.mul_le_mul_of_nonneg_right (show x ≤ 4294967295 by omega) (show (0 : Int) ≤ 4294967295 by decide)
  omega
theorem quo_range {s : Int} (h0 : 0 ≤ s) (h1 : s ≤ 18446744073709551615) : 0 ≤ s / 4294967296 ∧ s / 4294967296 < 4294967296 := by omega

set_option maxRecDepth 100000 in
set_option maxHeartbeats 2000000 in
theorem product_any (A1 : Option Addr) (n1 c1 : Nat) (xs : List Int) (A2 : Option Addr) (n2 c2 : Nat) (ys : List Int) (w : World) (h1 : Sl w .i64 A1 n1 xs) (h2 : Sl w .i64 A2 n2 ys) (hx : InR B32 xs) (hy : InR B32 ys)
    (hn : n1 ≤ 1000000) (hm : n2 ≤ 1000000) :
    Calls Try.prog 59 #[.slice A1 n1 c1, .slice A2 n2 c2] w (DigPost w (val B32 xs * val B32 ys) (n1 + n2)) := by
  have hmk := run_make_nums (P := Try.prog) Try.underlying60 infoI64 ((n1 : Int) + n2) (n1 + n2) (by omega) (by omega) (by omega)
  go_enter Try.func59, Try.ntmps59
  go_wp2
  clear hmk
  refine name1 (Q := fun W => Code.wp _ _ _ _ W) ?_
  intro W hl hs hb
  go_loopw [6] (fun i wr => ∃ (k : Nat) (os : List Int), k ≤ n1 ∧ i = .int .i64 k ∧ PrdInv B32 xs ys n1 n2 k os ∧ Lat w wr ∧ Blk wr w.heap.size 3 (nums .i64 os)) (fun i _ => n1 - (intOf i).toNat)
  case atStart => exact ⟨0, _, Nat.zero_le _, rfl, PrdInv.start B32_pos xs ys n1 n2, hl, hb⟩
  case round =>
    obtain ⟨k, os, hk, rfl, hinv, hlr, hbr⟩ := hrel
    clear hl hb hs
    by_cases hlt : k < n1
    · obtain ⟨a, x, rfl, ha, hxk, hcell⟩ := (h1.later hlr).at hlt
      have hrx := hx.at hxk
      have hgx : Hid (xs.getD k 0 = x) := by rw [List.getD_eq_getElem?_getD, hxk]; rfl
      clear hxk
      have hin := hinv.open_ B32_pos x
      clear hinv hcell ha
      obtain ⟨wo, rfl⟩ : ∃ wo : World, wo = wr := ⟨_, rfl⟩
      go_wp2
      go_loopw [7, 8] (fun cy j wr => ∃ (m : Nat) (c : Int) (os : List Int), m ≤ n2 ∧ j = .int .i64 m ∧ cy = .int .u64 c ∧ PrdIn B32 xs ys n1 n2 k x m c os ∧ Lat w wr ∧ Blk wr w.heap.size 3 (nums .i64 os)) (fun _ j _ => n2 - (intOf j).toNat)
      case atStart => exact ⟨0, 0, os, Nat.zero_le _, rfl, rfl, hin, hlr, hbr⟩
      case round =>
        clear hin hlr hbr os
        obtain ⟨m, c, os, hm', rfl, rfl, hin, hlr, hbr⟩ := hrel
        have hlen := Lib.hid hin.1
        have hc0 := hin.2.2.1.1
        have hc1 : c < 4294967296 := hin.2.2.1.2
        by_cases hlt2 : m < n2
        · obtain ⟨a1, x1, ea, ha, hxk, hcell⟩ := (h1.later hlr).at hlt
          cases ea
          obtain rfl : x = x1 := by have := hgx.out; rw [List.getD_eq_getElem?_getD, hxk] at this; exact this.symm
          clear hxk
          obtain ⟨a', y, rfl, ha', hyk, hcell2⟩ := (h2.later hlr).at hlt2
          have hry := hy.at hyk
          have hgy : Hid (ys.getD m 0 = y) := by rw [List.getD_eq_getElem?_getD, hyk]; rfl
          clear hyk
          obtain ⟨o, hoo, ho, hfo⟩ := hbr.slot (i := k + m) (by have := hlen.out; omega)
          have hgo : Hid (os.getD (k + m) 0 = o) := by rw [List.getD_eq_getElem?_getD, hoo]; rfl
          have hro := hin.2.1.at hoo
          clear hoo
          have hst := hin.step B32_one hlt hlt2 hrx hgy.out hry hgo.out
          have rx0 := hrx.1
          have rx1 : x < 4294967296 := hrx.2
          have ry0 := hry.1
          have ry1 : y < 4294967296 := hry.2
          have ro0 := hro.1
          have ro1 : o < 4294967296 := hro.2
          have hpl := prd_le ⟨rx0, rx1⟩ ⟨ry0, ry1⟩
          obtain ⟨p, hp⟩ : ∃ p, x * y = p := ⟨_, rfl⟩
          rw [hp] at hst hpl
          have hp0 := hpl.1
          have hp1 := hpl.2
          clear hpl hin
          have hq := quo_range (s := c + o + p) (by omega) (by omega)
          have e1 : IntKind.u64.wrap x = x := IntWalk.u64_in _ (by omega)
          have e2 : IntKind.u64.wrap y = y := IntWalk.u64_in _ (by omega)
          have e3 : IntKind.u64.wrap o = o := IntWalk.u64_in _ (by omega)
          have e4 : IntKind.u64.wrap (x * y) = p := by rw [hp]; exact IntWalk.u64_in _ (by omega)
          have e5 : IntKind.u64.wrap (c + o) = c + o := IntWalk.u64_in _ (by omega)
          have e6 : IntKind.u64.wrap (c + o + p) = c + o + p := IntWalk.u64_in _ (by omega)
          have e7 : IntKind.i64.wrap ((k : Int) + (m : Int)) = (k : Int) + (m : Int) := IntWalk.i64_in _ (by omega)
          have e8 : (0 : Int) ≤ (k : Int) + (m : Int) := by omega
          have e9 : ((k : Int) + (m : Int)).toNat = k + m := by omega
          have e10 : (k : Int) + (m : Int) < (n1 : Int) + (n2 : Int) := by omega
          clear hp hrx hry hro
          go_wp2
          go_quiet (fail)
          clear e1 e2 e3 e4 e5 e6 e7 e8 e9
          have hb2 := hbr.later (Lat.drewN wr nq)
          go_wp2
          go_roundw
          case rel => exact ⟨m + 1, _, _, by omega, by go_num, rfl, hst, (hlr.trans (Lat.drewN wr nq)).setCell (Nat.le_refl _) _, hb2.put (k + m) _⟩
          case measure => simp [intOf]; omega
        · obtain rfl : m = n2 := by omega
          obtain ⟨o, _, ho, hfo⟩ := hbr.slot (i := k + m) (by have := hlen.out; omega)
          have hcl := hin.close hlt h2.1 hgx.out
          clear hin
          go_wp2
          go_roundw
          case rel => exact ⟨k + 1, _, by omega, by go_num, hcl, hlr.setCell (Nat.le_refl _) _, hbr.put (k + m) _⟩
          case measure => simp [intOf]; omega
    · obtain rfl : k = n1 := by omega
      obtain ⟨r1, r2, r3, _⟩ := hinv
      rw [List.take_of_length_le (by have := h1.1; omega)] at r3
      have R1 := Lib.hid r1
      have R3 := Lib.hid r3
      clear r1 r3
      go_wp2_with fail
      refine (cut_any _ _ _ _ _ (Sl.of_blk' hbr R1.out) (Nat.le_refl _) (by omega)).mono ?_
      rintro e w2 ⟨m, rfl, q1, q2, q3, q4, q5⟩
      have Q3 := Lib.hid q3
      have Q2 := Lib.hid q2
      clear q2 q3
      go_wp2
      go_ret
      exact ⟨_, m, _, _, rfl, q1, r2.take m, Q2.out, Q3.out.trans R3.out, by have := R1.out; omega, by have := R1.out; omega, hlr.trans q5, fun a e => by cases e; exact Nat.le_refl _⟩
end Go.Proofs.Ytegejfcfoanaoaa
