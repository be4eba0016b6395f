/- Several texts in one: RefD, RefE, RefF, RefG, RefH, RefI, RefJ, RefK. -/
import Derived.Test.YtakhiomcneikkaaGreatH16
namespace Go.Proofs.YtakhiomcneikkaaGreat
open Go.RowKit
theorem infoI64 : (Tryz.prog.info? 3).map (fun i => (i.zero, i.size, i.bytes)) = some (some (.int .i64 0), 1, 8) := by kernel_rfl
theorem B32_one : 1 < B32 := by decide
set_option maxHeartbeats 2000000 in
theorem less_any (A1 : Option Addr) (n1 c1 : Nat) (xs : List Int) (A2 : Option Addr) (n2 c2 : Nat) (ys : List Int) (w : World) (h1 : Sl w .i64 A1 n1 xs) (h2 : Sl w .i64 A2 n2 ys) (hx : InR B32 xs) (hy : InR B32 ys)
  (hz2 : n2 ≤ n1) (hle : val B32 ys ≤ val B32 xs) (hn : n1 ≤ 1000000) :
  Calls Tryz.prog 105 #[.slice A1 n1 c1, .slice A2 n2 c2] w (DigPost w (val B32 xs - val B32 ys) n1) := by
 have HLE := Lib.hid hle
 clear hle
 go_enter Tryz.func105, Tryz.ntmps105
 go_wp2
 go_loopw [5, 6, 7] (fun v bt i wr => ∃ (k : Nat) (c : Int) (os : List Int), k ≤ n1 ∧ i = .int .i64 k ∧ bt = .int .i64 c ∧ Own wr w.heap.size 3 .i64 v os ∧ LesInv B32 xs ys k c os ∧ Lat w wr) (fun _ _ i _ => n1 - (intOf i).toNat)
 case atStart => exact ⟨0, 0, [], Nat.zero_le _, rfl, rfl, Own.nil _ _ _ _, LesInv.start B32 xs ys, Lat.refl _⟩
 case round =>
  obtain ⟨k, c, os, hk, rfl, rfl, hown, hinv, hlr⟩ := hrel
  have hc0 := hinv.1.1
  have hc1 := hinv.1.2
  have hlen := Lib.hid hinv.2.1
  have hwl := hlr.size
  by_cases hlt : k < n1
  ·obtain ⟨a, x, rfl, ha, hxk, hcell⟩ := (h1.later hlr).at hlt
   have hrx := hx.at hxk
   have rx0 := hrx.1
   have rx1 : x < 4294967296 := hrx.2
   have hgx : Hid (xs.getD k 0 = x) := by rw [List.getD_eq_getElem?_getD, hxk]; rfl
   clear hxk
   have hol : os.length ≤ 1000000 := by have := hlen.out; omega
   by_cases hlt2 : k < n2
   ·obtain ⟨a', y, rfl, ha', hyk, hcell2⟩ := (h2.later hlr).at hlt2
    have hry := hy.at hyk
    have ry0 := hry.1
    have ry1 : y < 4294967296 := hry.2
    have hgy : Hid (ys.getD k 0 = y) := by rw [List.getD_eq_getElem?_getD, hyk]; rfl
    clear hyk
    have hst := hinv.step hgx.out hgy.out hrx hry
    by_cases hneg : x - c - y < 0
    ·have hst' : LesInv B32 xs ys (k + 1) 1 (os ++ [x - c - y + 4294967296]) := by
      unfold lesD lesC at hst; rw [if_pos hneg, if_pos hneg] at hst; exact hst
     clear hst
     go_wp2_with (at_builtin; refine wpList_push rfl _ _ 80 rfl w.heap.size 3 3 .i64 8 Tryz.underlying80 infoI64 (by decide) _ os [_] _ rfl wr (by rfl) hown 1 rfl (by decide) (by rfl) (by omega) hwl ?_; intro v' w1 hown1 hlat1)
     go_roundw
     case rel => exact ⟨k + 1, _, _, by omega, by go_num, rfl, hown1, hst', hlat1 w hlr (Nat.le_refl _)⟩
     case measure => simp [intOf]; omega
    ·have hst' : LesInv B32 xs ys (k + 1) 0 (os ++ [x - c - y]) := by
      unfold lesD lesC at hst; rw [if_neg hneg, if_neg hneg] at hst; exact hst
     clear hst
     have hneg' : 0 ≤ x - c - y := by omega
     clear hneg
     go_wp2_with (at_builtin; refine wpList_push rfl _ _ 80 rfl w.heap.size 3 3 .i64 8 Tryz.underlying80 infoI64 (by decide) _ os [_] _ rfl wr (by rfl) hown 1 rfl (by decide) (by rfl) (by omega) hwl ?_; intro v' w1 hown1 hlat1)
     go_roundw
     case rel => exact ⟨k + 1, _, _, by omega, by go_num, rfl, hown1, hst', hlat1 w hlr (Nat.le_refl _)⟩
     case measure => simp [intOf]; omega
   ·have hy0 : Hid (ys.getD k 0 = 0) := by rw [List.getD_eq_getElem?_getD, List.getElem?_eq_none (by have := h2.1; omega)]; rfl
    have hst := hinv.step hgx.out hy0.out hrx ⟨Int.le_refl _, B32_pos⟩
    rw [Int.sub_zero] at hst
    by_cases hneg : x - c < 0
    ·have hst' : LesInv B32 xs ys (k + 1) 1 (os ++ [x - c + 4294967296]) := by
      unfold lesD lesC at hst; rw [if_pos hneg, if_pos hneg] at hst; exact hst
     clear hst
     go_wp2_with (at_builtin; refine wpList_push rfl _ _ 80 rfl w.heap.size 3 3 .i64 8 Tryz.underlying80 infoI64 (by decide) _ os [_] _ rfl wr (by rfl) hown 1 rfl (by decide) (by rfl) (by omega) hwl ?_; intro v' w1 hown1 hlat1)
     go_roundw
     case rel => exact ⟨k + 1, _, _, by omega, by go_num, rfl, hown1, hst', hlat1 w hlr (Nat.le_refl _)⟩
     case measure => simp [intOf]; omega
    ·have hst' : LesInv B32 xs ys (k + 1) 0 (os ++ [x - c]) := by
      unfold lesD lesC at hst; rw [if_neg hneg, if_neg hneg] at hst; exact hst
     clear hst
     have hneg' : 0 ≤ x - c := by omega
     clear hneg
     go_wp2_with (at_builtin; refine wpList_push rfl _ _ 80 rfl w.heap.size 3 3 .i64 8 Tryz.underlying80 infoI64 (by decide) _ os [_] _ rfl wr (by rfl) hown 1 rfl (by decide) (by rfl) (by omega) hwl ?_; intro v' w1 hown1 hlat1)
     go_roundw
     case rel => exact ⟨k + 1, _, _, by omega, by go_num, rfl, hown1, hst', hlat1 w hlr (Nat.le_refl _)⟩
     case measure => simp [intOf]; omega
  ·obtain rfl : k = n1 := by omega
   obtain ⟨r1, r2, r3⟩ := hinv.done B32_pos h1.1 (by have := h2.1; omega) HLE.out
   have R3 := Lib.hid r3
   have R2 := Lib.hid r2
   clear r2 r3
   obtain ⟨A3, c3, rfl, hs1, hc1', hnew⟩ := hown.form
   have hl2 : os.length ≤ 3000000 := by have := R2.out; omega
   go_wp2_with fail
   refine (cut_any A3 _ c3 _ _ hs1 hc1' hl2).mono ?_
   rintro e w2 ⟨m, rfl, q1, q2, q3, q4, q5⟩
   have Q3 := Lib.hid q3
   have Q2 := Lib.hid q2
   clear q2 q3
   go_wp2
   go_ret
   exact ⟨A3, m, c3, _, rfl, q1, r1.take m, Q2.out, Q3.out.trans R3.out, by omega, by have := R2.out; omega, hlr.trans q5, fun a e => (hnew a e).1⟩
def DigW (w : World) (z : Int) (N : Nat) (e : Ending) (w' : World) : Prop :=
 ∃ A n c xs, e = .returned (.slice A n c) ∧ Sl w' .i64 A n xs ∧ InR B32 xs ∧ val B32 xs = z ∧ n ≤ c ∧ n ≤ N ∧ Lat w w'
theorem Sl.digit {w : World} {A : Option Addr} {n : Nat} {xs : List Int} (h : Sl w .i64 A n xs) (hr : InR B32 xs) (k : Nat) :
  (k < n ∧ ∃ a x, A = some a ∧ Hid (xs.getD k 0 = x) ∧ 0 ≤ x ∧ x < 4294967296 ∧ w.cell? (a.add k) = some (.int .i64 x)) ∨ (n ≤ k ∧ Hid (xs.getD k 0 = 0)) := by
 rcases Nat.lt_or_ge k n with hlt | hge
 ·obtain ⟨a, x, e, ha, hxk, hcell⟩ := h.at hlt
  have hrx := hr.at hxk
  exact .inl ⟨hlt, a, x, e, by show _ = _; rw [List.getD_eq_getElem?_getD, hxk]; rfl, hrx.1, hrx.2, hcell⟩
 ·exact .inr ⟨hge, by show _ = _; rw [List.getD_eq_getElem?_getD, List.getElem?_eq_none (by have := h.1; omega)]; rfl⟩
set_option maxHeartbeats 4000000 in
theorem more_any (A1 : Option Addr) (n1 c1 : Nat) (xs : List Int) (A2 : Option Addr) (n2 c2 : Nat) (ys : List Int) (w : World) (h1 : Sl w .i64 A1 n1 xs) (h2 : Sl w .i64 A2 n2 ys) (hx : InR B32 xs) (hy : InR B32 ys)
  (hn : n1 ≤ 1000000) (hm : n2 ≤ 1000000) :
  Calls Tryz.prog 104 #[.slice A1 n1 c1, .slice A2 n2 c2] w (DigW w (val B32 xs + val B32 ys) (max n1 n2 + 1)) := by
 go_enter Tryz.func104, Tryz.ntmps104
 go_wp2
 go_loopw [5, 6, 7] (fun v bt i wr => ∃ (k : Nat) (c : Int) (os : List Int), i = .int .i64 k ∧ bt = .int .i64 c ∧ Own wr w.heap.size 3 .i64 v os ∧ MorInv B32 xs ys (max n1 n2) k c os ∧ Lat w wr) (fun _ _ i _ => max n1 n2 + 1 - (intOf i).toNat)
 case atStart => exact ⟨0, 0, [], rfl, rfl, Own.nil _ _ _ _, MorInv.start B32 xs ys _, Lat.refl _⟩
 case round =>
  obtain ⟨k, c, os, rfl, rfl, hown, hinv, hlr⟩ := hrel
  have hc0 := hinv.1.1
  have hc1 := hinv.1.2
  have hlen := Lib.hid hinv.2.1
  have hkN := hinv.2.2.2.2.1
  have hend := Lib.hid hinv.2.2.2.2.2
  have hwl := hlr.size
  have hol : os.length ≤ 1000001 := by have := hlen.out; omega
  rcases (h1.later hlr).digit hx k with ⟨hlt, a, x, rfl, hgx, rx0, rx1, hcell⟩ | ⟨hlt, hgx⟩
  ·rcases (h2.later hlr).digit hy k with ⟨hlt2, a', y, rfl, hgy, ry0, ry1, hcell2⟩ | ⟨hlt2, hgy⟩
   ·have hst := hinv.step B32_one (by omega) hgx.out hgy.out ⟨rx0, rx1⟩ ⟨ry0, ry1⟩ (by omega)
    go_wp2_with (at_builtin; refine wpList_push rfl _ _ 80 rfl w.heap.size 3 3 .i64 8 Tryz.underlying80 infoI64 (by decide) _ os [_] _ rfl wr (by rfl) hown 1 rfl (by decide) (by rfl) (by omega) hwl ?_; intro v' w1 hown1 hlat1)
    go_roundw
    case rel => exact ⟨k + 1, _, _, by go_num, rfl, hown1, hst, hlat1 w hlr (Nat.le_refl _)⟩
    case measure => simp [intOf]; omega
   ·have hst := hinv.step B32_one (by omega) hgx.out hgy.out ⟨rx0, rx1⟩ ⟨Int.le_refl _, B32_pos⟩ (by omega)
    rw [Int.add_zero] at hst
    go_wp2_with (at_builtin; refine wpList_push rfl _ _ 80 rfl w.heap.size 3 3 .i64 8 Tryz.underlying80 infoI64 (by decide) _ os [_] _ rfl wr (by rfl) hown 1 rfl (by decide) (by rfl) (by omega) hwl ?_; intro v' w1 hown1 hlat1)
    go_roundw
    case rel => exact ⟨k + 1, _, _, by go_num, rfl, hown1, hst, hlat1 w hlr (Nat.le_refl _)⟩
    case measure => simp [intOf]; omega
  ·rcases (h2.later hlr).digit hy k with ⟨hlt2, a', y, rfl, hgy, ry0, ry1, hcell2⟩ | ⟨hlt2, hgy⟩
   ·have hst := hinv.step B32_one (by omega) hgx.out hgy.out ⟨Int.le_refl _, B32_pos⟩ ⟨ry0, ry1⟩ (by omega)
    rw [Int.add_zero] at hst
    go_wp2_with (at_builtin; refine wpList_push rfl _ _ 80 rfl w.heap.size 3 3 .i64 8 Tryz.underlying80 infoI64 (by decide) _ os [_] _ rfl wr (by rfl) hown 1 rfl (by decide) (by rfl) (by omega) hwl ?_; intro v' w1 hown1 hlat1)
    go_roundw
    case rel => exact ⟨k + 1, _, _, by go_num, rfl, hown1, hst, hlat1 w hlr (Nat.le_refl _)⟩
    case measure => simp [intOf]; omega
   ·by_cases hcp : 0 < c
    ·have hkle : k ≤ max n1 n2 := by
      rcases Nat.lt_or_ge (max n1 n2) k with h | h
      ·have := hend.out (by omega); omega
      ·exact h
     have hst := hinv.step B32_one hkle hgx.out hgy.out ⟨Int.le_refl _, B32_pos⟩ ⟨Int.le_refl _, B32_pos⟩ (fun _ => ⟨rfl, rfl⟩)
     rw [Int.add_zero, Int.add_zero] at hst
     go_wp2_with (at_builtin; refine wpList_push rfl _ _ 80 rfl w.heap.size 3 3 .i64 8 Tryz.underlying80 infoI64 (by decide) _ os [_] _ rfl wr (by rfl) hown 1 rfl (by decide) (by rfl) (by omega) hwl ?_; intro v' w1 hown1 hlat1)
     go_roundw
     case rel => exact ⟨k + 1, _, _, by go_num, rfl, hown1, hst, hlat1 w hlr (Nat.le_refl _)⟩
     case measure => simp [intOf]; omega
    ·obtain rfl : c = 0 := by omega
     obtain ⟨r1, r2, r3, r4⟩ := hinv.done (by have := h1.1; omega) (by have := h2.1; omega)
     have R4 := Lib.hid r4
     have R2 := Lib.hid r2
     clear r2 r4
     obtain ⟨A3, c3, rfl, hs1, hc1', _⟩ := hown.form
     go_wp2
     go_ret
     exact ⟨A3, _, c3, os, rfl, hs1, r1, R4.out, hc1', by have := R2.out; omega, hlr⟩
theorem prd_le {x y : Int} (hx : 0 ≤ x ∧ x < 4294967296) (hy : 0 ≤ y ∧ y < 4294967296) : 0 ≤ x * y ∧ x * y ≤ 18446744065119617025 := by
 refine ⟨Int.mul_nonneg hx.1 hy.1, ?_⟩
 have h1 := Int.mul_le_mul_of_nonneg_left (show y ≤ 4294967295 by omega) hx.1
 have h2 := Int.mul_le_mul_of_nonneg_right (show x ≤ 4294967295 by omega) (show (0 : Int) ≤ 4294967295 by decide)
 omega
theorem quo_range {s : Int} (h0 : 0 ≤ s) (h1 : s ≤ 18446744073709551615) : 0 ≤ s / 4294967296 ∧ s / 4294967296 < 4294967296 := by omega
set_option maxRecDepth 100000 in
set_option maxHeartbeats 2000000 in
theorem product_any (A1 : Option Addr) (n1 c1 : Nat) (xs : List Int) (A2 : Option Addr) (n2 c2 : Nat) (ys : List Int) (w : World) (h1 : Sl w .i64 A1 n1 xs) (h2 : Sl w .i64 A2 n2 ys) (hx : InR B32 xs) (hy : InR B32 ys)
  (hn : n1 ≤ 1000000) (hm : n2 ≤ 1000000) :
  Calls Tryz.prog 79 #[.slice A1 n1 c1, .slice A2 n2 c2] w (DigPost w (val B32 xs * val B32 ys) (n1 + n2)) := by
 have hmk := run_make_nums (P := Tryz.prog) Tryz.underlying80 infoI64 ((n1 : Int) + n2) (n1 + n2) (by omega) (by omega) (by omega)
 go_enter Tryz.func79, Tryz.ntmps79
 go_wp2
 clear hmk
 refine name1 (Q := fun W => Code.wp _ _ _ _ W) ?_
 intro W hl hs hb
 go_loopw [6] (fun i wr => ∃ (k : Nat) (os : List Int), k ≤ n1 ∧ i = .int .i64 k ∧ PrdInv B32 xs ys n1 n2 k os ∧ Lat w wr ∧ Blk wr w.heap.size 3 (nums .i64 os)) (fun i _ => n1 - (intOf i).toNat)
 case atStart => exact ⟨0, _, Nat.zero_le _, rfl, PrdInv.start B32_pos xs ys n1 n2, hl, hb⟩
 case round =>
  obtain ⟨k, os, hk, rfl, hinv, hlr, hbr⟩ := hrel
  clear hl hb hs
  by_cases hlt : k < n1
  ·obtain ⟨a, x, rfl, ha, hxk, hcell⟩ := (h1.later hlr).at hlt
   have hrx := hx.at hxk
   have hgx : Hid (xs.getD k 0 = x) := by rw [List.getD_eq_getElem?_getD, hxk]; rfl
   clear hxk
   have hin := hinv.open_ B32_pos x
   clear hinv hcell ha
   obtain ⟨wo, rfl⟩ : ∃ wo : World, wo = wr := ⟨_, rfl⟩
   go_wp2
   go_loopw [7, 8] (fun cy j wr => ∃ (m : Nat) (c : Int) (os : List Int), m ≤ n2 ∧ j = .int .i64 m ∧ cy = .int .u64 c ∧ PrdIn B32 xs ys n1 n2 k x m c os ∧ Lat w wr ∧ Blk wr w.heap.size 3 (nums .i64 os)) (fun _ j _ => n2 - (intOf j).toNat)
   case atStart => exact ⟨0, 0, os, Nat.zero_le _, rfl, rfl, hin, hlr, hbr⟩
   case round =>
    clear hin hlr hbr os
    obtain ⟨m, c, os, hm', rfl, rfl, hin, hlr, hbr⟩ := hrel
    have hlen := Lib.hid hin.1
    have hc0 := hin.2.2.1.1
    have hc1 : c < 4294967296 := hin.2.2.1.2
    by_cases hlt2 : m < n2
    ·obtain ⟨a1, x1, ea, ha, hxk, hcell⟩ := (h1.later hlr).at hlt
     cases ea
     obtain rfl : x = x1 := by have := hgx.out; rw [List.getD_eq_getElem?_getD, hxk] at this; exact this.symm
     clear hxk
     obtain ⟨a', y, rfl, ha', hyk, hcell2⟩ := (h2.later hlr).at hlt2
     have hry := hy.at hyk
     have hgy : Hid (ys.getD m 0 = y) := by rw [List.getD_eq_getElem?_getD, hyk]; rfl
     clear hyk
     obtain ⟨o, hoo, ho, hfo⟩ := hbr.slot (i := k + m) (by have := hlen.out; omega)
     have hgo : Hid (os.getD (k + m) 0 = o) := by rw [List.getD_eq_getElem?_getD, hoo]; rfl
     have hro := hin.2.1.at hoo
     clear hoo
     have hst := hin.step B32_one hlt hlt2 hrx hgy.out hry hgo.out
     have rx0 := hrx.1
     have rx1 : x < 4294967296 := hrx.2
     have ry0 := hry.1
     have ry1 : y < 4294967296 := hry.2
     have ro0 := hro.1
     have ro1 : o < 4294967296 := hro.2
     have hpl := prd_le ⟨rx0, rx1⟩ ⟨ry0, ry1⟩
     obtain ⟨p, hp⟩ : ∃ p, x * y = p := ⟨_, rfl⟩
     rw [hp] at hst hpl
     have hp0 := hpl.1
     have hp1 := hpl.2
     clear hpl hin
     have hq := quo_range (s := c + o + p) (by omega) (by omega)
     have e1 : IntKind.u64.wrap x = x := IntWalk.u64_in _ (by omega)
     have e2 : IntKind.u64.wrap y = y := IntWalk.u64_in _ (by omega)
     have e3 : IntKind.u64.wrap o = o := IntWalk.u64_in _ (by omega)
     have e4 : IntKind.u64.wrap (x * y) = p := by rw [hp]; exact IntWalk.u64_in _ (by omega)
     have e5 : IntKind.u64.wrap (c + o) = c + o := IntWalk.u64_in _ (by omega)
     have e6 : IntKind.u64.wrap (c + o + p) = c + o + p := IntWalk.u64_in _ (by omega)
     have e7 : IntKind.i64.wrap ((k : Int) + (m : Int)) = (k : Int) + (m : Int) := IntWalk.i64_in _ (by omega)
     have e8 : (0 : Int) ≤ (k : Int) + (m : Int) := by omega
     have e9 : ((k : Int) + (m : Int)).toNat = k + m := by omega
     have e10 : (k : Int) + (m : Int) < (n1 : Int) + (n2 : Int) := by omega
     clear hp hrx hry hro
     go_wp2
     go_quiet (fail)
     clear e1 e2 e3 e4 e5 e6 e7 e8 e9
     have hb2 := hbr.later (Lat.drewN wr nq)
     go_wp2
     go_roundw
     case rel => exact ⟨m + 1, _, _, by omega, by go_num, rfl, hst, (hlr.trans (Lat.drewN wr nq)).setCell (Nat.le_refl _) _, hb2.put (k + m) _⟩
     case measure => simp [intOf]; omega
    ·obtain rfl : m = n2 := by omega
     obtain ⟨o, _, ho, hfo⟩ := hbr.slot (i := k + m) (by have := hlen.out; omega)
     have hcl := hin.close hlt h2.1 hgx.out
     clear hin
     go_wp2
     go_roundw
     case rel => exact ⟨k + 1, _, by omega, by go_num, hcl, hlr.setCell (Nat.le_refl _) _, hbr.put (k + m) _⟩
     case measure => simp [intOf]; omega
  ·obtain rfl : k = n1 := by omega
   obtain ⟨r1, r2, r3, _⟩ := hinv
   rw [List.take_of_length_le (by have := h1.1; omega)] at r3
   have R1 := Lib.hid r1
   have R3 := Lib.hid r3
   clear r1 r3
   go_wp2_with fail
   refine (cut_any _ _ _ _ _ (Sl.of_blk' hbr R1.out) (Nat.le_refl _) (by omega)).mono ?_
   rintro e w2 ⟨m, rfl, q1, q2, q3, q4, q5⟩
   have Q3 := Lib.hid q3
   have Q2 := Lib.hid q2
   clear q2 q3
   go_wp2
   go_ret
   exact ⟨_, m, _, _, rfl, q1, r2.take m, Q2.out, Q3.out.trans R3.out, by have := R1.out; omega, by have := R1.out; omega, hlr.trans q5, fun a e => by cases e; exact Nat.le_refl _⟩
theorem run_glue_nil {P : Program} {w : World} (B : Nat) (t ty e : TypeId) (i : TypeInfo) (size : Nat) (ht : P.underlying t = some (.slice e)) (hi : P.info? e = some i)
  (v : Value) (n : Nat) (xs : List Value) (hown : w.ownsRow B e size v n xs) (c : Nat) : (Builtin.append_ #[t, t] ty #[v, .slice none 0 c]).run P w = .ok v w := by
 rcases hown.2 with ⟨rfl, rfl⟩ | ⟨g, cap, cur, rfl, _, _, hnc, _⟩
 ·simp [Builtin.append_, run_underlying ht, sizeOf, typeInfo, hi, Builtin.lenOf, Builtin.firstCells]
 ·simp [Builtin.append_, run_underlying ht, sizeOf, typeInfo, hi, Builtin.lenOf, Builtin.firstCells, hnc, storeCells]
theorem wpList_glue {P : Program} {ops : Array Oper} {rest : List Oper} {o : Oper} {a : Act} {Q : Exit → Act → World → Prop} (hgd : o.guard = none) (s x : Operand) (t : TypeId)
  (ho : o.op = .call { callee := .builtin .append, args := #[s, x], argTypes := #[t, t] })
  (B : Nat) (E : TypeId) (k : IntKind) (by_ : Nat) (ht : P.underlying t = some (.slice E)) (hinfo : (P.info? E).map (fun i => (i.zero, i.size, i.bytes)) = some (some (.int k 0), 1, by_)) (hby : by_ ≤ 8)
  (v : Value) (os xs : List Int) (w : World) (hs : a.eval s = v) (hown : Own w B E k v os)
  (A : Option Addr) (n c : Nat) (hx : a.eval x = .slice A n c) (hxs : Sl w k A n xs) (hlen : os.length + n ≤ 17000000000000) (hB : B ≤ w.heap.size)
  (h : ∀ v' w', Own w' B E k v' (os ++ xs) → (∀ W0, Lat W0 w → W0.heap.size ≤ B → Lat W0 w') → wpList P ops Q rest (a.put o.dst v') w') : wpList P ops Q (o :: rest) a w := by
 obtain ⟨i0, hi, hz0, hz1, hz2⟩ := info_parts hinfo
 have hl := hxs.1
 cases A with
 | none =>
   obtain rfl : n = 0 := by
    rcases Nat.eq_zero_or_pos n with h0 | h0
    ·exact h0
    ·obtain ⟨a', e, _⟩ := hxs.2 h0
     cases e
   have : xs = [] := List.eq_nil_of_length_eq_zero hl
   subst this
   refine wpList_plain hgd fun K hK => ?_
   have hrun := run_glue_nil (P := P) (w := w) B t o.type E i0 1 ht hi v os.length _ hown c
   unfold Oper.wp
   simp [execOp, ho, resolve, invoke, builtin, hs, hx, hrun, Result.andThen]
   exact hK _ _ (h v w (by rw [List.append_nil]; exact hown) (fun W0 hl _ => hl))
 | some ad =>
   refine wpList_append_own _ hgd s x t ho B E i0 (.int k 0) 1 by_ ht hi hz0 hz1 hz2 rfl (by decide) v os.length _ hs hown ad n c (xs.map (Value.int k)) hx (by simp [hl]) ?_ ?_ ?_ ?_ hB ?_
   ·intro j u hu
    have hj : j < n := by
     have := (List.getElem?_eq_some_iff.1 hu).1
     simpa [hl] using this
    obtain ⟨a', e, _, hc⟩ := hxs.2 (by omega)
    cases e
    rw [List.getElem?_map] at hu
    cases hxj : xs[j]? with
    | none => rw [hxj] at hu; cases hu
    | some y => rw [hxj] at hu; cases hu; exact hc j y hxj
   ·exact ints_oneCell _ _
   ·unfold maxLen; omega
   ·have := Nat.mul_le_mul_left (os.length + n) hby; omega
   ·intro v' w' h1 h2 _
    refine h v' w' ?_ (fun W0 hl hle => Own.lat hown hl hle h2)
    unfold Own
    rw [List.length_append, List.map_append, hl]
    exact h1
theorem Own.made {w : World} {g : Nat} {E : TypeId} {k : IntKind} {B : Nat} (h : Blk w g E #[]) (hB : B ≤ g) : Own w B E k (.slice (some ⟨g, 0, none⟩) 0 0) [] :=
 ⟨rfl, .inr ⟨g, 0, #[], rfl, hB, h, Nat.le_refl _, by simp [maxLen], rfl, rfl⟩⟩
theorem set_same {xs : List Int} {i : Nat} {x : Int} (h : xs[i]? = some x) : xs.set i x = xs := by
 apply List.ext_getElem?
 intro j
 rw [List.getElem?_set]
 split
 ·rename_i e
  subst e
  split
  ·exact h.symm
  ·rename_i hl
   rw [List.getElem?_eq_none (by omega)]
 ·rfl
theorem rs_neg (b : Bool) (z : Int) : sgn (!b) z = - sgn b z := by cases b <;> simp [sgn]
theorem rs_mul (b c : Bool) (x y : Int) : sgn (b != c) (x * y) = sgn b x * sgn c y := by
 cases b <;> cases c <;> simp [sgn, Int.mul_neg, Int.neg_mul]
theorem rs_add (b : Bool) (x y : Int) : sgn b (x + y) = sgn b x + sgn b y := by
 cases b <;> simp [sgn, Int.neg_add]
theorem rs_sub {b c : Bool} (h : b ≠ c) (x y : Int) : sgn b (x - y) = sgn b x + sgn c y := by
 cases b <;> cases c <;> simp [sgn] at h ⊢ <;> omega
set_option maxHeartbeats 400000 in
theorem rTurn_any (b1 : Bool) (A1 : Option Addr) (n1 c1 : Nat) (x : Int) (w : World) (h1 : Rg w b1 A1 n1 c1 x) (hn : n1 ≤ 1000000) :
  Calls Tryz.prog 115 #[.agg #[.bool b1, .slice A1 n1 c1]] w (RefPost w (- x) n1) := by
 obtain ⟨hc, xs, s1, r1, z1, _, v1⟩ := h1
 have V1 := Lib.hid v1
 clear v1
 go_enter Tryz.func115, Tryz.ntmps115
 go_wp2_with fail
 refine name2 (Q := fun W => Calls _ _ _ W _) ?_
 intro W hl hs k1 k2
 refine (made_any (!b1) A1 n1 c1 W xs (s1.later hl) r1 hc (by omega)).mono ?_
 rintro e w1 ⟨b, A, n, c, rfl, hlg, hnn, hl1⟩
 have hk2 := k2.later hl1
 have c0 := hk2.cell 0
 have c1' := hk2.cell 1
 have f0 := hk2.frozen 0
 have f1 := hk2.frozen 1
 go_wp2
 refine bodyPost_ret (v := .agg #[.bool b, .slice A n c]) (by simp [results, Tryz.results115, go_sem, c0, c1']) rfl ?_
 have := RefPost.close hk2 hlg (hl.trans hl1) (by omega) hnn
 rw [rs_neg, ← V1.out] at this
 exact this
set_option maxHeartbeats 400000 in
theorem rTimes_any (b1 : Bool) (A1 : Option Addr) (n1 c1 : Nat) (x : Int) (b2 : Bool) (A2 : Option Addr) (n2 c2 : Nat) (y : Int) (w : World) (h1 : Rg w b1 A1 n1 c1 x) (h2 : Rg w b2 A2 n2 c2 y) (hn : n1 ≤ 1000000) (hm : n2 ≤ 1000000) :
  Calls Tryz.prog 42 #[.agg #[.bool b1, .slice A1 n1 c1], .agg #[.bool b2, .slice A2 n2 c2]] w (RefPost w (x * y) (n1 + n2)) := by
 obtain ⟨hc1, xs, s1, r1, z1, _, v1⟩ := h1
 obtain ⟨hc2, ys, s2, r2, z2, _, v2⟩ := h2
 have V1 := Lib.hid v1
 have V2 := Lib.hid v2
 clear v1 v2
 go_enter Tryz.func42, Tryz.ntmps42
 go_wp2
 refine name3 (Q := fun W => Code.wp _ _ _ _ W) ?_
 intro W hl hs k1 k2 k3
 have a1 := k1.evS (gs := [w.heap.size + 1 + 1]) (by simp; try omega) 0 rfl
 have a2 := k1.evS (gs := [w.heap.size + 1 + 1]) (by simp; try omega) (0 + 1) rfl
 have a3 := k2.evS (gs := [w.heap.size + 1 + 1]) (by simp; try omega) 0 rfl
 have a4 := k2.evS (gs := [w.heap.size + 1 + 1]) (by simp; try omega) (0 + 1) rfl
 have L0 := Lat.drew W
 have M0 := L0.s [w.heap.size + 1 + 1]
 go_region_held3 (fun w' => LatS W [w.heap.size + 1 + 1] w') (first | assumption | ((repeat refine LatS.set ?_ (by simp) _); assumption))
  (first
    | (go_at_call 79; refine (product_any A1 n1 c1 xs A2 n2 c2 ys _ (s1.later (hl.trans L0)) (s2.later (hl.trans L0)) r1 r2 hn hm).mono ?_; rintro e w1 ⟨A, n, c, zs, rfl, p1, p2, p2', p3, p4, p5, p6, p7⟩; have L1 := L0.trans p6; have M1 := L1.s [w.heap.size + 1 + 1]; have P3 := Lib.hid p3; clear p3)
    | (go_at_call 78; refine (made_any (b1 != b2) A n c _ zs p1 p2 p4 (by omega)).mono ?_; rintro e w2 ⟨b, A', m, c', rfl, q1, q2, q3⟩; have L2 := L1.trans q3; have M2 := L2.s [w.heap.size + 1 + 1]; have hk3 := k3.later L2; have c0 := hk3.cell 0; have c1' := hk3.cell 1; have f0 := hk3.frozen 0; have f1 := hk3.frozen 1))
 go_wp2
 refine bodyPost_ret (v := .agg #[.bool b, .slice A' m c']) (by simp [results, Tryz.results42, go_sem, c0, c1']) rfl ?_
 have := RefPost.close hk3 q1 (hl.trans L2) (by omega) (Nat.le_trans q2 p5)
 rw [P3.out, rs_mul, ← V1.out, ← V2.out] at this
 exact this
set_option maxHeartbeats 400000 in
theorem rPlus_same (b1 : Bool) (A1 : Option Addr) (n1 c1 : Nat) (x : Int) (A2 : Option Addr) (n2 c2 : Nat) (y : Int) (w : World) (h1 : Rg w b1 A1 n1 c1 x) (h2 : Rg w b1 A2 n2 c2 y) (hn : n1 ≤ 1000000) (hm : n2 ≤ 1000000) :
  Calls Tryz.prog 77 #[.agg #[.bool b1, .slice A1 n1 c1], .agg #[.bool b1, .slice A2 n2 c2]] w (RefPost w (x + y) (max n1 n2 + 1)) := by
 obtain ⟨hc1, xs, s1, r1, z1, _, v1⟩ := h1
 obtain ⟨hc2, ys, s2, r2, z2, _, v2⟩ := h2
 have V1 := Lib.hid v1
 have V2 := Lib.hid v2
 clear v1 v2
 go_enter Tryz.func77, Tryz.ntmps77
 go_wp2
 refine name3 (Q := fun W => Code.wp _ _ _ _ W) ?_
 intro W hl hs k1 k2 k3
 have a1 := k1.evS (gs := [w.heap.size + 1 + 1]) (by simp; try omega) 0 rfl
 have a2 := k1.evS (gs := [w.heap.size + 1 + 1]) (by simp; try omega) (0 + 1) rfl
 have a4 := k2.evS (gs := [w.heap.size + 1 + 1]) (by simp; try omega) (0 + 1) rfl
 have L0 := Lat.drew W
 have M0 := L0.s [w.heap.size + 1 + 1]
 go_region_held3 (fun w' => LatS W [w.heap.size + 1 + 1] w') (first | assumption | ((repeat refine LatS.set ?_ (by simp) _); assumption))
  (first
    | (go_at_call 104; refine (more_any A1 n1 c1 xs A2 n2 c2 ys _ (s1.later (hl.trans L0)) (s2.later (hl.trans L0)) r1 r2 hn hm).mono ?_; rintro e w1 ⟨A, n, c, zs, rfl, p1, p2, p3, p4, p5, p6⟩; have L1 := L0.trans p6; have M1 := L1.s [w.heap.size + 1 + 1]; have P3 := Lib.hid p3; clear p3)
    | (go_at_call 78; refine (made_any b1 A n c _ zs p1 p2 p4 (by omega)).mono ?_; rintro e w2 ⟨b, A', m, c', rfl, q1, q2, q3⟩; have L2 := L1.trans q3; have M2 := L2.s [w.heap.size + 1 + 1]; have hk3 := k3.later L2; have c0 := hk3.cell 0; have c1' := hk3.cell 1; have f0 := hk3.frozen 0; have f1 := hk3.frozen 1))
 go_wp2
 refine bodyPost_ret (v := .agg #[.bool b, .slice A' m c']) (by simp [results, Tryz.results77, go_sem, c0, c1']) rfl ?_
 have := RefPost.close hk3 q1 (hl.trans L2) (by omega) (Nat.le_trans q2 p5)
 rw [P3.out, rs_add, ← V1.out, ← V2.out] at this
 exact this
set_option maxHeartbeats 1000000 in
theorem rPlus_other (b1 : Bool) (A1 : Option Addr) (n1 c1 : Nat) (x : Int) (b2 : Bool) (A2 : Option Addr) (n2 c2 : Nat) (y : Int) (w : World) (h1 : Rg w b1 A1 n1 c1 x) (h2 : Rg w b2 A2 n2 c2 y) (hb : b1 ≠ b2) (hn : n1 ≤ 1000000) (hm : n2 ≤ 1000000) :
  Calls Tryz.prog 77 #[.agg #[.bool b1, .slice A1 n1 c1], .agg #[.bool b2, .slice A2 n2 c2]] w (RefPost w (x + y) (max n1 n2 + 1)) := by
 obtain ⟨hc1, xs, s1, r1, z1, _, v1⟩ := h1
 obtain ⟨hc2, ys, s2, r2, z2, _, v2⟩ := h2
 have V1 := Lib.hid v1
 have V2 := Lib.hid v2
 clear v1 v2
 have hbb : (b1 == b2) = false := by simpa using hb
 have HB := Lib.hid hb
 clear hb
 go_enter Tryz.func77, Tryz.ntmps77
 go_wp2_with fail
 refine name3 (Q := fun W => Calls _ _ _ W _) ?_
 intro W hl hs k1 k2 k3
 refine (order_any A1 n1 c1 xs A2 n2 c2 ys W (s1.later hl) (s2.later hl) r1 r2 z1 z2 hn hm).mono ?_
 intro e W1 hpost
 by_cases hge : val B32 ys ≤ val B32 xs
 ·obtain ⟨r, rfl, r0, hl1⟩ := hpost.ge hge
  clear hpost
  have hlw := hl.trans hl1
  have hlen := len_le_of_val' B32_pos r2 r1 z2 hge
  rw [s1.1, s2.1] at hlen
  have HGE := Lib.hid hge
  have hk1 := k1.later hl1
  have hk2 := k2.later hl1
  have hk3 := k3.later hl1
  have hs1 := hl1.size
  clear k1 k2 k3 hl hge
  go_wp2
  have a1 := hk1.evS (gs := [w.heap.size + 1 + 1]) (by simp; try omega) 0 rfl
  have a2 := hk1.evS (gs := [w.heap.size + 1 + 1]) (by simp; try omega) (0 + 1) rfl
  have a4 := hk2.evS (gs := [w.heap.size + 1 + 1]) (by simp; try omega) (0 + 1) rfl
  have L0 := Lat.drew W1
  have M0 := L0.s [w.heap.size + 1 + 1]
  go_region_held3 (fun w' => LatS W1 [w.heap.size + 1 + 1] w') (first | assumption | ((repeat refine LatS.set ?_ (by simp) _); assumption))
   (first
     | (go_at_call 105; refine (less_any A1 n1 c1 xs A2 n2 c2 ys _ (s1.later (hlw.trans L0)) (s2.later (hlw.trans L0)) r1 r2 hlen HGE.out hn).mono ?_; rintro e w1 ⟨A, n, c, zs, rfl, p1, p2, p2', p3, p4, p5, p6, p7⟩; have L1 := L0.trans p6; have M1 := L1.s [w.heap.size + 1 + 1]; have P3 := Lib.hid p3; clear p3)
     | (go_at_call 78; refine (made_any b1 A n c _ zs p1 p2 p4 (by omega)).mono ?_; rintro e w2 ⟨b, A', m, c', rfl, q1, q2, q3⟩; have L2 := L1.trans q3; have M2 := L2.s [w.heap.size + 1 + 1]; have hk3' := hk3.later L2; have c0 := hk3'.cell 0; have c1' := hk3'.cell 1; have f0 := hk3'.frozen 0; have f1 := hk3'.frozen 1))
  go_wp2
  refine bodyPost_ret (v := .agg #[.bool b, .slice A' m c']) (by simp [results, Tryz.results77, go_sem, c0, c1']) rfl ?_
  have := RefPost.close hk3' q1 (hlw.trans L2) (by omega) (N := max n1 n2 + 1) (by omega)
  rw [P3.out, rs_sub HB.out, ← V1.out, ← V2.out] at this
  exact this
 ·obtain ⟨r, rfl, r0, hl1⟩ := hpost.lt (by omega)
  clear hpost
  have hlw := hl.trans hl1
  have hge' : val B32 xs ≤ val B32 ys := by omega
  have hlen := len_le_of_val' B32_pos r1 r2 z1 hge'
  rw [s1.1, s2.1] at hlen
  have HGE := Lib.hid hge'
  have hk1 := k1.later hl1
  have hk2 := k2.later hl1
  have hk3 := k3.later hl1
  have hs1 := hl1.size
  have r0' : ¬ 0 ≤ r := by omega
  clear k1 k2 k3 hl hge hge'
  go_wp2
  have a1 := hk2.evS (gs := [w.heap.size + 1 + 1]) (by simp; try omega) 0 rfl
  have a2 := hk1.evS (gs := [w.heap.size + 1 + 1]) (by simp; try omega) (0 + 1) rfl
  have a4 := hk2.evS (gs := [w.heap.size + 1 + 1]) (by simp; try omega) (0 + 1) rfl
  have L0 := Lat.drew W1
  have M0 := L0.s [w.heap.size + 1 + 1]
  go_region_held3 (fun w' => LatS W1 [w.heap.size + 1 + 1] w') (first | assumption | ((repeat refine LatS.set ?_ (by simp) _); assumption))
   (first
     | (go_at_call 105; refine (less_any A2 n2 c2 ys A1 n1 c1 xs _ (s2.later (hlw.trans L0)) (s1.later (hlw.trans L0)) r2 r1 hlen HGE.out hm).mono ?_; rintro e w1 ⟨A, n, c, zs, rfl, p1, p2, p2', p3, p4, p5, p6, p7⟩; have L1 := L0.trans p6; have M1 := L1.s [w.heap.size + 1 + 1]; have P3 := Lib.hid p3; clear p3)
     | (go_at_call 78; refine (made_any b2 A n c _ zs p1 p2 p4 (by omega)).mono ?_; rintro e w2 ⟨b, A', m, c', rfl, q1, q2, q3⟩; have L2 := L1.trans q3; have M2 := L2.s [w.heap.size + 1 + 1]; have hk3' := hk3.later L2; have c0 := hk3'.cell 0; have c1' := hk3'.cell 1; have f0 := hk3'.frozen 0; have f1 := hk3'.frozen 1))
  go_wp2
  refine bodyPost_ret (v := .agg #[.bool b, .slice A' m c']) (by simp [results, Tryz.results77, go_sem, c0, c1']) rfl ?_
  have := RefPost.close hk3' q1 (hlw.trans L2) (by omega) (N := max n1 n2 + 1) (by omega)
  rw [P3.out, rs_sub (fun e => HB.out e.symm), ← V1.out, ← V2.out, Int.add_comm] at this
  exact this
theorem rPlus_any (b1 : Bool) (A1 : Option Addr) (n1 c1 : Nat) (x : Int) (b2 : Bool) (A2 : Option Addr) (n2 c2 : Nat) (y : Int) (w : World) (h1 : Rg w b1 A1 n1 c1 x) (h2 : Rg w b2 A2 n2 c2 y) (hn : n1 ≤ 1000000) (hm : n2 ≤ 1000000) :
  Calls Tryz.prog 77 #[.agg #[.bool b1, .slice A1 n1 c1], .agg #[.bool b2, .slice A2 n2 c2]] w (RefPost w (x + y) (max n1 n2 + 1)) := by
 by_cases hb : b1 = b2
 ·subst hb
  exact rPlus_same b1 A1 n1 c1 x A2 n2 c2 y w h1 h2 hn hm
 ·exact rPlus_other b1 A1 n1 c1 x b2 A2 n2 c2 y w h1 h2 hb hn hm
set_option maxHeartbeats 400000 in
theorem rMinus_any (b1 : Bool) (A1 : Option Addr) (n1 c1 : Nat) (x : Int) (b2 : Bool) (A2 : Option Addr) (n2 c2 : Nat) (y : Int) (w : World) (h1 : Rg w b1 A1 n1 c1 x) (h2 : Rg w b2 A2 n2 c2 y) (hn : n1 ≤ 1000000) (hm : n2 ≤ 1000000) :
  Calls Tryz.prog 106 #[.agg #[.bool b1, .slice A1 n1 c1], .agg #[.bool b2, .slice A2 n2 c2]] w (RefPost w (x - y) (max n1 n2 + 1)) := by
 go_enter Tryz.func106, Tryz.ntmps106
 go_wp2
 refine name3 (Q := fun W => Code.wp _ _ _ _ W) ?_
 intro W hl hs k1 k2 k3
 have a1 := k1.evS (gs := [w.heap.size + 1 + 1]) (by simp; try omega) 0 rfl
 have a2 := k1.evS (gs := [w.heap.size + 1 + 1]) (by simp; try omega) (0 + 1) rfl
 have a3 := k2.evS (gs := [w.heap.size + 1 + 1]) (by simp; try omega) 0 rfl
 have a4 := k2.evS (gs := [w.heap.size + 1 + 1]) (by simp; try omega) (0 + 1) rfl
 have L0 := Lat.drew W
 have M0 := L0.s [w.heap.size + 1 + 1]
 go_region_held3 (fun w' => LatS W [w.heap.size + 1 + 1] w') (first | assumption | ((repeat refine LatS.set ?_ (by simp) _); assumption))
  (first
    | (go_at_call 115; refine (rTurn_any b2 A2 n2 c2 y _ (h2.later (hl.trans L0)) hm).mono ?_; rintro e w1 ⟨b, A, n, c, rfl, p1, p2, p3⟩; have L1 := L0.trans p3; have M1 := L1.s [w.heap.size + 1 + 1])
    | (go_at_call 77; refine (rPlus_any b1 A1 n1 c1 x b A n c (- y) _ (h1.later (hl.trans L1)) p1 hn (by omega)).mono ?_; rintro e w2 ⟨b', A', m, c', rfl, q1, q2, q3⟩; have L2 := L1.trans q3; have M2 := L2.s [w.heap.size + 1 + 1]; have hk3 := k3.later L2; have c0 := hk3.cell 0; have c1' := hk3.cell 1; have f0 := hk3.frozen 0; have f1 := hk3.frozen 1))
 go_wp2
 refine bodyPost_ret (v := .agg #[.bool b', .slice A' m c']) (by simp [results, Tryz.results106, go_sem, c0, c1']) rfl ?_
 exact RefPost.close hk3 q1 (hl.trans L2) (by omega) (by omega)
end Go.Proofs.YtakhiomcneikkaaGreat
