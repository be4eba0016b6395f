/- Several texts in one: WordsA, Shelf. -/
import Derived.Test.YtpmbglhbcjbkcaaGreatProg
import Derived.Test.YtpmbglhbcjbkcaaGreatH02
import Derived.Shelf.Small.Bits
import Derived.Shelf.Small.Wraps
import Derived.Shelf.Strconv.Itoa0
import Derived.Shelf.Sort.Plain
import Derived.Shelf.Bits.Mul64
import Derived.Ground.Names2Prog
import Derived.Shelf.Slices.SearchI
import Derived.Shelf.Slices.In.SortNone
namespace Go.Proofs.YtpmbglhbcjbkcaaGreat
set_option maxHeartbeats 16000000
set_option maxRecDepth 100000
open Go.RowKit
theorem zbP : (Tryz.prog.info? 36).map (fun i => (i.zero, i.size, i.bytes)) = some (some (.int .u64 0), 1, 8) := by kernel_rfl
theorem zbv (x y c : Int) (hx : 0 ≤ x) (hy : 0 ≤ y) (hc0 : 0 ≤ c) (hc : c ≤ 1) (w : World) :
  (callFunc 122 #[.int .u64 x, .int .u64 y, .int .u64 c]).run Tryz.prog w = .ok (.value (.tuple #[.int .u64 (zeS x y c), .int .u64 (zhj x y c)])) w := by
 rw [run_callFunc_extern Tryz.func122 (by kernel_rfl) (by kernel_rfl) (by kernel_rfl) (e := add64Entry) (by kernel_rfl), run_add64 x y c hx hy hc0 hc]
 rfl
def AddInv (xs ys : List Int) (n k : Nat) (c : Int) (os : List Int) : Prop :=
 (0 ≤ c ∧ c ≤ 1) ∧ os.length = n + 1 ∧ InR W64 os ∧ val W64 (os.take k) + W64 ^ k * c = val W64 (xs.take k) + val W64 (ys.take k)
theorem AddInv.start (xs ys : List Int) (n : Nat) : AddInv xs ys n 0 0 (List.replicate (n + 1) 0) :=
 ⟨by omega, by simp, InR.zeros zaf _, by simp [val]⟩
theorem AddInv.step {xs ys : List Int} {n k : Nat} {c x y : Int} {os : List Int} (h : AddInv xs ys n k c os) (hk : k < n) (hx : xs.getD k 0 = x) (hy : ys.getD k 0 = y)
  (rx : 0 ≤ x ∧ x < W64) (ry : 0 ≤ y ∧ y < W64) : AddInv xs ys n (k + 1) (zhj x y c) (os.set k (zeS x y c)) := by
 obtain ⟨hc, hl, hr, he⟩ := h
 obtain ⟨e, r1, r2⟩ := zbE rx ry hc
 refine ⟨r2, by simpa using hl, hr.set k r1, ?_⟩
 have e1 : (os.set k (zeS x y c)).take k = os.take k := by rw [List.take_set_of_le (Nat.le_refl _)]
 have e2 : (os.set k (zeS x y c)).getD k 0 = zeS x y c := by simp [List.getD_eq_getElem?_getD, hl, show k < n + 1 by omega]
 rw [zai, zai, zai, e1, e2, hx, hy, za8]
 have : zeS x y c = x + y + c - W64 * zhj x y c := by omega
 rw [this]
 grind
theorem AddInv.done {xs ys : List Int} {n : Nat} {c : Int} {os : List Int} (h : AddInv xs ys n n c os) (hx : xs.length = n) (hy : ys.length ≤ n) :
  InR W64 (os.set n c) ∧ (os.set n c).length = n + 1 ∧ val W64 (os.set n c) = val W64 xs + val W64 ys := by
 obtain ⟨hc, hl, hr, he⟩ := h
 have : W64 = 18446744073709551616 := rfl
 refine ⟨hr.set n (by omega), by simpa using hl, ?_⟩
 have e0 : os.set n c = os.take n ++ [c] := by
  rw [List.set_eq_take_append_cons_drop, if_pos (by omega), List.drop_of_length_le (by omega)]
 rw [e0, zcU, List.length_take, Nat.min_eq_left (by omega), he, List.take_of_length_le (by omega), List.take_of_length_le hy]
theorem ziU (A1 : Option Addr) (n1 c1 : Nat) (xs : List Int) (A2 : Option Addr) (n2 c2 : Nat) (ys : List Int) (w : World) (h1 : Sl w .u64 A1 n1 xs) (h2 : Sl w .u64 A2 n2 ys) (hx : InR W64 xs) (hy : InR W64 ys)
  (hle : n2 ≤ n1) (hn : n1 ≤ 1000000) :
  Calls Tryz.prog 100 #[.slice A1 n1 c1, .slice A2 n2 c2] w (zcf w (val W64 xs + val W64 ys) (n1 + 1)) := by
 have hmk := zav (P := Tryz.prog) Tryz.underlying86 zbP ((n1 : Int) + 1) (n1 + 1) (by omega) (by omega) (by omega)
 go_enter Tryz.func100, Tryz.ntmps100
 go_wp2
 clear hmk
 refine zas (Q := fun W => Code.wp _ _ _ _ W) ?_
 intro W hl hs hb
 go_loopw [6, 23] (fun cy i wr => ∃ (k : Nat) (c : Int) (os : List Int), k ≤ n1 ∧ i = .int .i64 k ∧ cy = .int .u64 c ∧ AddInv xs ys n1 k c os ∧ Lat w wr ∧ Blk wr w.heap.size 36 (nums .u64 os)) (fun _ i _ => n1 - (intOf i).toNat)
 case atStart => exact ⟨0, 0, _, Nat.zero_le _, rfl, rfl, AddInv.start xs ys n1, hl, hb⟩
 case round =>
  obtain ⟨k, c, os, hk, rfl, rfl, hinv, hlr, hbr⟩ := hrel
  have hc0 := hinv.1.1
  have hc1 := hinv.1.2
  have hlen := hinv.2.1
  by_cases hlt : k < n1
  ·obtain ⟨a, x, rfl, ha, hxk, hcell⟩ := (h1.later hlr).at hlt
   obtain ⟨o, _, ho, hfo⟩ := hbr.slot (i := k) (by omega)
   have hrx := hx.at hxk
   have hgx : Hid (xs.getD k 0 = x) := by rw [List.getD_eq_getElem?_getD, hxk]; rfl
   clear hxk
   have HL := Lib.hid hlen
   clear hlen
   by_cases hlt2 : k < n2
   ·obtain ⟨a', y, rfl, ha', hyk, hcell2⟩ := (h2.later hlr).at hlt2
    have hry := hy.at hyk
    have hgy : Hid (ys.getD k 0 = y) := by rw [List.getD_eq_getElem?_getD, hyk]; rfl
    clear hyk
    have hadd := zbv x y c hrx.1 hry.1 hc0 hc1
    go_wp2
    go_roundw
    case rel => exact ⟨k + 1, _, _, by omega, by go_num, rfl, hinv.step hlt hgx.out hgy.out hrx hry, hlr.setCell (Nat.le_refl _) _, hbr.put k _⟩
    case measure => simp [intOf]; omega
   ·have hy0 : Hid (ys.getD k 0 = 0) := by rw [List.getD_eq_getElem?_getD, List.getElem?_eq_none (by have := h2.1; omega)]; rfl
    have hadd := zbv x 0 c hrx.1 (by omega) hc0 hc1
    go_wp2
    go_roundw
    case rel => exact ⟨k + 1, _, _, by omega, by go_num, rfl, hinv.step hlt hgx.out hy0.out hrx ⟨Int.le_refl _, zaf⟩, hlr.setCell (Nat.le_refl _) _, hbr.put k _⟩
    case measure => simp [intOf]; omega
  ·obtain rfl : k = n1 := by omega
   obtain ⟨o, _, ho, hfo⟩ := hbr.slot (i := k) (by omega)
   obtain ⟨r1, r2, r3⟩ := hinv.done h1.1 (by have := h2.1; omega)
   have R2 := Lib.hid r2
   have R3 := Lib.hid r3
   have HL := Lib.hid hlen
   clear r2 r3 hlen
   go_wp2
   go_ret
   exact ⟨_, _, _, _, rfl, Sl.of_blk' (hbr.put k c) R2.out, r1, R3.out, Nat.le_refl _, Nat.le_refl _, hlr.setCell (Nat.le_refl _) _, fun _ e => by cases e; exact Nat.le_refl _⟩
theorem zhl (A1 : Option Addr) (n1 c1 : Nat) (xs : List Int) (A2 : Option Addr) (n2 c2 : Nat) (ys : List Int) (w : World) (h1 : Sl w .u64 A1 n1 xs) (h2 : Sl w .u64 A2 n2 ys) (hx : InR W64 xs) (hy : InR W64 ys)
  (hle : n1 < n2) (hn : n2 ≤ 1000000) :
  Calls Tryz.prog 100 #[.slice A1 n1 c1, .slice A2 n2 c2] w (zcf w (val W64 xs + val W64 ys) (n2 + 1)) := by
 have hmk := zav (P := Tryz.prog) Tryz.underlying86 zbP ((n2 : Int) + 1) (n2 + 1) (by omega) (by omega) (by omega)
 go_enter Tryz.func100, Tryz.ntmps100
 go_wp2
 clear hmk
 refine zas (Q := fun W => Code.wp _ _ _ _ W) ?_
 intro W hl hs hb
 go_loopw [6, 23] (fun cy i wr => ∃ (k : Nat) (c : Int) (os : List Int), k ≤ n2 ∧ i = .int .i64 k ∧ cy = .int .u64 c ∧ AddInv ys xs n2 k c os ∧ Lat w wr ∧ Blk wr w.heap.size 36 (nums .u64 os)) (fun _ i _ => n2 - (intOf i).toNat)
 case atStart => exact ⟨0, 0, _, Nat.zero_le _, rfl, rfl, AddInv.start ys xs n2, hl, hb⟩
 case round =>
  obtain ⟨k, c, os, hk, rfl, rfl, hinv, hlr, hbr⟩ := hrel
  have hc0 := hinv.1.1
  have hc1 := hinv.1.2
  have hlen := hinv.2.1
  by_cases hlt : k < n2
  ·obtain ⟨a, x, rfl, ha, hxk, hcell⟩ := (h2.later hlr).at hlt
   obtain ⟨o, _, ho, hfo⟩ := hbr.slot (i := k) (by omega)
   have hrx := hy.at hxk
   have hgx : Hid (ys.getD k 0 = x) := by rw [List.getD_eq_getElem?_getD, hxk]; rfl
   clear hxk
   have HL := Lib.hid hlen
   clear hlen
   by_cases hlt2 : k < n1
   ·obtain ⟨a', y, rfl, ha', hyk, hcell2⟩ := (h1.later hlr).at hlt2
    have hry := hx.at hyk
    have hgy : Hid (xs.getD k 0 = y) := by rw [List.getD_eq_getElem?_getD, hyk]; rfl
    clear hyk
    have hadd := zbv x y c hrx.1 hry.1 hc0 hc1
    go_wp2
    go_roundw
    case rel => exact ⟨k + 1, _, _, by omega, by go_num, rfl, hinv.step hlt hgx.out hgy.out hrx hry, hlr.setCell (Nat.le_refl _) _, hbr.put k _⟩
    case measure => simp [intOf]; omega
   ·have hy0 : Hid (xs.getD k 0 = 0) := by rw [List.getD_eq_getElem?_getD, List.getElem?_eq_none (by have := h1.1; omega)]; rfl
    have hadd := zbv x 0 c hrx.1 (by omega) hc0 hc1
    go_wp2
    go_roundw
    case rel => exact ⟨k + 1, _, _, by omega, by go_num, rfl, hinv.step hlt hgx.out hy0.out hrx ⟨Int.le_refl _, zaf⟩, hlr.setCell (Nat.le_refl _) _, hbr.put k _⟩
    case measure => simp [intOf]; omega
  ·obtain rfl : k = n2 := by omega
   obtain ⟨o, _, ho, hfo⟩ := hbr.slot (i := k) (by omega)
   obtain ⟨r1, r2, r3⟩ := hinv.done h2.1 (by have := h1.1; omega)
   have R2 := Lib.hid r2
   have R3 := Lib.hid r3
   have HL := Lib.hid hlen
   clear r2 r3 hlen
   go_wp2
   go_ret
   exact ⟨_, _, _, _, rfl, Sl.of_blk' (hbr.put k c) R2.out, r1, R3.out.trans (Int.add_comm _ _), Nat.le_refl _, Nat.le_refl _, hlr.setCell (Nat.le_refl _) _, fun _ e => by cases e; exact Nat.le_refl _⟩
theorem zjV (A1 : Option Addr) (n1 c1 : Nat) (xs : List Int) (A2 : Option Addr) (n2 c2 : Nat) (ys : List Int) (w : World) (h1 : Sl w .u64 A1 n1 xs) (h2 : Sl w .u64 A2 n2 ys) (hx : InR W64 xs) (hy : InR W64 ys)
  (hn : n1 ≤ 1000000) (hm : n2 ≤ 1000000) :
  Calls Tryz.prog 100 #[.slice A1 n1 c1, .slice A2 n2 c2] w (zcf w (val W64 xs + val W64 ys) (max n1 n2 + 1)) := by
 by_cases h : n2 ≤ n1
 ·exact (ziU A1 n1 c1 xs A2 n2 c2 ys w h1 h2 hx hy h hn).mono fun e w' ⟨A, n, c, zs, a1, a2, a3, a4, a5, a6, a7⟩ => ⟨A, n, c, zs, a1, a2, a3, a4, a5, by omega, a7⟩
 ·exact (zhl A1 n1 c1 xs A2 n2 c2 ys w h1 h2 hx hy (by omega) hm).mono fun e w' ⟨A, n, c, zs, a1, a2, a3, a4, a5, a6, a7⟩ => ⟨A, n, c, zs, a1, a2, a3, a4, a5, by omega, a7⟩
end Go.Proofs.YtpmbglhbcjbkcaaGreat
namespace Go.Proofs
set_option maxHeartbeats 16000000
set_option maxRecDepth 100000
open Go.Shelf
def Tryz.lays128_ren : Go.Shelf.Ren := ⟨fun | 128 => 150 | n => n, fun | 51 => 45 | 3 => 3 | 4 => 4 | 46 => 34 | 5 => 5 | 9 => 9 | n => n, fun | n => n⟩
theorem Tryz.lays128 : Go.Proofs.Lays.n128 Tryz.prog Tryz.lays128_ren := {
 mixed := by kernel_rfl
 f128 := Tryz.func150.trans (congrArg some (by kernel_rfl))
 t3 := Tryz.underlying3
 a3 := Tryz.isAgg3
 z3 := Tryz.sizeOf3
 v3 := Tryz.zeroValue3
 t4 := Tryz.underlying4
 a4 := Tryz.isAgg4
 z4 := Tryz.sizeOf4
 v4 := Tryz.zeroValue4
 t5 := Tryz.underlying5
 a5 := Tryz.isAgg5
 z5 := Tryz.sizeOf5
 v5 := Tryz.zeroValue5
 t9 := Tryz.underlying9
 a9 := Tryz.isAgg9
 z9 := Tryz.sizeOf9
 v9 := Tryz.zeroValue9
 t46 := Tryz.underlying34
 a46 := Tryz.isAgg34
 z46 := Tryz.sizeOf34
 v46 := Tryz.zeroValue34
 t51 := Tryz.underlying45
 a51 := Tryz.isAgg45
 z51 := Tryz.sizeOf45
 v51 := Tryz.zeroValue45 }
theorem Tryz.bits_Len32 (x : Int) (w : World) (h0 : 0 ≤ x) (h1 : x ≤ 4294967295) :
  Calls Tryz.prog 150 #[.int .u32 x] w fun e w' => e = .returned (.int .i64 (Lib.bitLen x.toNat)) ∧ w' = w := Any.bits_Len32 Tryz.lays128 x w h0 h1
def Tryz.lays125_ren : Go.Shelf.Ren := ⟨fun | 125 => 136 | 128 => 150 | 129 => 140 | n => n, fun | 46 => 34 | 3 => 3 | 51 => 45 | 53 => 36 | 4 => 4 | 5 => 5 | 9 => 9 | n => n, fun | n => n⟩
theorem Tryz.lays125 : Go.Proofs.Lays.n125 Tryz.prog Tryz.lays125_ren := {
 mixed := by kernel_rfl
 f125 := Tryz.func136.trans (congrArg some (by kernel_rfl))
 f128 := Tryz.func150.trans (congrArg some (by kernel_rfl))
 f129 := Tryz.func140.trans (congrArg some (by kernel_rfl))
 t3 := Tryz.underlying3
 a3 := Tryz.isAgg3
 z3 := Tryz.sizeOf3
 v3 := Tryz.zeroValue3
 t4 := Tryz.underlying4
 a4 := Tryz.isAgg4
 z4 := Tryz.sizeOf4
 v4 := Tryz.zeroValue4
 t5 := Tryz.underlying5
 a5 := Tryz.isAgg5
 z5 := Tryz.sizeOf5
 v5 := Tryz.zeroValue5
 t9 := Tryz.underlying9
 a9 := Tryz.isAgg9
 z9 := Tryz.sizeOf9
 v9 := Tryz.zeroValue9
 t46 := Tryz.underlying34
 a46 := Tryz.isAgg34
 z46 := Tryz.sizeOf34
 v46 := Tryz.zeroValue34
 t51 := Tryz.underlying45
 a51 := Tryz.isAgg45
 z51 := Tryz.sizeOf45
 v51 := Tryz.zeroValue45
 t53 := Tryz.underlying36
 a53 := Tryz.isAgg36
 z53 := Tryz.sizeOf36
 v53 := Tryz.zeroValue36 }
theorem Tryz.bits_Len (x : Int) (w : World) (h0 : 0 ≤ x) (h1 : x ≤ 18446744073709551615) :
  Calls Tryz.prog 136 #[.int .u64 x] w fun e w' => e = .returned (.int .i64 (Lib.bitLen x.toNat)) ∧ w' = w := Any.bits_Len Tryz.lays125 x w h0 h1
def Tryz.lays134_ren : Go.Shelf.Ren := ⟨fun | 134 => 131 | 129 => 140 | n => n, fun | 53 => 36 | 3 => 3 | 4 => 4 | 46 => 34 | 5 => 5 | 9 => 9 | n => n, fun | n => n⟩
theorem Tryz.lays134 : Go.Proofs.Lays.n134 Tryz.prog Tryz.lays134_ren := {
 mixed := by kernel_rfl
 f129 := Tryz.func140.trans (congrArg some (by kernel_rfl))
 f134 := Tryz.func131.trans (congrArg some (by kernel_rfl))
 t3 := Tryz.underlying3
 a3 := Tryz.isAgg3
 z3 := Tryz.sizeOf3
 v3 := Tryz.zeroValue3
 t4 := Tryz.underlying4
 a4 := Tryz.isAgg4
 z4 := Tryz.sizeOf4
 v4 := Tryz.zeroValue4
 t5 := Tryz.underlying5
 a5 := Tryz.isAgg5
 z5 := Tryz.sizeOf5
 v5 := Tryz.zeroValue5
 t9 := Tryz.underlying9
 a9 := Tryz.isAgg9
 z9 := Tryz.sizeOf9
 v9 := Tryz.zeroValue9
 t46 := Tryz.underlying34
 a46 := Tryz.isAgg34
 z46 := Tryz.sizeOf34
 v46 := Tryz.zeroValue34
 t53 := Tryz.underlying36
 a53 := Tryz.isAgg36
 z53 := Tryz.sizeOf36
 v53 := Tryz.zeroValue36 }
theorem Tryz.bits_LeadingZeros64 (x : Int) (w : World) (h0 : 0 ≤ x) (h1 : x ≤ 18446744073709551615) :
  Calls Tryz.prog 131 #[.int .u64 x] w fun e w' => e = .returned (.int .i64 (64 - (Lib.bitLen x.toNat : Int))) ∧ w' = w := Any.bits_LeadingZeros64 Tryz.lays134 x w h0 h1
def Tryz.lays215_ren : Go.Shelf.Ren := ⟨fun | 215 => 160 | n => n, fun | 3 => 3 | 4 => 4 | n => n, fun | n => n⟩
theorem Tryz.lays215 : Go.Proofs.Lays.n215 Tryz.prog Tryz.lays215_ren := {
 mixed := by kernel_rfl
 f215 := Tryz.func160.trans (congrArg some (by kernel_rfl))
 t3 := Tryz.underlying3
 a3 := Tryz.isAgg3
 z3 := Tryz.sizeOf3
 v3 := Tryz.zeroValue3
 t4 := Tryz.underlying4
 a4 := Tryz.isAgg4
 z4 := Tryz.sizeOf4
 v4 := Tryz.zeroValue4 }
open Go.RowKit in
theorem Tryz.cmp_isNaN_int (x : Int) (w : World) :
  Calls Tryz.prog 160 #[.int .i64 x] w fun e w' => e = .returned (.bool false) ∧ w' = w := Any.cmp_isNaN_int Tryz.lays215 x w
def Tryz.lays129_ren : Go.Shelf.Ren := ⟨fun | 129 => 140 | n => n, fun | 53 => 36 | 3 => 3 | 4 => 4 | 46 => 34 | 5 => 5 | 9 => 9 | n => n, fun | n => n⟩
theorem Tryz.lays129 : Go.Proofs.Lays.n129 Tryz.prog Tryz.lays129_ren := {
 mixed := by kernel_rfl
 f129 := Tryz.func140.trans (congrArg some (by kernel_rfl))
 t3 := Tryz.underlying3
 a3 := Tryz.isAgg3
 z3 := Tryz.sizeOf3
 v3 := Tryz.zeroValue3
 t4 := Tryz.underlying4
 a4 := Tryz.isAgg4
 z4 := Tryz.sizeOf4
 v4 := Tryz.zeroValue4
 t5 := Tryz.underlying5
 a5 := Tryz.isAgg5
 z5 := Tryz.sizeOf5
 v5 := Tryz.zeroValue5
 t9 := Tryz.underlying9
 a9 := Tryz.isAgg9
 z9 := Tryz.sizeOf9
 v9 := Tryz.zeroValue9
 t46 := Tryz.underlying34
 a46 := Tryz.isAgg34
 z46 := Tryz.sizeOf34
 v46 := Tryz.zeroValue34
 t53 := Tryz.underlying36
 a53 := Tryz.isAgg36
 z53 := Tryz.sizeOf36
 v53 := Tryz.zeroValue36 }
theorem Tryz.bits_Len64 (x : Int) (w : World) (h0 : 0 ≤ x) (h1 : x ≤ 18446744073709551615) :
  Calls Tryz.prog 140 #[.int .u64 x] w fun e w' => e = .returned (.int .i64 (Lib.bitLen x.toNat)) ∧ w' = w := Any.bits_Len64 Tryz.lays129 x w h0 h1
def Tryz.lays189_ren : Go.Shelf.Ren := ⟨fun | 189 => 126 | 125 => 136 | 257 => 135 | 128 => 150 | 129 => 140 | 294 => 141 | 295 => 142 | 296 => 143 | 297 => 144 | 298 => 145 | 299 => 146 | 216 => 147 | 300 => 148 | 301 => 149 | 328 => 155 | 329 => 156 | 330 => 157 | 331 => 158 | 332 => 159 | 215 => 160 | 343 => 163 | n => n, fun | 28 => 77 | 3 => 3 | 46 => 34 | 0 => 0 | 51 => 45 | 53 => 36 | 4 => 4 | 183 => 200 | 182 => 199 | 131 => 205 | 5 => 5 | 9 => 9 | 218 => 210 | 222 => 214 | 228 => 218 | 229 => 74 | n => n, fun | n => n⟩
theorem Tryz.lays189 : Go.Proofs.Lays.n189 Tryz.prog Tryz.lays189_ren := {
 mixed := by kernel_rfl
 f125 := Tryz.func136.trans (congrArg some (by kernel_rfl))
 f128 := Tryz.func150.trans (congrArg some (by kernel_rfl))
 f129 := Tryz.func140.trans (congrArg some (by kernel_rfl))
 f189 := Tryz.func126.trans (congrArg some (by kernel_rfl))
 f215 := Tryz.func160.trans (congrArg some (by kernel_rfl))
 f216 := Tryz.func147.trans (congrArg some (by kernel_rfl))
 f257 := Tryz.func135.trans (congrArg some (by kernel_rfl))
 f294 := Tryz.func141.trans (congrArg some (by kernel_rfl))
 f295 := Tryz.func142.trans (congrArg some (by kernel_rfl))
 f296 := Tryz.func143.trans (congrArg some (by kernel_rfl))
 f297 := Tryz.func144.trans (congrArg some (by kernel_rfl))
 f298 := Tryz.func145.trans (congrArg some (by kernel_rfl))
 f299 := Tryz.func146.trans (congrArg some (by kernel_rfl))
 f300 := Tryz.func148.trans (congrArg some (by kernel_rfl))
 f301 := Tryz.func149.trans (congrArg some (by kernel_rfl))
 f328 := Tryz.func155.trans (congrArg some (by kernel_rfl))
 f329 := Tryz.func156.trans (congrArg some (by kernel_rfl))
 f330 := Tryz.func157.trans (congrArg some (by kernel_rfl))
 f331 := Tryz.func158.trans (congrArg some (by kernel_rfl))
 f332 := Tryz.func159.trans (congrArg some (by kernel_rfl))
 f343 := Tryz.func163.trans (congrArg some (by kernel_rfl))
 t0 := Tryz.underlying0
 a0 := Tryz.isAgg0
 z0 := Tryz.sizeOf0
 v0 := Tryz.zeroValue0
 t3 := Tryz.underlying3
 a3 := Tryz.isAgg3
 z3 := Tryz.sizeOf3
 v3 := Tryz.zeroValue3
 t4 := Tryz.underlying4
 a4 := Tryz.isAgg4
 z4 := Tryz.sizeOf4
 v4 := Tryz.zeroValue4
 t5 := Tryz.underlying5
 a5 := Tryz.isAgg5
 z5 := Tryz.sizeOf5
 v5 := Tryz.zeroValue5
 t9 := Tryz.underlying9
 a9 := Tryz.isAgg9
 z9 := Tryz.sizeOf9
 v9 := Tryz.zeroValue9
 t28 := Tryz.underlying77
 a28 := Tryz.isAgg77
 z28 := Tryz.sizeOf77
 v28 := Tryz.zeroValue77
 t46 := Tryz.underlying34
 a46 := Tryz.isAgg34
 z46 := Tryz.sizeOf34
 v46 := Tryz.zeroValue34
 t51 := Tryz.underlying45
 a51 := Tryz.isAgg45
 z51 := Tryz.sizeOf45
 v51 := Tryz.zeroValue45
 t53 := Tryz.underlying36
 a53 := Tryz.isAgg36
 z53 := Tryz.sizeOf36
 v53 := Tryz.zeroValue36
 t131 := Tryz.underlying205
 a131 := Tryz.isAgg205
 z131 := Tryz.sizeOf205
 v131 := Tryz.zeroValue205
 t182 := Tryz.underlying199
 a182 := Tryz.isAgg199
 z182 := Tryz.sizeOf199
 v182 := Tryz.zeroValue199
 t183 := Tryz.underlying200
 a183 := Tryz.isAgg200
 z183 := Tryz.sizeOf200
 v183 := Tryz.zeroValue200
 t218 := Tryz.underlying210
 a218 := Tryz.isAgg210
 z218 := Tryz.sizeOf210
 v218 := Tryz.zeroValue210
 t222 := Tryz.underlying214
 a222 := Tryz.isAgg214
 z222 := Tryz.sizeOf214
 v222 := Tryz.zeroValue214
 t228 := Tryz.underlying218
 a228 := Tryz.isAgg218
 z228 := Tryz.sizeOf218
 v228 := Tryz.zeroValue218
 t229 := Tryz.underlying74
 a229 := Tryz.isAgg74
 z229 := Tryz.sizeOf74
 v229 := Tryz.zeroValue74 }
open Go.Sort Go.RowKit in
theorem Tryz.slices_Sort_int (blk off cap : Nat) (zs : List Int) (w : World) (hH : Holds (Value.int .i64) w blk off zs.toArray) (hblk : blk < w.heap.size) (hsz : zs.length < 4611686018427387904) :
  Calls Tryz.prog 126 #[.slice (some ⟨blk, off, none⟩) zs.length cap] w fun e w' =>
   e = .returned (.tuple #[]) ∧ ∃ n os, w' = grow (putRow (Value.int .i64) (Sort.ahead w n) blk off (zs.mergeSort fun x y => decide (x ≤ y)).toArray) os := Any.slices_Sort_int Tryz.lays189 blk off cap zs w hH hblk hsz
def Tryz.lays264_ren : Go.Shelf.Ren := ⟨fun | 264 => 124 | n => n, fun | 53 => 36 | 46 => 34 | n => n, fun | n => n⟩
theorem Tryz.lays264 : Go.Proofs.Lays.n264 Tryz.prog Tryz.lays264_ren := {
 mixed := by kernel_rfl
 f264 := Tryz.func124.trans (congrArg some (by kernel_rfl))
 t46 := Tryz.underlying34
 a46 := Tryz.isAgg34
 z46 := Tryz.sizeOf34
 v46 := Tryz.zeroValue34
 t53 := Tryz.underlying36
 a53 := Tryz.isAgg36
 z53 := Tryz.sizeOf36
 v53 := Tryz.zeroValue36 }
open Go.RowKit Go.Lib in
theorem Tryz.bits_Mul64 (x y : Nat) (hx : x < 18446744073709551616) (hy : y < 18446744073709551616) (w : World) :
  Calls Tryz.prog 124 #[.int .u64 x, .int .u64 y] w fun e w' => e = .returned (.tuple #[.int .u64 ((x * y / 18446744073709551616 : Nat) : Int), .int .u64 ((x * y % 18446744073709551616 : Nat) : Int)]) ∧ w' = w := Any.bits_Mul64 Tryz.lays264 x y hx hy w
def Tryz.laysNm237_ren : Go.Shelf.Ren := ⟨fun | 37 => 160 | n => n, fun | 3 => 3 | 4 => 4 | n => n, fun | n => n⟩
theorem Tryz.laysNm237 : Go.Proofs.Lays2.n37 Tryz.prog Tryz.laysNm237_ren := {
 mixed := by kernel_rfl
 f37 := Tryz.func160.trans (congrArg some (by kernel_rfl))
 t3 := Tryz.underlying3
 a3 := Tryz.isAgg3
 z3 := Tryz.sizeOf3
 v3 := Tryz.zeroValue3
 t4 := Tryz.underlying4
 a4 := Tryz.isAgg4
 z4 := Tryz.sizeOf4
 v4 := Tryz.zeroValue4 }
open Go.RowKit Go.Lib in
theorem Tryz.cmp_isNaN_int2 (x : Int) (w : World) :
  Calls Tryz.prog 160 #[.int .i64 x] w fun e w' => e = .returned (.bool false) ∧ w' = w := Any.cmp_isNaN_int2 Tryz.laysNm237 x w
def Tryz.laysNm231_ren : Go.Shelf.Ren := ⟨fun | 31 => 147 | 37 => 160 | n => n, fun | 3 => 3 | 4 => 4 | n => n, fun | n => n⟩
theorem Tryz.laysNm231 : Go.Proofs.Lays2.n31 Tryz.prog Tryz.laysNm231_ren := {
 mixed := by kernel_rfl
 f31 := Tryz.func147.trans (congrArg some (by kernel_rfl))
 f37 := Tryz.func160.trans (congrArg some (by kernel_rfl))
 t3 := Tryz.underlying3
 a3 := Tryz.isAgg3
 z3 := Tryz.sizeOf3
 v3 := Tryz.zeroValue3
 t4 := Tryz.underlying4
 a4 := Tryz.isAgg4
 z4 := Tryz.sizeOf4
 v4 := Tryz.zeroValue4 }
open Go.RowKit Go.Lib in
theorem Tryz.cmp_Less_int2 (x y : Int) (w : World) :
  Calls Tryz.prog 147 #[.int .i64 x, .int .i64 y] w fun e w' => e = .returned (.bool (decide (x < y))) ∧ w' = w := Any.cmp_Less_int2 Tryz.laysNm231 x y w
open Go.RowKit Go.Sort in
theorem Tryz.slices_Sort_int_none (p : Option Addr) (cap : Nat) (w : World) :
  Calls Tryz.prog 126 #[.slice p 0 cap] w fun e w' => e = .returned (.tuple #[]) ∧ w' = w := Any.slices_Sort_int_none Tryz.lays189 p cap w
end Go.Proofs
