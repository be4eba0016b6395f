/- Several texts in one: DwF, Lw. -/
import Derived.Test.YtpmbglhbcjbkcaaGreatH19
import Derived.Test.YtpmbglhbcjbkcaaGreatH20
namespace Go.Proofs.YtpmbglhbcjbkcaaGreat
set_option maxHeartbeats 16000000
set_option maxRecDepth 100000
open Go.RowKit
def DigF (w : World) (z : Int) (N : Nat) (e : Ending) (w' : World) : Prop :=
 ∃ A n c xs, e = .returned (.slice A n c) ∧ Sl w' .i64 A n xs ∧ InR B32 xs ∧ val B32 xs = z ∧ n ≤ c ∧ n ≤ N ∧ Lat w w' ∧ ∀ a, A = some a → w.heap.size ≤ a.block
def MadeF (w : World) (A : Option Addr) (z : Int) (N : Nat) (e : Ending) (w' : World) : Prop :=
 ∃ b n c, e = .returned (.agg #[.bool b, .slice A n c]) ∧ Rg w' b A n c z ∧ n ≤ N ∧ Lat w w'
def RefF (w : World) (z : Int) (N : Nat) (e : Ending) (w' : World) : Prop :=
 ∃ b A n c, e = .returned (.agg #[.bool b, .slice A n c]) ∧ Rg w' b A n c z ∧ n ≤ N ∧ Lat w w' ∧ ∀ a, A = some a → w.heap.size ≤ a.block
theorem MadeF.close {w w2 : World} {g t : Nat} {b b0 : Bool} {A A0 : Option Addr} {n c n0 c0 N : Nat} {z : Int} (hk : Blk w2 g t #[.bool b0, .slice A0 n0 c0]) (hlg : Rg w2 b A n c z) (hL : Lat w w2) (hg : w.heap.size ≤ g) (hn : n ≤ N) :
  MadeF w A z N (.returned (.agg #[.bool b, .slice A n c])) ((w2.setCell ⟨g, 0, none⟩ (.bool b)).setCell ⟨g, 1, none⟩ (.slice A n c)) := by
 have ha := hlg.apart hk (zbM _ _ _ _)
 exact ⟨_, _, _, rfl, (hlg.far (p := ⟨g, 0, none⟩) ha _).far (p := ⟨g, 1, none⟩) ha _, hn, (hL.setCell (p := ⟨g, 0, none⟩) hg _).setCell (p := ⟨g, 1, none⟩) hg _⟩
theorem RefF.of {w w' : World} {b : Bool} {A : Option Addr} {n c N : Nat} {z : Int} (h : RefPost w z N (.returned (.agg #[.bool b, .slice A n c])) w') (hf : ∀ a, A = some a → w.heap.size ≤ a.block) : RefF w z N (.returned (.agg #[.bool b, .slice A n c])) w' := by
 obtain ⟨b', A', n', c', e, h1, h2, h3⟩ := h
 cases e
 exact ⟨_, _, _, _, rfl, h1, h2, h3, hf⟩
theorem zi6 (A1 : Option Addr) (n1 c1 : Nat) (xs : List Int) (A2 : Option Addr) (n2 c2 : Nat) (ys : List Int) (w : World) (h1 : Sl w .i64 A1 n1 xs) (h2 : Sl w .i64 A2 n2 ys) (hx : InR B32 xs) (hy : InR B32 ys)
  (hn : n1 ≤ 1000000) (hm : n2 ≤ 1000000) :
  Calls Tryz.prog 111 #[.slice A1 n1 c1, .slice A2 n2 c2] w (DigF w (val B32 xs + val B32 ys) (max n1 n2 + 1)) := by
 go_enter Tryz.func111, Tryz.ntmps111
 go_wp2
 go_loopw [5, 6, 7] (fun v bt i wr => ∃ (k : Nat) (c : Int) (os : List Int), i = .int .i64 k ∧ bt = .int .i64 c ∧ Own wr w.heap.size 3 .i64 v os ∧ MorInv B32 xs ys (max n1 n2) k c os ∧ Lat w wr) (fun _ _ i _ => max n1 n2 + 1 - (intOf i).toNat)
 case atStart => exact ⟨0, 0, [], rfl, rfl, Own.nil _ _ _ _, MorInv.start B32 xs ys _, Lat.refl _⟩
 case round =>
  obtain ⟨k, c, os, rfl, rfl, hown, hinv, hlr⟩ := hrel
  have hc0 := hinv.1.1
  have hc1 := hinv.1.2
  have hlen := Lib.hid hinv.2.1
  have hkN := hinv.2.2.2.2.1
  have hend := Lib.hid hinv.2.2.2.2.2
  have hwl := hlr.size
  have hol : os.length ≤ 1000001 := by have := hlen.out; omega
  rcases (h1.later hlr).digit hx k with ⟨hlt, a, x, rfl, hgx, rx0, rx1, hcell⟩ | ⟨hlt, hgx⟩
  ·rcases (h2.later hlr).digit hy k with ⟨hlt2, a', y, rfl, hgy, ry0, ry1, hcell2⟩ | ⟨hlt2, hgy⟩
   ·have hst := hinv.step zbH (by omega) hgx.out hgy.out ⟨rx0, rx1⟩ ⟨ry0, ry1⟩ (by omega)
    go_wp2_with (at_builtin; refine zax rfl _ _ 77 rfl w.heap.size 3 3 .i64 8 Tryz.underlying77 zaF (by decide) _ os [_] _ rfl wr (by rfl) hown 1 rfl (by decide) (by rfl) (by omega) hwl ?_; intro v' w1 hown1 hlat1)
    go_roundw
    case rel => exact ⟨k + 1, _, _, by go_num, rfl, hown1, hst, hlat1 w hlr (Nat.le_refl _)⟩
    case measure => simp [intOf]; omega
   ·have hst := hinv.step zbH (by omega) hgx.out hgy.out ⟨rx0, rx1⟩ ⟨Int.le_refl _, zak⟩ (by omega)
    rw [Int.add_zero] at hst
    go_wp2_with (at_builtin; refine zax rfl _ _ 77 rfl w.heap.size 3 3 .i64 8 Tryz.underlying77 zaF (by decide) _ os [_] _ rfl wr (by rfl) hown 1 rfl (by decide) (by rfl) (by omega) hwl ?_; intro v' w1 hown1 hlat1)
    go_roundw
    case rel => exact ⟨k + 1, _, _, by go_num, rfl, hown1, hst, hlat1 w hlr (Nat.le_refl _)⟩
    case measure => simp [intOf]; omega
  ·rcases (h2.later hlr).digit hy k with ⟨hlt2, a', y, rfl, hgy, ry0, ry1, hcell2⟩ | ⟨hlt2, hgy⟩
   ·have hst := hinv.step zbH (by omega) hgx.out hgy.out ⟨Int.le_refl _, zak⟩ ⟨ry0, ry1⟩ (by omega)
    rw [Int.add_zero] at hst
    go_wp2_with (at_builtin; refine zax rfl _ _ 77 rfl w.heap.size 3 3 .i64 8 Tryz.underlying77 zaF (by decide) _ os [_] _ rfl wr (by rfl) hown 1 rfl (by decide) (by rfl) (by omega) hwl ?_; intro v' w1 hown1 hlat1)
    go_roundw
    case rel => exact ⟨k + 1, _, _, by go_num, rfl, hown1, hst, hlat1 w hlr (Nat.le_refl _)⟩
    case measure => simp [intOf]; omega
   ·by_cases hcp : 0 < c
    ·have hkle : k ≤ max n1 n2 := by
      rcases Nat.lt_or_ge (max n1 n2) k with h | h
      ·have := hend.out (by omega); omega
      ·exact h
     have hst := hinv.step zbH hkle hgx.out hgy.out ⟨Int.le_refl _, zak⟩ ⟨Int.le_refl _, zak⟩ (fun _ => ⟨rfl, rfl⟩)
     rw [Int.add_zero, Int.add_zero] at hst
     go_wp2_with (at_builtin; refine zax rfl _ _ 77 rfl w.heap.size 3 3 .i64 8 Tryz.underlying77 zaF (by decide) _ os [_] _ rfl wr (by rfl) hown 1 rfl (by decide) (by rfl) (by omega) hwl ?_; intro v' w1 hown1 hlat1)
     go_roundw
     case rel => exact ⟨k + 1, _, _, by go_num, rfl, hown1, hst, hlat1 w hlr (Nat.le_refl _)⟩
     case measure => simp [intOf]; omega
    ·obtain rfl : c = 0 := by omega
     obtain ⟨r1, r2, r3, r4⟩ := hinv.done (by have := h1.1; omega) (by have := h2.1; omega)
     have R4 := Lib.hid r4
     have R2 := Lib.hid r2
     clear r2 r4
     obtain ⟨A3, c3, rfl, hs1, hc1', hfr⟩ := hown.form
     go_wp2
     go_ret
     exact ⟨A3, _, c3, os, rfl, hs1, r1, R4.out, hc1', by have := R2.out; omega, hlr, fun a h => (hfr a h).1⟩
theorem zea (below : Bool) (A : Option Addr) (n c : Nat) (w : World) (xs : List Int) (hs : Sl w .i64 A n xs) (hr : InR B32 xs) (hc : n ≤ c) (hn : n ≤ 3000000) :
  Calls Tryz.prog 73 #[.bool below, .slice A n c] w (MadeF w A (sgn below (val B32 xs)) n) := by
 go_enter Tryz.func73, Tryz.ntmps73
 go_wp2_with fail
 refine zas (Q := fun W => Calls _ _ _ W _) ?_
 intro W hl hsz hb
 refine (zcH A n c W xs (hs.later hl) hc hn).mono ?_
 rintro e w1 ⟨m, rfl, q1, q2, q3, q4, q5⟩
 have K := hb.later q5
 have L := hl.trans q5
 have c0 := K.cell 0
 have c1 := K.cell 1
 have f0 := K.frozen 0
 have f1 := K.frozen 1
 have hrm : InR B32 (xs.take m) := fun y hy => hr y (List.mem_of_mem_take hy)
 have hln := hs.1
 have hq1 := q1.1
 have Q3 := Lib.hid q3
 have Q2 := Lib.hid q2
 have hmn : m ≤ n := by omega
 clear q3 q2 q4
 by_cases hm : 0 < m
 ·have hd : decide ((0 : Int) < m) = true := by simp; exact hm
  have hrg : Rg w1 below A m c (sgn below (val B32 xs)) := ⟨by omega, _, q1, hrm, Q2.out, (fun _ => by intro e; rw [e] at hq1; simp at hq1; omega), by rw [Q3.out]⟩
  cases below
  all_goals
   go_wp2
   refine bodyPost_ret (v := .agg #[.bool _, .slice A m c]) (by simp [results, Tryz.results73, go_sem, c0, c1]; rfl) rfl ?_
   exact MadeF.close K hrg L (Nat.le_refl _) hmn
 ·obtain rfl : m = 0 := by omega
  have h0 : val B32 xs = 0 := by rw [← Q3.out]; simp [val]
  have hrg : Rg w1 false A 0 c (sgn below (val B32 xs)) := ⟨by omega, _, q1, hrm, Q2.out, (fun h => by cases h), by rw [← Q3.out]; cases below <;> simp [sgn, val]⟩
  clear h0
  cases below
  all_goals
   go_wp2
   refine bodyPost_ret (v := .agg #[.bool false, .slice A 0 c]) (by simp [results, Tryz.results73, go_sem, c0, c1]) rfl ?_
   exact MadeF.close K hrg L (Nat.le_refl _) (by omega)
theorem zhv (b1 : Bool) (A1 : Option Addr) (n1 c1 : Nat) (x : Int) (A2 : Option Addr) (n2 c2 : Nat) (y : Int) (w : World) (h1 : Rg w b1 A1 n1 c1 x) (h2 : Rg w b1 A2 n2 c2 y) (hn : n1 ≤ 1000000) (hm : n2 ≤ 1000000) :
  Calls Tryz.prog 72 #[.agg #[.bool b1, .slice A1 n1 c1], .agg #[.bool b1, .slice A2 n2 c2]] w (RefF w (x + y) (max n1 n2 + 1)) := by
 obtain ⟨hc1, xs, s1, r1, z1, _, v1⟩ := h1
 obtain ⟨hc2, ys, s2, r2, z2, _, v2⟩ := h2
 have V1 := Lib.hid v1
 have V2 := Lib.hid v2
 clear v1 v2
 go_enter Tryz.func72, Tryz.ntmps72
 go_wp2
 refine za0 (Q := fun W => Code.wp _ _ _ _ W) ?_
 intro W hl hs k1 k2 k3
 have a1 := k1.evS (gs := [w.heap.size + 1 + 1]) (by simp; try omega) 0 rfl
 have a2 := k1.evS (gs := [w.heap.size + 1 + 1]) (by simp; try omega) (0 + 1) rfl
 have a4 := k2.evS (gs := [w.heap.size + 1 + 1]) (by simp; try omega) (0 + 1) rfl
 have L0 := Lat.drew W
 have M0 := L0.s [w.heap.size + 1 + 1]
 go_region_held3 (fun w' => LatS W [w.heap.size + 1 + 1] w') (first | assumption | ((repeat refine LatS.set ?_ (by simp) _); assumption))
  (first
    | (go_at_call 111; refine (zi6 A1 n1 c1 xs A2 n2 c2 ys _ (s1.later (hl.trans L0)) (s2.later (hl.trans L0)) r1 r2 hn hm).mono ?_; rintro e w1 ⟨A, n, c, zs, rfl, p1, p2, p3, p4, p5, p6, p7⟩; have L1 := L0.trans p6; have M1 := L1.s [w.heap.size + 1 + 1]; have P3 := Lib.hid p3; clear p3)
    | (go_at_call 73; refine (zea b1 A n c _ zs p1 p2 p4 (by omega)).mono ?_; rintro e w2 ⟨b, m, c', rfl, q1, q2, q3⟩; have L2 := L1.trans q3; have M2 := L2.s [w.heap.size + 1 + 1]; have hk3 := k3.later L2; have c0 := hk3.cell 0; have c1' := hk3.cell 1; have f0 := hk3.frozen 0; have f1 := hk3.frozen 1))
 go_wp2
 refine bodyPost_ret (v := .agg #[.bool b, .slice A m c']) (by simp [results, Tryz.results72, go_sem, c0, c1']) rfl ?_
 have := RefPost.close hk3 q1 (hl.trans L2) (by omega) (Nat.le_trans q2 p5)
 rw [P3.out, zmT, ← V1.out, ← V2.out] at this
 exact RefF.of this (fun a h => Nat.le_trans hl.size (Nat.le_trans L0.size (p7 a h)))
theorem Sl.kept' {w W : World} {k : IntKind} {A : Option Addr} {n : Nat} {xs : List Int} (h : Sl W k A n xs) (hs : W.heap.size ≤ w.heap.size) (hk : ∀ a, A = some a → a.block < W.heap.size → w.heap[a.block]? = W.heap[a.block]?) : Sl w k A n xs := by
 refine ⟨h.1, fun hn => ?_⟩
 obtain ⟨a, e, hlt, hc⟩ := h.2 hn
 refine ⟨a, e, Nat.lt_of_lt_of_le hlt hs, fun j x hx => ?_⟩
 rw [← hc j x hx]
 exact World.cell?_of_block (by rw [block_add]; exact hk a e hlt)
theorem Rg.kept {w W : World} {b : Bool} {A : Option Addr} {n c : Nat} {z : Int} (h : Rg W b A n c z) (hs : W.heap.size ≤ w.heap.size) (hk : ∀ a, A = some a → a.block < W.heap.size → w.heap[a.block]? = W.heap[a.block]?) : Rg w b A n c z := by
 obtain ⟨hn, xs, h1, r⟩ := h
 exact ⟨hn, xs, h1.kept' hs hk, r⟩
def RefN (w : World) (z : Int) (N : Nat) (e : Ending) (w' : World) : Prop :=
 ∃ A n c, e = .returned (.agg #[.bool false, .slice A n c]) ∧ Rg w' false A n c z ∧ n ≤ N ∧ Lat w w'
theorem RefPost.nonneg {w w' : World} {z : Int} {N : Nat} {e : Ending} (h : RefPost w z N e w') (hz : 0 ≤ z) : RefN w z N e w' := by
 obtain ⟨b, A, n, c, rfl, h1, h2, h3⟩ := h
 cases b with
 | false => exact ⟨_, _, _, rfl, h1, h2, h3⟩
 | true => have := h1.neg_of; omega
def LV (z : Int) (N : Nat) (v : Value) (w : World) : Prop := ∃ b A n c, v = .agg #[.bool b, .slice A n c] ∧ Rg w b A n c z ∧ n ≤ N
section
variable {z : Int} {N B : Nat} {v : Value} {w w' : World} {e : Ending} {d : Prop}
theorem LV.mono (h : LV z N v w) (hl : Lat w w') : LV z N v w' := by
 obtain ⟨b, A, n, c, e, hr, hn⟩ := h
 exact ⟨b, A, n, c, e, hr.later hl, hn⟩
theorem RefPost.run (h : RefPost w z N e w') : ∃ v, e = .returned v ∧ (Lat w w' ∧ (d → LV z N v w')) := by
 obtain ⟨b, A, n, c, e, hr, hn, hl⟩ := h
 exact ⟨_, e, hl, fun _ => ⟨b, A, n, c, rfl, hr, hn⟩⟩
end
end Go.Proofs.YtpmbglhbcjbkcaaGreat
