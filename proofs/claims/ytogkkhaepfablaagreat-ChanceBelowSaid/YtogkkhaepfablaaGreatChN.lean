
/- wide: Sign and Cmp; chance: length. -/
import Derived.Test.YtogkkhaepfablaaGreatChJ
import Derived.Test.YtogkkhaepfablaaGreatChW
import Derived.RangeFuncGives
import Derived.LoopNIn
import Derived.LoopIn
import Derived.TacticsInMore
import Derived.WalkMore
namespace Go.Proofs.YtogkkhaepfablaaGreat
open Go.RowKit
set_option linter.unusedSimpArgs false

theorem field_num0 (b : Bool) (u : W8) (W : World) : (Instr.field 106 (.agg #[.bool b, .int .u64 u.a0, .int .u64 u.a1, .int .u64 u.a2, .int .u64 u.a3, .int .u64 u.a4, .int .u64 u.a5, .int .u64 u.a6, .int .u64 u.a7]) 0).run Tryz.prog W = .ok (.bool b) W := by kernel_rfl

set_option maxRecDepth 100000 in
set_option maxHeartbeats 1000000 in
theorem wSign_any (x : W8) (hx : x.ok) (w : World) : Calls Tryz.prog 23 #[.agg #[.int .u64 x.a0, .int .u64 x.a1, .int .u64 x.a2, .int .u64 x.a3, .int .u64 x.a4, .int .u64 x.a5, .int .u64 x.a6, .int .u64 x.a7]] w (fun e w' => e = .returned (.int .i64 (sideOf x.toInt)) ∧ Lat w w') := by
  have HR := read_any x hx
  have HF := field_num0
  have HQ : Hid (∀ w, (binOp .eql 26 (.agg #[.int .u64 x.a0, .int .u64 x.a1, .int .u64 x.a2, .int .u64 x.a3, .int .u64 x.a4, .int .u64 x.a5, .int .u64 x.a6, .int .u64 x.a7]) (.agg #[.int .u64 W8.zero.a0, .int .u64 W8.zero.a1, .int .u64 W8.zero.a2, .int .u64 W8.zero.a3, .int .u64 W8.zero.a4, .int .u64 W8.zero.a5, .int .u64 W8.zero.a6, .int .u64 W8.zero.a7])).run Tryz.prog w = .ok (.bool (decide (x.toInt = 0))) w) := by
    intro w
    have h := wide_eq hx W8.zero_ok w
    have e : decide (x.mag = W8.zero.mag) = decide (x.toInt = 0) := by
      have hz : W8.zero.mag = 0 := by decide
      have h0 : W8.zero.toInt = 0 := by decide
      rw [hz]
      apply Bool.eq_iff_iff.2
      rw [decide_eq_true_eq, decide_eq_true_eq]
      constructor
      · intro h
        have : x = W8.zero := W8.mag_inj hx W8.zero_ok (by rw [h, hz])
        rw [this, h0]
      · intro h
        have : x = W8.zero := W8.toInt_inj hx W8.zero_ok (by rw [h, h0])
        rw [this, hz]
    rw [e] at h
    exact h
  obtain ⟨z, hz⟩ : ∃ z, x.toInt = z := ⟨_, rfl⟩
  rw [hz] at HR HQ ⊢
  clear hz hx
  go_enter Tryz.func23, Tryz.ntmps23
  go_wp2_with fail
  refine name1 (Q := fun W => Calls _ _ _ W _) ?_
  intro W hl hs k1
  refine (HR W).mono ?_
  rintro e w1 ⟨b, u, rfl, hu, hzu, hn, l1⟩
  have K := k1.later l1
  have L1 := hl.trans l1
  have HM := Lib.hid (W8.mag_bounds hu)
  have HZ := Lib.hid hzu
  have HN := Lib.hid hn
  clear k1 hl l1 hu hzu hn HR hs
  have d0 := K.cell 0
  have d1 := K.cell 1
  have d2 := K.cell 2
  have d3 := K.cell 3
  have d4 := K.cell 4
  have d5 := K.cell 5
  have d6 := K.cell 6
  have d7 := K.cell 7
  have d8 := K.lt
  cases b with
  | true =>
    have hs : Hid (sideOf z = -1) := by
      have h1 := HZ.out
      have h2 := HM.out
      have h3 := HN.out rfl
      simp only [sgn, if_true] at h1
      show sideOf z = -1
      rw [sideOf, if_pos (by omega)]
    clear HZ HM HN
    go_wp2
    go_ret
    exact ⟨by show Ending.returned (.int .i64 (-1)) = _; rw [hs.out], L1⟩
  | false =>
    have h1 := HZ.out
    have h2 := HM.out
    simp only [sgn, Bool.false_eq_true, if_false] at h1
    clear HZ HM HN
    by_cases h0 : z = 0
    · have hd : decide (z = 0) = true := decide_eq_true h0
      rw [hd] at HQ
      have hs : Hid (sideOf z = 0) := by show sideOf z = 0; rw [h0]; rfl
      clear h1 h2 h0 hd
      go_wp2_with (refine wpList_bin rfl .eql 26 26 (.tmp 8) (.tmp 9) (by rfl) #[.int .u64 x.a0, .int .u64 x.a1, .int .u64 x.a2, .int .u64 x.a3, .int .u64 x.a4, .int .u64 x.a5, .int .u64 x.a6, .int .u64 x.a7] #[.int .u64 W8.zero.a0, .int .u64 W8.zero.a1, .int .u64 W8.zero.a2, .int .u64 W8.zero.a3, .int .u64 W8.zero.a4, .int .u64 W8.zero.a5, .int .u64 W8.zero.a6, .int .u64 W8.zero.a7] _ (by rfl) (by rfl) (by kernel_rfl) (HQ.out _) ?_)
      go_ret
      exact ⟨by show Ending.returned (.int .i64 0) = _; rw [hs.out], L1⟩
    · have hd : decide (z = 0) = false := decide_eq_false h0
      rw [hd] at HQ
      have hs : Hid (sideOf z = 1) := by show sideOf z = 1; rw [sideOf, if_neg (by omega), if_neg h0]
      clear h1 h2 h0 hd
      go_wp2_with (refine wpList_bin rfl .eql 26 26 (.tmp 8) (.tmp 9) (by rfl) #[.int .u64 x.a0, .int .u64 x.a1, .int .u64 x.a2, .int .u64 x.a3, .int .u64 x.a4, .int .u64 x.a5, .int .u64 x.a6, .int .u64 x.a7] #[.int .u64 W8.zero.a0, .int .u64 W8.zero.a1, .int .u64 W8.zero.a2, .int .u64 W8.zero.a3, .int .u64 W8.zero.a4, .int .u64 W8.zero.a5, .int .u64 W8.zero.a6, .int .u64 W8.zero.a7] _ (by rfl) (by rfl) (by kernel_rfl) (HQ.out _) ?_)
      go_ret
      exact ⟨by show Ending.returned (.int .i64 1) = _; rw [hs.out], L1⟩

/-- With the highest digit turned round, the order of the sizes is the order of the numbers. -/
def W8.flip (x : W8) : W8 := ⟨x.a0, x.a1, x.a2, x.a3, x.a4, x.a5, x.a6, (9223372036854775808 + x.a7) % 18446744073709551616⟩
theorem flip_ok {x : W8} (h : x.ok) : x.flip.ok := by
  have h0 := h.at0
  have h1 := h.at1
  have h2 := h.at2
  have h3 := h.at3
  have h4 := h.at4
  have h5 := h.at5
  have h6 := h.at6
  intro y hy
  simp only [W8.flip, W8.list, List.mem_cons, List.not_mem_nil, or_false] at hy
  rcases hy with rfl | rfl | rfl | rfl | rfl | rfl | rfl | rfl <;> first | assumption | (unfold W64; omega)
theorem flip_mag {x : W8} (h : x.ok) : x.flip.mag = x.toInt + P511 := by
  have h7 := h.at7
  have e1 := W8.mag_eq x
  have e2 := W8.mag_eq x.flip
  have c1 : x.flip.a0 = x.a0 := rfl
  have c2 : x.flip.a1 = x.a1 := rfl
  have c3 : x.flip.a2 = x.a2 := rfl
  have c4 : x.flip.a3 = x.a3 := rfl
  have c5 : x.flip.a4 = x.a4 := rfl
  have c6 : x.flip.a5 = x.a5 := rfl
  have c7 : x.flip.a6 = x.a6 := rfl
  have c8 : x.flip.a7 = (9223372036854775808 + x.a7) % 18446744073709551616 := rfl
  rw [c1, c2, c3, c4, c5, c6, c7, c8] at e2
  unfold W8.toInt
  unfold W64 at h7 e1 e2
  unfold P512 P511
  split
  · omega
  · omega
theorem flip_bits {a : Int} (h : 0 ≤ a ∧ a < W64) : bits .xor .u64 a 9223372036854775808 = (9223372036854775808 + a) % 18446744073709551616 := by
  obtain ⟨n, rfl⟩ := Int.eq_ofNat_of_zero_le h.1
  unfold W64 at h
  have hn : n < 18446744073709551616 := by omega
  have := bits_xor_u64_nat n 9223372036854775808 hn (by decide)
  rw [show ((9223372036854775808 : Nat) : Int) = 9223372036854775808 from rfl] at this
  rw [this]
  have e := xor63 (a := n) hn
  have e2 : n ^^^ 9223372036854775808 = (9223372036854775808 + n) % 18446744073709551616 := e
  rw [e2]
  omega

set_option maxRecDepth 100000 in
set_option maxHeartbeats 1000000 in
theorem wCmp_any (x y : W8) (hx : x.ok) (hy : y.ok) (w : World) : Calls Tryz.prog 24 #[.agg #[.int .u64 x.a0, .int .u64 x.a1, .int .u64 x.a2, .int .u64 x.a3, .int .u64 x.a4, .int .u64 x.a5, .int .u64 x.a6, .int .u64 x.a7], .agg #[.int .u64 y.a0, .int .u64 y.a1, .int .u64 y.a2, .int .u64 y.a3, .int .u64 y.a4, .int .u64 y.a5, .int .u64 y.a6, .int .u64 y.a7]] w (fun e w' => e = .returned (.int .i64 (sideOf (x.toInt - y.toInt))) ∧ Lat w w') := by
  have HC := sizeOrder_any x.flip y.flip (flip_ok hx) (flip_ok hy)
  have hz : x.flip.mag - y.flip.mag = x.toInt - y.toInt := by rw [flip_mag hx, flip_mag hy]; omega
  rw [hz] at HC
  obtain ⟨z, hz⟩ : ∃ z, sideOf (x.toInt - y.toInt) = z := ⟨_, rfl⟩
  rw [hz] at HC ⊢
  have f1 := flip_bits hx.at7
  have f2 := flip_bits hy.at7
  unfold W8.flip at HC
  obtain ⟨p, hp⟩ : ∃ p, (9223372036854775808 + x.a7) % 18446744073709551616 = p := ⟨_, rfl⟩
  obtain ⟨q, hq⟩ : ∃ q, (9223372036854775808 + y.a7) % 18446744073709551616 = q := ⟨_, rfl⟩
  rw [hp] at f1 HC
  rw [hq] at f2 HC
  clear hz hx hy hp hq
  go_enter Tryz.func24, Tryz.ntmps24
  go_wp2_with fail
  refine name2 (Q := fun W => Calls _ _ _ W _) ?_
  intro W hl hs k1 k2
  refine (HC W).mono ?_
  rintro e w1 ⟨rfl, l1⟩
  have L1 := hl.trans l1
  clear k1 k2 hl l1 HC hs
  go_wp2
  go_ret
  exact ⟨rfl, L1⟩

set_option maxRecDepth 100000 in
set_option maxHeartbeats 1000000 in
theorem chLen_any (x : W8) (hx : x.ok) (w : World) : Calls Tryz.prog 74 #[.agg #[.int .u64 x.a0, .int .u64 x.a1, .int .u64 x.a2, .int .u64 x.a3, .int .u64 x.a4, .int .u64 x.a5, .int .u64 x.a6, .int .u64 x.a7]] w (fun e w' => e = .returned (.int .i64 (blen x.mag : Nat)) ∧ Lat w w') := by
  have HLX := Lib.hid (show x.list.length = 8 from rfl)
  have HX := Lib.hid hx
  go_enter Tryz.func74, Tryz.ntmps74
  go_wp2
  refine name1 (Q := fun W => Code.wp _ _ _ _ W) ?_
  intro W hl hs k1
  have K1 : Blk W w.heap.size 26 (nums .u64 x.list) := k1
  clear k1
  go_step3
  go_wp2
  go_step3
  go_wp2
  go_loopw [3, 4] (fun o i wr => ∃ k : Nat, k ≤ 8 ∧ o = .int .i64 0 ∧ i = .int .i64 ((k : Int) - 1) ∧ Lat W wr ∧ Hid (x.list.drop k = List.replicate (8 - k) 0)) (fun _ i _ => (intOf i + 1).toNat)
  case atStart => exact ⟨8, Nat.le_refl _, rfl, rfl, Lat.refl _, rfl⟩
  case round =>
    obtain ⟨k, hk, rfl, rfl, hlr, hd⟩ := hrel
    rcases Nat.eq_zero_or_pos k with rfl | hp
    · have he := Lib.hid (blen_end hd.out)
      go_wp2
      rw [Exit.noGoto_ret]
      go_ret
      exact ⟨by rw [he.out]; rfl, hl.trans hlr⟩
    · obtain ⟨j, rfl⟩ : ∃ j, k = j + 1 := ⟨k - 1, by omega⟩
      obtain ⟨a, hxk, hca, _⟩ := (K1.later hlr).slot (i := j) (by have := HLX.out; omega)
      have hra := HX.out.at hxk
      have b1 : (j : Int) < 8 := by omega
      have b0 : (0 : Int) ≤ (j : Int) := by omega
      have ej : (((j + 1 : Nat) : Int) - 1) = (j : Int) := by omega
      rw [ej]
      clear ej
      by_cases ha : a = 0
      · have HD := Lib.hid (blen_step (show j < 8 by omega) hd.out (by rw [hxk, ha]))
        have hne : ((a : Int) != 0) = false := by simp [ha]
        go_wp2
        exact ⟨⟨j, by omega, rfl, rfl, hlr, HD⟩, by simp [intOf]⟩
      · have HD := Lib.hid (blen_at HX.out hd.out hxk ha)
        have hne : ((a : Int) != 0) = true := by simp [ha]
        have hq := (bitsOf_facts hra).2.1
        unfold bitsOf at hq HD
        have hL : ∀ w, Calls Tryz.prog 93 #[.int .u64 a] w fun e w' => e = .returned (.int .i64 (Lib.bitLen a.toNat)) ∧ w' = w := fun w => Tryz.bits_Len64 a w hra.1 (by have := hra.2; unfold W64 at this; omega)
        obtain ⟨q, hqe⟩ : ∃ q, Lib.bitLen a.toNat = q := ⟨_, rfl⟩
        rw [hqe] at hq HD hL
        clear hqe
        go_wp2_with fail
        refine (hL _).mono ?_
        rintro e w' ⟨rfl, rfl⟩
        go_wp2
        rw [Exit.noGoto_ret]
        go_ret
        exact ⟨by rw [← HD.out, Int.natCast_add, Int.natCast_mul]; rfl, hl.trans hlr⟩
end Go.Proofs.YtogkkhaepfablaaGreat
