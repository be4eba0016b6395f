/- Several texts in one: LawA. -/
import Derived.Test.YtkjnjooggicgiaaJ37
import Derived.Test.YtkjnjooggicgiaaJ24

/- The statements' own small functions: of, same, gives. -/
namespace Go.Proofs.Ytkjnjooggicgiaa
open Go.RowKit Go.Shelf
set_option linter.unusedSimpArgs false

theorem equal_any (A1 : Option Addr) (n1 c1 : Nat) (xs : List Int) (A2 : Option Addr) (n2 c2 : Nat) (ys : List Int) (w : World) (h1 : Sl w .i64 A1 n1 xs) (h2 : Sl w .i64 A2 n2 ys) (hn1 : n1 ≤ 17000000000000) (hn2 : n2 ≤ 17000000000000) :
    Calls Try.prog 12 #[.slice A1 n1 c1, .slice A2 n2 c2] w (fun e w' => e = .returned (.bool (xs == ys)) ∧ Lat w w') := by
  have l1 := h1.1
  have l2 := h2.1
  by_cases hne : n1 = n2
  · rcases Nat.eq_zero_or_pos n1 with h0 | h0
    · have hx : xs = [] := List.eq_nil_of_length_eq_zero (by omega)
      have hy : ys = [] := List.eq_nil_of_length_eq_zero (by omega)
      subst hx hy
      have : n1 = 0 := h0
      subst this
      refine (Try.slices_Equal_int_empty A1 A2 c1 n2 c2 w (by omega)).mono ?_
      rintro e w' ⟨rfl, rfl⟩
      refine ⟨?_, Lat.refl _⟩
      have : n2 = 0 := by omega
      subst this
      rfl
    · obtain ⟨b1, o1, rfl, q1⟩ := h1.plain h0
      obtain ⟨b2, o2, rfl, q2⟩ := h2.plain (by omega)
      refine (Try.slices_Equal_int b1 o1 n1 c1 b2 o2 n2 c2 xs ys w (by omega) (by omega) (by omega) (by omega) q1 q2).mono ?_
      rintro e w' ⟨rfl, q, rfl⟩
      rw [List.take_of_length_le (by omega), List.take_of_length_le (by omega)]
      exact ⟨rfl, Lat.drewN _ _⟩
  · refine (Try.slices_Equal_int_lens A1 A2 n1 c1 n2 c2 w hne).mono ?_
    rintro e w' ⟨rfl, rfl⟩
    refine ⟨?_, Lat.refl _⟩
    have : (xs == ys) = false := by
      rw [beq_eq_false_iff_ne]
      intro e
      rw [e] at l1
      omega
    rw [this]

/-- Two awards are the same. -/
def sameB (S1 T1 : List Int) (o1 : Int) (S2 T2 : List Int) (o2 : Int) : Bool := (o1 == o2) && ((S1 == S2) && (T1 == T2))

set_option maxRecDepth 100000 in
set_option maxHeartbeats 2000000 in
theorem same_any (A1 : Option Addr) (n1 c1 : Nat) (S1 : List Int) (A2 : Option Addr) (n2 c2 : Nat) (T1 : List Int) (o1 : Int) (A3 : Option Addr) (n3 c3 : Nat) (S2 : List Int) (A4 : Option Addr) (n4 c4 : Nat) (T2 : List Int) (o2 : Int) (w : World)
    (h1 : Sl w .i64 A1 n1 S1) (h2 : Sl w .i64 A2 n2 T1) (h3 : Sl w .i64 A3 n3 S2) (h4 : Sl w .i64 A4 n4 T2) (b1 : n1 ≤ 17000000000000) (b2 : n2 ≤ 17000000000000) (b3 : n3 ≤ 17000000000000) (b4 : n4 ≤ 17000000000000) :
    Calls Try.prog 21 #[.agg #[.slice A1 n1 c1, .slice A2 n2 c2, .int .i64 o1], .agg #[.slice A3 n3 c3, .slice A4 n4 c4, .int .i64 o2]] w (fun e w' => e = .returned (.bool (sameB S1 T1 o1 S2 T2 o2)) ∧ Lat w w') := by
  cases ho : (o1 == o2) with
  | false =>
    have HS : Hid (sameB S1 T1 o1 S2 T2 o2 = false) := by show _ = _; simp [sameB, ho]
    go_enter Try.func21, Try.ntmps21
    go_upto_region 1 with (fail)
    refine name2 (Q := fun W => Code.wp _ _ _ _ W) ?_
    intro W hl hs k1 k2
    have c1_0 := k1.cell 0
    have c1_1 := k1.cell 1
    have c1_2 := k1.cell 2
    have c2_0 := k2.cell 0
    have c2_1 := k2.cell 1
    have c2_2 := k2.cell 2
    go_wp2
    go_ret
    exact ⟨by rw [HS.out]; rfl, hl⟩
  | true =>
    have HQ := fun w h1 h3 => equal_any A1 n1 c1 S1 A3 n3 c3 S2 w h1 h3 b1 b3
    have HQ2 := fun w h1 h3 => equal_any A2 n2 c2 T1 A4 n4 c4 T2 w h1 h3 b2 b4
    cases hs : (S1 == S2) with
    | false =>
      have HS : Hid (sameB S1 T1 o1 S2 T2 o2 = false) := by show _ = _; simp [sameB, hs]
      have HX := Lib.hid hs
      clear hs
      go_enter Try.func21, Try.ntmps21
      go_upto_region 1 with (fail)
      refine name2 (Q := fun W => Code.wp _ _ _ _ W) ?_
      intro W hl hs k1 k2
      have c1_0 := k1.cell 0
      have c1_1 := k1.cell 1
      have c1_2 := k1.cell 2
      have c2_0 := k2.cell 0
      have c2_1 := k2.cell 1
      have c2_2 := k2.cell 2
      go_wp2_with fail
      refine (HQ W (h1.later hl) (h3.later hl)).mono ?_
      rintro e w1 ⟨rfl, l1⟩
      rw [HX.out]
      clear c1_0 c1_1 c1_2 c2_0 c2_1 c2_2
      go_wp2
      go_ret
      exact ⟨by rw [HS.out]; rfl, hl.trans l1⟩
    | true =>
      have HS : Hid (sameB S1 T1 o1 S2 T2 o2 = (T1 == T2)) := by show _ = _; simp [sameB, hs, ho]
      have HX := Lib.hid hs
      obtain ⟨tb, htb⟩ : ∃ tb, (T1 == T2) = tb := ⟨_, rfl⟩
      rw [htb] at HS HQ2
      clear hs htb
      go_enter Try.func21, Try.ntmps21
      go_upto_region 1 with (fail)
      refine name2 (Q := fun W => Code.wp _ _ _ _ W) ?_
      intro W hl hs k1 k2
      have c1_0 := k1.cell 0
      have c1_1 := k1.cell 1
      have c1_2 := k1.cell 2
      have c2_0 := k2.cell 0
      have c2_1 := k2.cell 1
      have c2_2 := k2.cell 2
      go_wp2_with fail
      refine (HQ W (h1.later hl) (h3.later hl)).mono ?_
      rintro e w1 ⟨rfl, l1⟩
      rw [HX.out]
      clear c1_0 c1_1 c1_2 c2_0 c2_1 c2_2
      have K1 := k1.later l1
      have K2 := k2.later l1
      have c1_0 := K1.cell 0
      have c1_1 := K1.cell 1
      have c1_2 := K1.cell 2
      have c2_0 := K2.cell 0
      have c2_1 := K2.cell 1
      have c2_2 := K2.cell 2
      go_wp2_with fail
      refine (HQ2 w1 (h2.later (hl.trans l1)) (h4.later (hl.trans l1))).mono ?_
      rintro e w2 ⟨rfl, l2⟩
      clear c1_0 c1_1 c1_2 c2_0 c2_1 c2_2
      cases tb
      all_goals
        go_wp2
        go_ret
        exact ⟨by rw [HS.out]; rfl, (hl.trans l1).trans l2⟩

set_option maxRecDepth 100000 in
set_option maxHeartbeats 2000000 in
theorem gives_any (A : Option Addr) (n c : Nat) (P : List Int) (Al : Option Addr) (nl cl : Nat) (Lx : List Int) (seats m : Int) (A3 : Option Addr) (n3 c3 : Nat) (S2 : List Int) (A4 : Option Addr) (n4 c4 : Nat) (T2 : List Int) (o2 : Int) (w : World)
    (hs : Sl w .i64 A n P) (hl : Sl w .i64 Al nl Lx) (hn : n ≤ 17000000000000) (hnl : nl ≤ 17000000000000) (h3 : Sl w .i64 A3 n3 S2) (h4 : Sl w .i64 A4 n4 T2) (b3 : n3 ≤ 17000000000000) (b4 : n4 ≤ 17000000000000)
    (he : giveE P seats m Lx = 0) (hb1 : (giveF P seats m Lx).seats.length ≤ 17000000000000) (hb2 : (giveF P seats m Lx).tied.length ≤ 17000000000000) :
    Calls Try.prog 11 #[.slice A n c, .int .i64 seats, .int .i64 m, .slice Al nl cl, .agg #[.slice A3 n3 c3, .slice A4 n4 c4, .int .i64 o2]] w
      (fun e w' => e = .returned (.bool (sameB (giveF P seats m Lx).seats (ints (giveF P seats m Lx).tied) (giveF P seats m Lx).left S2 T2 o2)) ∧ Lat w w') := by
  have HR := fun w (h1 : Sl w .i64 A n P) (h2 : Sl w .i64 Al nl Lx) => dGive_any A n c P Al nl cl Lx seats m w h1 h2 hn hnl
  obtain ⟨F, hF⟩ : ∃ F, giveF P seats m Lx = F := ⟨_, rfl⟩
  rw [he, hF] at HR
  rw [hF] at hb1 hb2 ⊢
  clear he hF
  obtain ⟨sb, hsb⟩ : ∃ sb, sameB F.seats (ints F.tied) F.left S2 T2 o2 = sb := ⟨_, rfl⟩
  rw [hsb]
  have HSB := Lib.hid hsb
  clear hsb
  go_enter Try.func11, Try.ntmps11
  go_wp2_with fail
  refine name1 (Q := fun W => Calls _ _ _ W _) ?_
  intro W hlW hs2 k1
  refine (HR W (hs.later hlW) (hl.later hlW)).mono ?_
  rintro e w1 ⟨A1, n1, c1, A2, n2, c2, rfl, q1, q2, l1⟩
  have K1 := k1.later l1
  have L := hlW.trans l1
  go_upto_region 2 with (fail)
  refine name1 (Q := fun W => Code.wp _ _ _ _ W) ?_
  intro w2 l2 hs3 k2
  have K1 := K1.later l2
  have c1_0 := K1.cell 0
  have c1_1 := K1.cell 1
  have c1_2 := K1.cell 2
  have c2_0 := k2.cell 0
  have c2_1 := k2.cell 1
  have c2_2 := k2.cell 2
  have e1 := q1.1
  have e2 := q2.1
  have e2' : n2 ≤ 17000000000000 := by rw [← e2]; simp only [ints, List.length_map]; exact hb2
  have HQ := same_any A1 n1 c1 F.seats A2 n2 c2 (ints F.tied) F.left A3 n3 c3 S2 A4 n4 c4 T2 o2 w2 (q1.later l2) (q2.later l2) (h3.later (L.trans l2)) (h4.later (L.trans l2)) (by omega) e2' b3 b4
  rw [HSB.out] at HQ
  clear e1 e2 q1 q2 HR e2' hb1 hb2
  go_wp2_with fail
  refine HQ.mono ?_
  rintro e w3 ⟨rfl, l3⟩
  clear c1_0 c1_1 c1_2 c2_0 c2_1 c2_2 HQ
  cases sb
  all_goals
    go_wp2
    go_ret
    exact ⟨rfl, (L.trans l2).trans l3⟩
end Go.Proofs.Ytkjnjooggicgiaa
