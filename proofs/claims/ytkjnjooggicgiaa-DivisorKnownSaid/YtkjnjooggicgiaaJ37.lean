/- Several texts in one: DivG0, DivG, RunC, Give. -/
import Derived.Test.YtkjnjooggicgiaaJ35
import Derived.Test.YtkjnjooggicgiaaJ33

/- Divisor: ranks that are good; ranges of two numbers. -/
namespace Go.Proofs.Ytkjnjooggicgiaa
open Go.RowKit

theorem RankV.good {m p s : Int} {b : Bool} {u v : W8} (h : RankV m p s b u v) (p0 : 0 ≤ p) (p1 : p ≤ 1000000000) (s0 : 0 ≤ s) (s1 : s ≤ 1000) : u.ok ∧ v.ok ∧ ShOk u.toInt v.toInt := by
  have F1 : Fits p 1 := fits_small (by omega) (by omega) (by omega) (by omega)
  rcases h with ⟨_, _, e1⟩ | ⟨z1, _, e1⟩
  · have := e1.facts F1
    exact ⟨this.1, this.2.1, this.2.2.2.2⟩
  · have := e1.facts (rank_fits (m := m) p0 p1 s0 s1 z1)
    exact ⟨this.1, this.2.1, this.2.2.2.2⟩
theorem inAll_two (lo hi x y : Int) : inAll lo hi [x, y] = (inAll lo hi [x] && inAll lo hi [y]) := by
  simp only [inAll, List.any_cons, List.any_nil, Bool.or_false, Bool.not_or]
theorem known_two {m s t : Int} : knownB m [s, t] = decide (11 ≤ m ∧ m ≤ 15 ∧ 0 ≤ s ∧ s ≤ 1000 ∧ 0 ≤ t ∧ t ≤ 1000) := by
  rw [knownB, inAll_two, inAll_one, inAll_one, inAll_one, Bool.eq_iff_iff]
  simp
  omega
theorem two_within {lo hi p q : Int} : inAll lo hi [p, q] = decide (lo ≤ p ∧ p ≤ hi ∧ lo ≤ q ∧ q ≤ hi) := by
  rw [inAll_two, inAll_one, inAll_one, Bool.eq_iff_iff]
  simp
  omega
end Go.Proofs.Ytkjnjooggicgiaa

/- Divisor: Above. -/
namespace Go.Proofs.Ytkjnjooggicgiaa
open Go.RowKit

set_option maxRecDepth 100000 in
set_option maxHeartbeats 4000000 in
theorem dAbove_in (m p s q t : Int) (w : World) (h0 : 11 ≤ m) (h1 : m ≤ 15) (h2 : 0 ≤ s) (h3 : s ≤ 1000) (h4 : 0 ≤ t) (h5 : t ≤ 1000) (p0 : 1 ≤ p) (p1 : p ≤ 1000000000) (q0 : 1 ≤ q) (q1 : q ≤ 1000000000) :
    Calls Try.prog 7 #[.int .i64 m, .int .i64 p, .int .i64 s, .int .i64 q, .int .i64 t] w (fun e w' => e = .returned (.tuple #[.int .i64 (cmpR m p s q t), .int .i64 0]) ∧ Lat w w') := by
  have HK : Hid (knownB m [s, t]  = true) := by show _ = _; rw [known_two]; simp [h0, h1, h2, h3, h4, h5]
  have HI : Hid (inAll 1 1000000000 [p, q] = true) := by show _ = _; rw [two_within]; simp [p0, p1, q0, q1]
  have HR := fun w => (ranked_any m p s w h0 h1 h2 h3 (by omega) p1)
  have HS := fun w => (ranked_any m q t w h0 h1 h4 h5 (by omega) q1)
  have HJ : ∀ (b1 b2 : Bool) (u1 v1 u2 v2 : W8), RankV m p s b1 u1 v1 → RankV m q t b2 u2 v2 → ∀ w, Calls Try.prog 18 #[.agg #[.bool b1, .int .u64 u1.a0, .int .u64 u1.a1, .int .u64 u1.a2, .int .u64 u1.a3, .int .u64 u1.a4, .int .u64 u1.a5, .int .u64 u1.a6, .int .u64 u1.a7, .int .u64 v1.a0, .int .u64 v1.a1, .int .u64 v1.a2, .int .u64 v1.a3, .int .u64 v1.a4, .int .u64 v1.a5, .int .u64 v1.a6, .int .u64 v1.a7], .agg #[.bool b2, .int .u64 u2.a0, .int .u64 u2.a1, .int .u64 u2.a2, .int .u64 u2.a3, .int .u64 u2.a4, .int .u64 u2.a5, .int .u64 u2.a6, .int .u64 u2.a7, .int .u64 v2.a0, .int .u64 v2.a1, .int .u64 v2.a2, .int .u64 v2.a3, .int .u64 v2.a4, .int .u64 v2.a5, .int .u64 v2.a6, .int .u64 v2.a7]] w (fun e w' => e = .returned (.int .i64 (cmpR m p s q t)) ∧ Lat w w') := by
    intro b1 b2 u1 v1 u2 v2 r1 r2 w
    rw [← cmpV_rank r1 r2 (by omega) p1 (by omega) q1 h2 h3 h4 h5]
    obtain ⟨a1, a2, a3⟩ := r1.good (by omega) p1 h2 h3
    obtain ⟨a4, a5, a6⟩ := r2.good (by omega) q1 h4 h5
    exact cmp_any b1 b2 u1 v1 u2 v2 a1 a2 a4 a5 a3 a6 w
  clear h0 h1 h2 h3 h4 h5 p0 p1 q0 q1
  go_enter Try.func7, Try.ntmps7
  go_wp2_with fail
  refine name1 (Q := fun W => Calls _ _ _ W _) ?_
  intro W hl hs k1
  refine (known_any m (some ⟨w.heap.size, 0, none⟩) 2 2 [s, t] W (Sl.of_blk' (t := 3) k1 rfl) (by omega)).mono ?_
  rintro e w1 ⟨rfl, l1⟩
  rw [HK.out]
  go_wp2_with fail
  refine name1 (Q := fun W => Calls _ _ _ W _) ?_
  intro w2 l2 hs2 k3
  refine (within_any 1 1000000000 (some ⟨w1.heap.size, 0, none⟩) 2 2 [p, q] w2 (Sl.of_blk' (t := 3) k3 rfl) (by omega)).mono ?_
  rintro e w3 ⟨rfl, l3⟩
  rw [HI.out]
  go_wp2_with fail
  refine (HR w3).mono ?_
  rintro e w4 ⟨b1, u1, v1, rfl, r1, l4⟩
  have R1 := Lib.hid r1
  clear r1 HR
  go_wp2_with fail
  refine (HS w4).mono ?_
  rintro e w5 ⟨b2, u2, v2, rfl, r2, l5⟩
  have HC := fun w => HJ b1 b2 u1 v1 u2 v2 R1.out r2 w
  have L := ((((hl.trans l1).trans l2).trans l3).trans l4).trans l5
  clear r2 HS R1 HJ hl l1 l2 l3 l4 l5 k1 k3
  go_wp2_with fail
  refine (HC w5).mono ?_
  rintro e w6 ⟨rfl, l6⟩
  go_wp2
  refine bodyPost_ret (v := .tuple #[.int .i64 (cmpR m p s q t), .int .i64 0]) (by simp [results, Try.results7, go_sem]) rfl ?_
  exact ⟨rfl, L.trans l6⟩

set_option maxRecDepth 100000 in
set_option maxHeartbeats 4000000 in
theorem dAbove_bad (m p s q t : Int) (w : World) (h : ¬ (11 ≤ m ∧ m ≤ 15 ∧ 0 ≤ s ∧ s ≤ 1000 ∧ 0 ≤ t ∧ t ≤ 1000)) :
    Calls Try.prog 7 #[.int .i64 m, .int .i64 p, .int .i64 s, .int .i64 q, .int .i64 t] w (fun e w' => e = .returned (.tuple #[.int .i64 0, .int .i64 2]) ∧ Lat w w') := by
  have HK : Hid (knownB m [s, t] = false) := by show _ = _; rw [known_two]; simp only [decide_eq_false_iff_not]; exact h
  clear h
  go_enter Try.func7, Try.ntmps7
  go_wp2_with fail
  refine name1 (Q := fun W => Calls _ _ _ W _) ?_
  intro W hl hs k1
  refine (known_any m (some ⟨w.heap.size, 0, none⟩) 2 2 [s, t] W (Sl.of_blk' (t := 3) k1 rfl) (by omega)).mono ?_
  rintro e w1 ⟨rfl, l1⟩
  rw [HK.out]
  go_wp2
  refine bodyPost_ret (v := .tuple #[.int .i64 0, .int .i64 2]) (by simp [results, Try.results7, go_sem]) rfl ?_
  exact ⟨rfl, hl.trans l1⟩

set_option maxRecDepth 100000 in
set_option maxHeartbeats 4000000 in
theorem dAbove_far (m p s q t : Int) (w : World) (hk : 11 ≤ m ∧ m ≤ 15 ∧ 0 ≤ s ∧ s ≤ 1000 ∧ 0 ≤ t ∧ t ≤ 1000) (h : ¬ (1 ≤ p ∧ p ≤ 1000000000 ∧ 1 ≤ q ∧ q ≤ 1000000000)) :
    Calls Try.prog 7 #[.int .i64 m, .int .i64 p, .int .i64 s, .int .i64 q, .int .i64 t] w (fun e w' => e = .returned (.tuple #[.int .i64 0, .int .i64 2]) ∧ Lat w w') := by
  have HK : Hid (knownB m [s, t] = true) := by show _ = _; rw [known_two]; simp only [decide_eq_true_eq]; exact hk
  have HI : Hid (inAll 1 1000000000 [p, q] = false) := by show _ = _; rw [two_within]; simp only [decide_eq_false_iff_not]; exact h
  clear h hk
  go_enter Try.func7, Try.ntmps7
  go_wp2_with fail
  refine name1 (Q := fun W => Calls _ _ _ W _) ?_
  intro W hl hs k1
  refine (known_any m (some ⟨w.heap.size, 0, none⟩) 2 2 [s, t] W (Sl.of_blk' (t := 3) k1 rfl) (by omega)).mono ?_
  rintro e w1 ⟨rfl, l1⟩
  rw [HK.out]
  go_wp2_with fail
  refine name1 (Q := fun W => Calls _ _ _ W _) ?_
  intro w2 l2 hs2 k3
  refine (within_any 1 1000000000 (some ⟨w1.heap.size, 0, none⟩) 2 2 [p, q] w2 (Sl.of_blk' (t := 3) k3 rfl) (by omega)).mono ?_
  rintro e w3 ⟨rfl, l3⟩
  rw [HI.out]
  go_wp2
  refine bodyPost_ret (v := .tuple #[.int .i64 0, .int .i64 2]) (by simp [results, Try.results7, go_sem]) rfl ?_
  exact ⟨rfl, ((hl.trans l1).trans l2).trans l3⟩
end Go.Proofs.Ytkjnjooggicgiaa

/- Divisor: run, altogether; Give and Order. -/
namespace Go.Proofs.Ytkjnjooggicgiaa
open Go.RowKit Go.Shelf
set_option linter.unusedSimpArgs false

/-- The cells of a rank. -/
def RankC (m : Int) (p s : Int) (S : List Value) : Prop := ∃ (b : Bool) (u v : W8), S = [.bool b, .int .u64 u.a0, .int .u64 u.a1, .int .u64 u.a2, .int .u64 u.a3, .int .u64 u.a4, .int .u64 u.a5, .int .u64 u.a6, .int .u64 u.a7, .int .u64 v.a0, .int .u64 v.a1, .int .u64 v.a2, .int .u64 v.a3, .int .u64 v.a4, .int .u64 v.a5, .int .u64 v.a6, .int .u64 v.a7] ∧ RankV m p s b u v ∧ 1 ≤ p ∧ p ≤ 1000000000 ∧ 0 ≤ s ∧ s ≤ 1000
theorem rank_way {m : Int} (h0 : 11 ≤ m) (h1 : m ≤ 15) : RankWay m (RankC m) (cmpR m) where
  len := by
    rintro p s S ⟨b, u, v, rfl, _⟩
    rfl
  one := by
    rintro p s S ⟨b, u, v, rfl, _⟩
    simp [Value.oneCell']
  ranked := by
    intro p s w p0 p1 s0 s1
    refine (ranked_any m p s w h0 h1 s0 s1 (by omega) p1).mono ?_
    rintro e w' ⟨b, u, v, rfl, hr, hl⟩
    exact ⟨[.bool b, .int .u64 u.a0, .int .u64 u.a1, .int .u64 u.a2, .int .u64 u.a3, .int .u64 u.a4, .int .u64 u.a5, .int .u64 u.a6, .int .u64 u.a7, .int .u64 v.a0, .int .u64 v.a1, .int .u64 v.a2, .int .u64 v.a3, .int .u64 v.a4, .int .u64 v.a5, .int .u64 v.a6, .int .u64 v.a7], rfl, ⟨b, u, v, rfl, hr, p0, p1, s0, s1⟩, hl⟩
  cmp := by
    rintro p1 s1 p2 s2 S1 S2 ⟨b1, u1, v1, rfl, r1, a0, a1, a2, a3⟩ ⟨b2, u2, v2, rfl, r2, c0, c1, c2, c3⟩ w
    rw [← cmpV_rank r1 r2 (by omega) a1 (by omega) c1 a2 a3 c2 c3]
    obtain ⟨q1, q2, q3⟩ := r1.good (by omega) a1 a2 a3
    obtain ⟨q4, q5, q6⟩ := r2.good (by omega) c1 c2 c3
    exact cmp_any b1 b2 u1 v1 u2 v2 q1 q2 q4 q5 q3 q6 w

/-- The minimums may be. -/
def lowB (n : Nat) (seats : Int) (L : List Int) : Bool := decide ((lowOf n L).length = n) && inAll 0 seats (lowOf n L)

set_option maxRecDepth 100000 in
set_option maxHeartbeats 4000000 in
theorem run_low (A : Option Addr) (n c : Nat) (P : List Int) (Al : Option Addr) (nl cl : Nat) (Lx : List Int) (seats m : Int) (w : World)
    (hs : Sl w .i64 A n P) (hl : Sl w .i64 Al nl Lx) (hn : n ≤ 17000000000000) (hnl : nl ≤ 17000000000000) (hc : censusB P = true) (ha : askB seats m = true) (hlow : lowB n seats Lx = false) :
    Calls Try.prog 20 #[.slice A n c, .int .i64 seats, .int .i64 m, .slice Al nl cl] w (RunNo w 2) := by
  have HC := Lib.hid (cenE_yes hc)
  have hask : 1 ≤ seats ∧ seats ≤ 1000 ∧ 11 ≤ m ∧ m ≤ 15 := by simpa [askB] using ha
  have HI := Lib.hid (in_one hask.1 hask.2.1)
  have HK : Hid (knownB m [] = true) := by show _ = _; rw [knownB, in_one hask.2.2.1 hask.2.2.2]; rfl
  have hll := hl.1
  have hne : Lx ≠ [] := by
    rintro rfl
    simp only [lowB, lowOf_nil, List.length_replicate, decide_true, Bool.true_and] at hlow
    rw [← Bool.not_eq_true, inAll_iff] at hlow
    exact hlow (fun x hx => by rw [List.mem_replicate] at hx; omega)
  have hnz : nl ≠ 0 := fun h => hne (List.eq_nil_of_length_eq_zero (by omega))
  have h0' : ((nl : Int) == 0) = false := by simp; omega
  rw [lowB, lowOf_of hne, hll] at hlow
  clear hc ha hask hne
  by_cases hnn : nl = n
  · have HW : Hid (inAll 0 seats Lx = false) := by
      show _ = _
      rwa [decide_eq_true hnn, Bool.true_and] at hlow
    have hEQ : ((nl : Int) != n) = false := by rw [hnn]; simp
    clear hlow hnn hll
    go_enter Try.func20, Try.ntmps20
    go_wp2_with fail
    refine wp_scope_straight ?_
    go_wp2_with fail
    refine name3 (Q := fun W => Calls _ _ _ W _) ?_
    intro W hlW hs2 k1 k2 k3
    refine (qCheck_any A n c P W (hs.later hlW) hn).mono ?_
    rintro e w1 ⟨rfl, rfl⟩
    rw [HC.out]
    have c1 := k1.cell 0
    go_wp2_with fail
    refine name1 (Q := fun W => Calls _ _ _ W _) ?_
    intro w2 l2 hs3 k4
    refine (within_any 1 1000 (some ⟨W.heap.size, 0, none⟩) 1 1 [seats] w2 (Sl.of_blk' (t := 3) k4 rfl) (by omega)).mono ?_
    rintro e w3 ⟨rfl, l3⟩
    rw [HI.out]
    have K1 := k1.later (l2.trans l3)
    have K2 := k2.later (l2.trans l3)
    have K3 := k3.later (l2.trans l3)
    have L := (hlW.trans l2).trans l3
    clear c1 k1 k2 k3 k4 l2
    go_wp2_with fail
    refine (known_any m none 0 0 [] w3 (Sl.nil _ _ _) (by omega)).mono ?_
    rintro e w4 ⟨rfl, l4⟩
    rw [HK.out]
    have K1 := K1.later l4
    have K2 := K2.later l4
    have K3 := K3.later l4
    have L := L.trans l4
    have c1 := K1.cell 0
    clear l3 l4
    go_upto_region 9 with (fail)
    refine name1 (Q := fun W => Code.wp _ _ _ _ W) ?_
    intro w5 l5 hs5 kr
    have K1 := K1.later l5
    have K2 := K2.later l5
    have K3 := K3.later l5
    have L := L.trans l5
    clear c1 l5
    have c1 := K1.cell 0
    go_wp2_with fail
    refine (within_any 0 seats Al nl cl Lx w5 (hl.later L) (by omega)).mono ?_
    rintro e w6 ⟨rfl, l6⟩
    rw [HW.out]
    have K2 := K2.later l6
    have K3 := K3.later l6
    have L := L.trans l6
    clear c1 l6
    have c2_0 := K2.cell 0
    have c2_1 := K2.cell 1
    have c2_2 := K2.cell 2
    have c3 := K3.cell 0
    have f2_0 := K2.frozen 0
    have f2_1 := K2.frozen 1
    have f2_2 := K2.frozen 2
    have f3 := K3.frozen 0
    go_wp2
    rw [Exit.noGoto_ret]
    refine bodyPost_ret (v := .tuple #[.agg #[.slice none 0 0, .slice none 0 0, .int .i64 0], .slice none 0 0, .int .i64 2]) (by simp [results, Try.results20, go_sem, c2_0, c2_1, c2_2, c3]) rfl ?_
    refine ⟨rfl, ?_⟩
    iterate 4 (refine Lat.setCell ?_ (by simp; try omega) _)
    exact L
  · have hEQ : ((nl : Int) != n) = true := by rw [bne_iff_ne]; omega
    clear hlow hnn hll
    go_enter Try.func20, Try.ntmps20
    go_wp2_with fail
    refine wp_scope_straight ?_
    go_wp2_with fail
    refine name3 (Q := fun W => Calls _ _ _ W _) ?_
    intro W hlW hs2 k1 k2 k3
    refine (qCheck_any A n c P W (hs.later hlW) hn).mono ?_
    rintro e w1 ⟨rfl, rfl⟩
    rw [HC.out]
    have c1 := k1.cell 0
    go_wp2_with fail
    refine name1 (Q := fun W => Calls _ _ _ W _) ?_
    intro w2 l2 hs3 k4
    refine (within_any 1 1000 (some ⟨W.heap.size, 0, none⟩) 1 1 [seats] w2 (Sl.of_blk' (t := 3) k4 rfl) (by omega)).mono ?_
    rintro e w3 ⟨rfl, l3⟩
    rw [HI.out]
    have K1 := k1.later (l2.trans l3)
    have K2 := k2.later (l2.trans l3)
    have K3 := k3.later (l2.trans l3)
    have L := (hlW.trans l2).trans l3
    clear c1 k1 k2 k3 k4 l2
    go_wp2_with fail
    refine (known_any m none 0 0 [] w3 (Sl.nil _ _ _) (by omega)).mono ?_
    rintro e w4 ⟨rfl, l4⟩
    rw [HK.out]
    have K1 := K1.later l4
    have K2 := K2.later l4
    have K3 := K3.later l4
    have L := L.trans l4
    have c1 := K1.cell 0
    clear l3 l4
    go_upto_region 9 with (fail)
    refine name1 (Q := fun W => Code.wp _ _ _ _ W) ?_
    intro w5 l5 hs5 kr
    have K2 := K2.later l5
    have K3 := K3.later l5
    have L := L.trans l5
    clear c1 l5
    have c2_0 := K2.cell 0
    have c2_1 := K2.cell 1
    have c2_2 := K2.cell 2
    have c3 := K3.cell 0
    have f2_0 := K2.frozen 0
    have f2_1 := K2.frozen 1
    have f2_2 := K2.frozen 2
    have f3 := K3.frozen 0
    go_wp2
    rw [Exit.noGoto_ret]
    refine bodyPost_ret (v := .tuple #[.agg #[.slice none 0 0, .slice none 0 0, .int .i64 0], .slice none 0 0, .int .i64 2]) (by simp [results, Try.results20, go_sem, c2_0, c2_1, c2_2, c3]) rfl ?_
    refine ⟨rfl, ?_⟩
    iterate 4 (refine Lat.setCell ?_ (by simp; try omega) _)
    exact L

/-- The error of an award; 0 if there is none. -/
def giveE (P : List Int) (seats m : Int) (L : List Int) : Int :=
  if censusB P = false then 60 else if askB seats m = false then 2 else if lowB P.length seats L = false then 2 else if seats < (lowOf P.length L).sum then 2 else 0
/-- The award. -/
def giveA (P : List Int) (seats m : Int) (L : List Int) : Aw := awardOf (cmpR m) P (lowOf P.length L) (seats - (lowOf P.length L).sum)
/-- What 'run' leaves. -/
def RunSays (w : World) (P : List Int) (seats m : Int) (L : List Int) (e : Ending) (w' : World) : Prop :=
  (giveE P seats m L ≠ 0 → RunNo w (giveE P seats m L) e w') ∧ (giveE P seats m L = 0 → RunOk w P.length (giveA P seats m L) e w')
theorem run_any (A : Option Addr) (n c : Nat) (P : List Int) (Al : Option Addr) (nl cl : Nat) (Lx : List Int) (seats m : Int) (w : World)
    (hs : Sl w .i64 A n P) (hl : Sl w .i64 Al nl Lx) (hn : n ≤ 17000000000000) (hnl : nl ≤ 17000000000000) :
    Calls Try.prog 20 #[.slice A n c, .int .i64 seats, .int .i64 m, .slice Al nl cl] w (RunSays w P seats m Lx) := by
  have hPn := hs.1
  cases hc : censusB P with
  | false =>
    have he : giveE P seats m Lx = 60 := by rw [giveE, if_pos hc]
    refine (run_census A n c P _ seats m w hs hn hc).mono fun e w' h => ⟨fun _ => by rw [he]; exact h, fun h' => by rw [he] at h'; omega⟩
  | true =>
    cases ha : askB seats m with
    | false =>
      have he : giveE P seats m Lx = 2 := by rw [giveE, if_neg (by simp [hc]), if_pos ha]
      refine (run_ask A n c P _ seats m w hs hn hc ha).mono fun e w' h => ⟨fun _ => by rw [he]; exact h, fun h' => by rw [he] at h'; omega⟩
    | true =>
      cases hlow : lowB P.length seats Lx with
      | false =>
        have he : giveE P seats m Lx = 2 := by rw [giveE, if_neg (by simp [hc]), if_neg (by simp [ha]), if_pos hlow]
        rw [hPn] at hlow
        refine (run_low A n c P Al nl cl Lx seats m w hs hl hn hnl hc ha hlow).mono fun e w' h => ⟨fun _ => by rw [he]; exact h, fun h' => by rw [he] at h'; omega⟩
      | true =>
        have hask : 1 ≤ seats ∧ seats ≤ 1000 ∧ 11 ≤ m ∧ m ≤ 15 := by simpa [askB] using ha
        rw [hPn] at hlow
        simp only [lowB, Bool.and_eq_true, decide_eq_true_eq] at hlow
        refine (run_main (rank_way hask.2.2.1 hask.2.2.2) A n c P Al nl cl Lx seats w hs hl hn hnl hc ha hlow.1 hlow.2).mono fun e w' h => ?_
        have hlow' : lowB P.length seats Lx = true := by rw [hPn, lowB]; simp [hlow]
        by_cases ho : seats < (lowOf n Lx).sum
        · have he : giveE P seats m Lx = 2 := by rw [giveE, if_neg (by simp [hc]), if_neg (by simp [ha]), if_neg (by simp [hlow']), hPn, if_pos ho]
          exact ⟨fun _ => by rw [he]; exact h.1 ho, fun h' => by rw [he] at h'; omega⟩
        · have he : giveE P seats m Lx = 0 := by rw [giveE, if_neg (by simp [hc]), if_neg (by simp [ha]), if_neg (by simp [hlow']), hPn, if_neg ho]
          refine ⟨fun h' => absurd he h', fun _ => ?_⟩
          have := h.2 ho
          rw [giveA, hPn]
          exact this
end Go.Proofs.Ytkjnjooggicgiaa

/- Divisor: Give, Order. -/
namespace Go.Proofs.Ytkjnjooggicgiaa
open Go.RowKit Go.Shelf
set_option linter.unusedSimpArgs false

def noAw : Aw := ⟨[], [], 0, []⟩
/-- The award, or the empty one where there is an error. -/
def giveF (P : List Int) (seats m : Int) (L : List Int) : Aw := if giveE P seats m L = 0 then giveA P seats m L else noAw
/-- What run leaves, in one form. -/
def RunFin (w : World) (F : Aw) (er : Int) (e : Ending) (w' : World) : Prop :=
  ∃ A1 n1 c1 A2 n2 c2 A3 n3 c3, e = .returned (.tuple #[.agg #[.slice A1 n1 c1, .slice A2 n2 c2, .int .i64 F.left], .slice A3 n3 c3, .int .i64 er]) ∧
    Sl w' .i64 A1 n1 F.seats ∧ Sl w' .i64 A2 n2 (ints F.tied) ∧ Sl w' .i64 A3 n3 (ints F.order) ∧ Lat w w' ∧
    (∀ a, A1 = some a → w.heap.size ≤ a.block) ∧ (∀ a, A2 = some a → w.heap.size ≤ a.block) ∧ (∀ a, A3 = some a → w.heap.size ≤ a.block) ∧ n3 ≤ c3
def GivePost (w : World) (F : Aw) (er : Int) (e : Ending) (w' : World) : Prop :=
  ∃ A1 n1 c1 A2 n2 c2, e = .returned (.tuple #[.agg #[.slice A1 n1 c1, .slice A2 n2 c2, .int .i64 F.left], .int .i64 er]) ∧ Sl w' .i64 A1 n1 F.seats ∧ Sl w' .i64 A2 n2 (ints F.tied) ∧ Lat w w'
def OrderPost (w : World) (F : Aw) (er : Int) (e : Ending) (w' : World) : Prop :=
  ∃ A3 n3 c3, e = .returned (.tuple #[.slice A3 n3 c3, .int .i64 er]) ∧ Sl w' .i64 A3 n3 (ints F.order) ∧ Lat w w'
/-- .. and the order is no longer than its capacity. -/
def OrderPostC (w : World) (F : Aw) (er : Int) (e : Ending) (w' : World) : Prop :=
  ∃ A3 n3 c3, e = .returned (.tuple #[.slice A3 n3 c3, .int .i64 er]) ∧ Sl w' .i64 A3 n3 (ints F.order) ∧ n3 ≤ c3 ∧ Lat w w'

theorem run_fin (A : Option Addr) (n c : Nat) (P : List Int) (Al : Option Addr) (nl cl : Nat) (Lx : List Int) (seats m : Int) (w : World)
    (hs : Sl w .i64 A n P) (hl : Sl w .i64 Al nl Lx) (hn : n ≤ 17000000000000) (hnl : nl ≤ 17000000000000) :
    Calls Try.prog 20 #[.slice A n c, .int .i64 seats, .int .i64 m, .slice Al nl cl] w (RunFin w (giveF P seats m Lx) (giveE P seats m Lx)) := by
  refine (run_any A n c P Al nl cl Lx seats m w hs hl hn hnl).mono fun e w' h => ?_
  by_cases h0 : giveE P seats m Lx = 0
  · obtain ⟨A1, c1, A2, c2, A3, c3, rfl, q1, q2, q3, q4, q5⟩ := h.2 h0
    rw [giveF, if_pos h0, h0]
    exact ⟨A1, _, c1, A2, _, c2, A3, _, c3, rfl, q1, q2, q3, q4, q5⟩
  · obtain ⟨rfl, q4⟩ := h.1 h0
    rw [giveF, if_neg h0]
    exact ⟨none, 0, 0, none, 0, 0, none, 0, 0, rfl, Sl.nil _ _ _, Sl.nil _ _ _, Sl.nil _ _ _, q4, (fun a e => by cases e), (fun a e => by cases e), (fun a e => by cases e), Nat.le_refl _⟩

set_option maxRecDepth 100000 in
set_option maxHeartbeats 2000000 in
theorem dGive_any (A : Option Addr) (n c : Nat) (P : List Int) (Al : Option Addr) (nl cl : Nat) (Lx : List Int) (seats m : Int) (w : World)
    (hs : Sl w .i64 A n P) (hl : Sl w .i64 Al nl Lx) (hn : n ≤ 17000000000000) (hnl : nl ≤ 17000000000000) :
    Calls Try.prog 9 #[.slice A n c, .int .i64 seats, .int .i64 m, .slice Al nl cl] w (GivePost w (giveF P seats m Lx) (giveE P seats m Lx)) := by
  have HR := fun w (h1 : Sl w .i64 A n P) (h2 : Sl w .i64 Al nl Lx) => run_fin A n c P Al nl cl Lx seats m w h1 h2 hn hnl
  obtain ⟨F, hF⟩ : ∃ F, giveF P seats m Lx = F := ⟨_, rfl⟩
  obtain ⟨er, her⟩ : ∃ er, giveE P seats m Lx = er := ⟨_, rfl⟩
  rw [hF, her] at HR ⊢
  clear hF her
  go_enter Try.func9, Try.ntmps9
  go_wp2_with fail
  refine name1 (Q := fun W => Calls _ _ _ W _) ?_
  intro W hlW hs2 k1
  refine (HR W (hs.later hlW) (hl.later hlW)).mono ?_
  rintro e w1 ⟨A1, n1, c1, A2, n2, c2, A3, n3, c3, rfl, q1, q2, q3, l1, z1, z2, _⟩
  have Q1 := Lib.hid q1
  have Q2 := Lib.hid q2
  have Z1 := Lib.hid z1
  have Z2 := Lib.hid z2
  have K1 := k1.later l1
  clear k1 q1 q2 q3 HR z1 z2
  go_upto_region 2 with (fail)
  refine name1 (Q := fun W => Code.wp _ _ _ _ W) ?_
  intro w2 l2 hs3 k2
  have K1 := K1.later l2
  have c1_0 := K1.cell 0
  have c1_1 := K1.cell 1
  have c1_2 := K1.cell 2
  have f1_0 := K1.frozen 0
  have f1_1 := K1.frozen 1
  have f1_2 := K1.frozen 2
  have c2_0 := k2.cell 0
  have c2_1 := k2.cell 1
  have c2_2 := k2.cell 2
  go_wp2
  refine bodyPost_ret (v := .tuple #[.agg #[.slice A1 n1 c1, .slice A2 n2 c2, .int .i64 F.left], .int .i64 er]) (by simp [results, Try.results9, go_sem, c1_0, c1_1, c1_2]) rfl ?_
  have L := (hlW.trans l1).trans l2
  refine ⟨A1, n1, c1, A2, n2, c2, rfl, ?_, ?_, ?_⟩
  · iterate 3 (refine Sl.far ?_ (fun a e => by have := Z1.out a e; show a.block ≠ w.heap.size; omega) _)
    exact Q1.out.later l2
  · iterate 3 (refine Sl.far ?_ (fun a e => by have := Z2.out a e; show a.block ≠ w.heap.size; omega) _)
    exact Q2.out.later l2
  · iterate 3 (refine Lat.setCell ?_ (Nat.le_refl _) _)
    exact L

set_option maxRecDepth 100000 in
set_option maxHeartbeats 2000000 in
theorem dOrderC_any (A : Option Addr) (n c : Nat) (P : List Int) (Al : Option Addr) (nl cl : Nat) (Lx : List Int) (seats m : Int) (w : World)
    (hs : Sl w .i64 A n P) (hl : Sl w .i64 Al nl Lx) (hn : n ≤ 17000000000000) (hnl : nl ≤ 17000000000000) :
    Calls Try.prog 10 #[.slice A n c, .int .i64 seats, .int .i64 m, .slice Al nl cl] w (OrderPostC w (giveF P seats m Lx) (giveE P seats m Lx)) := by
  have HR := fun w (h1 : Sl w .i64 A n P) (h2 : Sl w .i64 Al nl Lx) => run_fin A n c P Al nl cl Lx seats m w h1 h2 hn hnl
  obtain ⟨F, hF⟩ : ∃ F, giveF P seats m Lx = F := ⟨_, rfl⟩
  obtain ⟨er, her⟩ : ∃ er, giveE P seats m Lx = er := ⟨_, rfl⟩
  rw [hF, her] at HR ⊢
  clear hF her
  go_enter Try.func10, Try.ntmps10
  go_wp2_with fail
  refine (HR w hs hl).mono ?_
  rintro e w1 ⟨A1, n1, c1, A2, n2, c2, A3, n3, c3, rfl, q1, q2, q3, l1, _, _, _, hc3⟩
  have Q3 := Lib.hid q3
  clear q1 q2 q3 HR
  go_upto_region 2 with (fail)
  refine name1 (Q := fun W => Code.wp _ _ _ _ W) ?_
  intro w2 l2 hs3 k2
  go_wp2
  refine bodyPost_ret (v := .tuple #[.slice A3 n3 c3, .int .i64 er]) (by simp [results, Try.results10, go_sem]) rfl ?_
  exact ⟨A3, n3, c3, rfl, Q3.out.later l2, hc3, l1.trans l2⟩
theorem dOrder_any (A : Option Addr) (n c : Nat) (P : List Int) (Al : Option Addr) (nl cl : Nat) (Lx : List Int) (seats m : Int) (w : World)
    (hs : Sl w .i64 A n P) (hl : Sl w .i64 Al nl Lx) (hn : n ≤ 17000000000000) (hnl : nl ≤ 17000000000000) :
    Calls Try.prog 10 #[.slice A n c, .int .i64 seats, .int .i64 m, .slice Al nl cl] w (OrderPost w (giveF P seats m Lx) (giveE P seats m Lx)) :=
  (dOrderC_any A n c P Al nl cl Lx seats m w hs hl hn hnl).mono fun _ _ ⟨A3, n3, c3, he, h1, _, h2⟩ => ⟨A3, n3, c3, he, h1, h2⟩
end Go.Proofs.Ytkjnjooggicgiaa
