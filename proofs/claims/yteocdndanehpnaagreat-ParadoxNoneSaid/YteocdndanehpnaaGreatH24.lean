/- Several texts in one: DivG0, RunC, Give. -/
import Derived.Test.YteocdndanehpnaaGreatH23
import Derived.Test.YteocdndanehpnaaGreatH21
namespace Go.Proofs.YteocdndanehpnaaGreat
open Go.RowKit
theorem RankV.good {m p s : Int} {b : Bool} {u v : W8} (h : RankV m p s b u v) (p0 : 0 ≤ p) (p1 : p ≤ 1000000000) (s0 : 0 ≤ s) (s1 : s ≤ 1000) : u.ok ∧ v.ok ∧ ShOk u.toInt v.toInt := by
 have F1 : Fits p 1 := fits_small (by omega) (by omega) (by omega) (by omega)
 rcases h with ⟨_, _, e1⟩ | ⟨z1, _, e1⟩
 ·have := e1.facts F1
  exact ⟨this.1, this.2.1, this.2.2.2.2⟩
 ·have := e1.facts (rank_fits (m := m) p0 p1 s0 s1 z1)
  exact ⟨this.1, this.2.1, this.2.2.2.2⟩
end Go.Proofs.YteocdndanehpnaaGreat
namespace Go.Proofs.YteocdndanehpnaaGreat
open Go.RowKit Go.Shelf
set_option linter.unusedSimpArgs false
def RankC (m : Int) (p s : Int) (S : List Value) : Prop := ∃ (b : Bool) (u v : W8), S = [.bool b, .int .u64 u.a0, .int .u64 u.a1, .int .u64 u.a2, .int .u64 u.a3, .int .u64 u.a4, .int .u64 u.a5, .int .u64 u.a6, .int .u64 u.a7, .int .u64 v.a0, .int .u64 v.a1, .int .u64 v.a2, .int .u64 v.a3, .int .u64 v.a4, .int .u64 v.a5, .int .u64 v.a6, .int .u64 v.a7] ∧ RankV m p s b u v ∧ 1 ≤ p ∧ p ≤ 1000000000 ∧ 0 ≤ s ∧ s ≤ 1000
theorem rank_way {m : Int} (h0 : 11 ≤ m) (h1 : m ≤ 15) : RankWay m (RankC m) (cmpR m) where
 len := by
  rintro p s S ⟨b, u, v, rfl, _⟩
  rfl
 one := by
  rintro p s S ⟨b, u, v, rfl, _⟩
  simp [Value.oneCell']
 ranked := by
  intro p s w p0 p1 s0 s1
  refine (ranked_any m p s w h0 h1 s0 s1 (by omega) p1).mono ?_
  rintro e w' ⟨b, u, v, rfl, hr, hl⟩
  exact ⟨[.bool b, .int .u64 u.a0, .int .u64 u.a1, .int .u64 u.a2, .int .u64 u.a3, .int .u64 u.a4, .int .u64 u.a5, .int .u64 u.a6, .int .u64 u.a7, .int .u64 v.a0, .int .u64 v.a1, .int .u64 v.a2, .int .u64 v.a3, .int .u64 v.a4, .int .u64 v.a5, .int .u64 v.a6, .int .u64 v.a7], rfl, ⟨b, u, v, rfl, hr, p0, p1, s0, s1⟩, hl⟩
 cmp := by
  rintro p1 s1 p2 s2 S1 S2 ⟨b1, u1, v1, rfl, r1, a0, a1, a2, a3⟩ ⟨b2, u2, v2, rfl, r2, c0, c1, c2, c3⟩ w
  rw [← cmpV_rank r1 r2 (by omega) a1 (by omega) c1 a2 a3 c2 c3]
  obtain ⟨q1, q2, q3⟩ := r1.good (by omega) a1 a2 a3
  obtain ⟨q4, q5, q6⟩ := r2.good (by omega) c1 c2 c3
  exact cmp_any b1 b2 u1 v1 u2 v2 q1 q2 q4 q5 q3 q6 w
def lowB (n : Nat) (seats : Int) (L : List Int) : Bool := decide ((lowOf n L).length = n) && inAll 0 seats (lowOf n L)
set_option maxRecDepth 100000 in
set_option maxHeartbeats 4000000 in
theorem run_low (A : Option Addr) (n c : Nat) (P : List Int) (Al : Option Addr) (nl cl : Nat) (Lx : List Int) (seats m : Int) (w : World)
  (hs : Sl w .i64 A n P) (hl : Sl w .i64 Al nl Lx) (hn : n ≤ 17000000000000) (hnl : nl ≤ 17000000000000) (hc : censusB P = true) (ha : askB seats m = true) (hlow : lowB n seats Lx = false) :
  Calls Tryz.prog 42 #[.slice A n c, .int .i64 seats, .int .i64 m, .slice Al nl cl] w (RunNo w 2) := by
 have HC := Lib.hid (cenE_yes hc)
 have hask : 1 ≤ seats ∧ seats ≤ 1000 ∧ 11 ≤ m ∧ m ≤ 15 := by simpa [askB] using ha
 have HI := Lib.hid (in_one hask.1 hask.2.1)
 have HK : Hid (knownB m [] = true) := by show _ = _; rw [knownB, in_one hask.2.2.1 hask.2.2.2]; rfl
 have hll := hl.1
 have hne : Lx ≠ [] := by
  rintro rfl
  simp only [lowB, lowOf_nil, List.length_replicate, decide_true, Bool.true_and] at hlow
  rw [← Bool.not_eq_true, inAll_iff] at hlow
  exact hlow (fun x hx => by rw [List.mem_replicate] at hx; omega)
 have hnz : nl ≠ 0 := fun h => hne (List.eq_nil_of_length_eq_zero (by omega))
 have h0' : ((nl : Int) == 0) = false := by simp; omega
 rw [lowB, lowOf_of hne, hll] at hlow
 clear hc ha hask hne
 by_cases hnn : nl = n
 ·have HW : Hid (inAll 0 seats Lx = false) := by
   show _ = _
   rwa [decide_eq_true hnn, Bool.true_and] at hlow
  have hEQ : ((nl : Int) != n) = false := by rw [hnn]; simp
  clear hlow hnn hll
  go_enter Tryz.func42, Tryz.ntmps42
  go_wp2_with fail
  refine wp_scope_straight ?_
  go_wp2_with fail
  refine name3 (Q := fun W => Calls _ _ _ W _) ?_
  intro W hlW hs2 k1 k2 k3
  refine (qCheck_any A n c P W (hs.later hlW) hn).mono ?_
  rintro e w1 ⟨rfl, rfl⟩
  rw [HC.out]
  have c1 := k1.cell 0
  go_wp2_with fail
  refine name1 (Q := fun W => Calls _ _ _ W _) ?_
  intro w2 l2 hs3 k4
  refine (within_any 1 1000 (some ⟨W.heap.size, 0, none⟩) 1 1 [seats] w2 (Sl.of_blk' (t := 3) k4 rfl) (by omega)).mono ?_
  rintro e w3 ⟨rfl, l3⟩
  rw [HI.out]
  have K1 := k1.later (l2.trans l3)
  have K2 := k2.later (l2.trans l3)
  have K3 := k3.later (l2.trans l3)
  have L := (hlW.trans l2).trans l3
  clear c1 k1 k2 k3 k4 l2
  go_wp2_with fail
  refine (known_any m none 0 0 [] w3 (Sl.nil _ _ _) (by omega)).mono ?_
  rintro e w4 ⟨rfl, l4⟩
  rw [HK.out]
  have K1 := K1.later l4
  have K2 := K2.later l4
  have K3 := K3.later l4
  have L := L.trans l4
  have c1 := K1.cell 0
  clear l3 l4
  go_upto_region 9 with (fail)
  refine name1 (Q := fun W => Code.wp _ _ _ _ W) ?_
  intro w5 l5 hs5 kr
  have K1 := K1.later l5
  have K2 := K2.later l5
  have K3 := K3.later l5
  have L := L.trans l5
  clear c1 l5
  have c1 := K1.cell 0
  go_wp2_with fail
  refine (within_any 0 seats Al nl cl Lx w5 (hl.later L) (by omega)).mono ?_
  rintro e w6 ⟨rfl, l6⟩
  rw [HW.out]
  have K2 := K2.later l6
  have K3 := K3.later l6
  have L := L.trans l6
  clear c1 l6
  have c2_0 := K2.cell 0
  have c2_1 := K2.cell 1
  have c2_2 := K2.cell 2
  have c3 := K3.cell 0
  have f2_0 := K2.frozen 0
  have f2_1 := K2.frozen 1
  have f2_2 := K2.frozen 2
  have f3 := K3.frozen 0
  go_wp2
  rw [Exit.noGoto_ret]
  refine bodyPost_ret (v := .tuple #[.agg #[.slice none 0 0, .slice none 0 0, .int .i64 0], .slice none 0 0, .int .i64 2]) (by simp [results, Tryz.results42, go_sem, c2_0, c2_1, c2_2, c3]) rfl ?_
  refine ⟨rfl, ?_⟩
  iterate 4 (refine Lat.setCell ?_ (by simp; try omega) _)
  exact L
 ·have hEQ : ((nl : Int) != n) = true := by rw [bne_iff_ne]; omega
  clear hlow hnn hll
  go_enter Tryz.func42, Tryz.ntmps42
  go_wp2_with fail
  refine wp_scope_straight ?_
  go_wp2_with fail
  refine name3 (Q := fun W => Calls _ _ _ W _) ?_
  intro W hlW hs2 k1 k2 k3
  refine (qCheck_any A n c P W (hs.later hlW) hn).mono ?_
  rintro e w1 ⟨rfl, rfl⟩
  rw [HC.out]
  have c1 := k1.cell 0
  go_wp2_with fail
  refine name1 (Q := fun W => Calls _ _ _ W _) ?_
  intro w2 l2 hs3 k4
  refine (within_any 1 1000 (some ⟨W.heap.size, 0, none⟩) 1 1 [seats] w2 (Sl.of_blk' (t := 3) k4 rfl) (by omega)).mono ?_
  rintro e w3 ⟨rfl, l3⟩
  rw [HI.out]
  have K1 := k1.later (l2.trans l3)
  have K2 := k2.later (l2.trans l3)
  have K3 := k3.later (l2.trans l3)
  have L := (hlW.trans l2).trans l3
  clear c1 k1 k2 k3 k4 l2
  go_wp2_with fail
  refine (known_any m none 0 0 [] w3 (Sl.nil _ _ _) (by omega)).mono ?_
  rintro e w4 ⟨rfl, l4⟩
  rw [HK.out]
  have K1 := K1.later l4
  have K2 := K2.later l4
  have K3 := K3.later l4
  have L := L.trans l4
  have c1 := K1.cell 0
  clear l3 l4
  go_upto_region 9 with (fail)
  refine name1 (Q := fun W => Code.wp _ _ _ _ W) ?_
  intro w5 l5 hs5 kr
  have K2 := K2.later l5
  have K3 := K3.later l5
  have L := L.trans l5
  clear c1 l5
  have c2_0 := K2.cell 0
  have c2_1 := K2.cell 1
  have c2_2 := K2.cell 2
  have c3 := K3.cell 0
  have f2_0 := K2.frozen 0
  have f2_1 := K2.frozen 1
  have f2_2 := K2.frozen 2
  have f3 := K3.frozen 0
  go_wp2
  rw [Exit.noGoto_ret]
  refine bodyPost_ret (v := .tuple #[.agg #[.slice none 0 0, .slice none 0 0, .int .i64 0], .slice none 0 0, .int .i64 2]) (by simp [results, Tryz.results42, go_sem, c2_0, c2_1, c2_2, c3]) rfl ?_
  refine ⟨rfl, ?_⟩
  iterate 4 (refine Lat.setCell ?_ (by simp; try omega) _)
  exact L
def giveE (P : List Int) (seats m : Int) (L : List Int) : Int :=
 if censusB P = false then 60 else if askB seats m = false then 2 else if lowB P.length seats L = false then 2 else if seats < (lowOf P.length L).sum then 2 else 0
def giveA (P : List Int) (seats m : Int) (L : List Int) : Aw := awardOf (cmpR m) P (lowOf P.length L) (seats - (lowOf P.length L).sum)
def RunSays (w : World) (P : List Int) (seats m : Int) (L : List Int) (e : Ending) (w' : World) : Prop :=
 (giveE P seats m L ≠ 0 → RunNo w (giveE P seats m L) e w') ∧ (giveE P seats m L = 0 → RunOk w P.length (giveA P seats m L) e w')
theorem run_any (A : Option Addr) (n c : Nat) (P : List Int) (Al : Option Addr) (nl cl : Nat) (Lx : List Int) (seats m : Int) (w : World)
  (hs : Sl w .i64 A n P) (hl : Sl w .i64 Al nl Lx) (hn : n ≤ 17000000000000) (hnl : nl ≤ 17000000000000) :
  Calls Tryz.prog 42 #[.slice A n c, .int .i64 seats, .int .i64 m, .slice Al nl cl] w (RunSays w P seats m Lx) := by
 have hPn := hs.1
 cases hc : censusB P with
 | false =>
   have he : giveE P seats m Lx = 60 := by rw [giveE, if_pos hc]
   refine (run_census A n c P _ seats m w hs hn hc).mono fun e w' h => ⟨fun _ => by rw [he]; exact h, fun h' => by rw [he] at h'; omega⟩
 | true =>
   cases ha : askB seats m with
   | false =>
     have he : giveE P seats m Lx = 2 := by rw [giveE, if_neg (by simp [hc]), if_pos ha]
     refine (run_ask A n c P _ seats m w hs hn hc ha).mono fun e w' h => ⟨fun _ => by rw [he]; exact h, fun h' => by rw [he] at h'; omega⟩
   | true =>
     cases hlow : lowB P.length seats Lx with
     | false =>
       have he : giveE P seats m Lx = 2 := by rw [giveE, if_neg (by simp [hc]), if_neg (by simp [ha]), if_pos hlow]
       rw [hPn] at hlow
       refine (run_low A n c P Al nl cl Lx seats m w hs hl hn hnl hc ha hlow).mono fun e w' h => ⟨fun _ => by rw [he]; exact h, fun h' => by rw [he] at h'; omega⟩
     | true =>
       have hask : 1 ≤ seats ∧ seats ≤ 1000 ∧ 11 ≤ m ∧ m ≤ 15 := by simpa [askB] using ha
       rw [hPn] at hlow
       simp only [lowB, Bool.and_eq_true, decide_eq_true_eq] at hlow
       refine (run_main (rank_way hask.2.2.1 hask.2.2.2) A n c P Al nl cl Lx seats w hs hl hn hnl hc ha hlow.1 hlow.2).mono fun e w' h => ?_
       have hlow' : lowB P.length seats Lx = true := by rw [hPn, lowB]; simp [hlow]
       by_cases ho : seats < (lowOf n Lx).sum
       ·have he : giveE P seats m Lx = 2 := by rw [giveE, if_neg (by simp [hc]), if_neg (by simp [ha]), if_neg (by simp [hlow']), hPn, if_pos ho]
        exact ⟨fun _ => by rw [he]; exact h.1 ho, fun h' => by rw [he] at h'; omega⟩
       ·have he : giveE P seats m Lx = 0 := by rw [giveE, if_neg (by simp [hc]), if_neg (by simp [ha]), if_neg (by simp [hlow']), hPn, if_neg ho]
        refine ⟨fun h' => absurd he h', fun _ => ?_⟩
        have := h.2 ho
        rw [giveA, hPn]
        exact this
end Go.Proofs.YteocdndanehpnaaGreat
namespace Go.Proofs.YteocdndanehpnaaGreat
open Go.RowKit Go.Shelf
set_option linter.unusedSimpArgs false
def noAw : Aw := ⟨[], [], 0, []⟩
def giveF (P : List Int) (seats m : Int) (L : List Int) : Aw := if giveE P seats m L = 0 then giveA P seats m L else noAw
def RunFin (w : World) (F : Aw) (er : Int) (e : Ending) (w' : World) : Prop :=
 ∃ A1 n1 c1 A2 n2 c2 A3 n3 c3, e = .returned (.tuple #[.agg #[.slice A1 n1 c1, .slice A2 n2 c2, .int .i64 F.left], .slice A3 n3 c3, .int .i64 er]) ∧
  Sl w' .i64 A1 n1 F.seats ∧ Sl w' .i64 A2 n2 (ints F.tied) ∧ Sl w' .i64 A3 n3 (ints F.order) ∧ Lat w w' ∧
  (∀ a, A1 = some a → w.heap.size ≤ a.block) ∧ (∀ a, A2 = some a → w.heap.size ≤ a.block) ∧ (∀ a, A3 = some a → w.heap.size ≤ a.block) ∧ n3 ≤ c3
theorem run_fin (A : Option Addr) (n c : Nat) (P : List Int) (Al : Option Addr) (nl cl : Nat) (Lx : List Int) (seats m : Int) (w : World)
  (hs : Sl w .i64 A n P) (hl : Sl w .i64 Al nl Lx) (hn : n ≤ 17000000000000) (hnl : nl ≤ 17000000000000) :
  Calls Tryz.prog 42 #[.slice A n c, .int .i64 seats, .int .i64 m, .slice Al nl cl] w (RunFin w (giveF P seats m Lx) (giveE P seats m Lx)) := by
 refine (run_any A n c P Al nl cl Lx seats m w hs hl hn hnl).mono fun e w' h => ?_
 by_cases h0 : giveE P seats m Lx = 0
 ·obtain ⟨A1, c1, A2, c2, A3, c3, rfl, q1, q2, q3, q4, q5⟩ := h.2 h0
  rw [giveF, if_pos h0, h0]
  exact ⟨A1, _, c1, A2, _, c2, A3, _, c3, rfl, q1, q2, q3, q4, q5⟩
 ·obtain ⟨rfl, q4⟩ := h.1 h0
  rw [giveF, if_neg h0]
  exact ⟨none, 0, 0, none, 0, 0, none, 0, 0, rfl, Sl.nil _ _ _, Sl.nil _ _ _, Sl.nil _ _ _, q4, (fun a e => by cases e), (fun a e => by cases e), (fun a e => by cases e), Nat.le_refl _⟩
end Go.Proofs.YteocdndanehpnaaGreat
