/- Several texts in one: FrU, FrV, FrW, FrX, FrY. -/
import Derived.Test.YtkjnjooggicgiaaGreatE10
import Derived.Test.YtkjnjooggicgiaaGreatF02
import Derived.Test.YtkjnjooggicgiaaGreatJ28
import Derived.Test.YtkjnjooggicgiaaGreatJ29
import Derived.RangeFuncGives
import Derived.LoopNIn
import Derived.LoopIn
import Derived.TacticsInMore
import Derived.WalkMore
import Derived.Test.YtkjnjooggicgiaaGreatF03
import Derived.Test.YtkjnjooggicgiaaGreatE07

/- Fair: the bias: the errors, and all in one (fewer than 20 regions). -/
namespace Go.Proofs.YtkjnjooggicgiaaGreat
open Go.RowKit
set_option linter.unusedSimpArgs false

set_option maxRecDepth 100000 in
set_option maxHeartbeats 8000000 in
/-- No hall. -/
theorem fBias_err (A1 : Option Addr) (n1 c1 : Nat) (A2 : Option Addr) (n2 c2 : Nat) (k er : Int) (w : World) (her : (er != 0) = true)
    (HH : ∀ w1, Lat w w1 → Calls Tryz.prog 13 #[.slice A1 n1 c1, .slice A2 n2 c2] w1 (fun e w' => Lat w1 w' ∧ e = .returned (.tuple #[.slice none 0 0, .agg #[.int .i64 0, .int .i64 0], .int .i64 er]))) :
    Calls Tryz.prog 7 #[.slice A1 n1 c1, .slice A2 n2 c2, .int .i64 k] w (ShR w zA er) := by
  go_enter Tryz.func7, Tryz.ntmps7
  go_wp2_with fail
  refine name1 (Q := fun W => Calls _ _ _ W _) ?_
  intro W hl hsz kR
  refine (HH W hl).mono ?_
  rintro e w1 ⟨l1, rfl⟩
  have KR := kR.later l1
  have L1 := hl.trans l1
  have hR := kR.lt
  clear kR hl l1 hsz HH
  go_wp2_with (refine wpList_put rfl 35 (.tmp 6) (.tmp 24) (by rfl) (by rfl) w.heap.size (by rfl) zA (by rfl) (KR.alloc _) (by rfl) zA_good.info zA_good.2.1 ?_; intro w6 hput; have KS := hput.blk; have L6 := hput.lat w (L1.trans (Lat.alloc _ _)) (Nat.le_refl _))
  have KS' : Blk w6 w.heap.size 35 #[.int .u64 W8.zero.a0, .int .u64 W8.zero.a1, .int .u64 W8.zero.a2, .int .u64 W8.zero.a3, .int .u64 W8.zero.a4, .int .u64 W8.zero.a5, .int .u64 W8.zero.a6, .int .u64 W8.zero.a7, .int .u64 W8.zero.a0, .int .u64 W8.zero.a1, .int .u64 W8.zero.a2, .int .u64 W8.zero.a3, .int .u64 W8.zero.a4, .int .u64 W8.zero.a5, .int .u64 W8.zero.a6, .int .u64 W8.zero.a7] := KS
  have e0 := KS'.cell 0
  have e1 := KS'.cell 1
  have e2 := KS'.cell 2
  have e3 := KS'.cell 3
  have e4 := KS'.cell 4
  have e5 := KS'.cell 5
  have e6 := KS'.cell 6
  have e7 := KS'.cell 7
  have e8 := KS'.cell 8
  have e9 := KS'.cell 9
  have e10 := KS'.cell 10
  have e11 := KS'.cell 11
  have e12 := KS'.cell 12
  have e13 := KS'.cell 13
  have e14 := KS'.cell 14
  have e15 := KS'.cell 15
  refine bodyPost_ret (v := .tuple #[.agg #[.int .u64 W8.zero.a0, .int .u64 W8.zero.a1, .int .u64 W8.zero.a2, .int .u64 W8.zero.a3, .int .u64 W8.zero.a4, .int .u64 W8.zero.a5, .int .u64 W8.zero.a6, .int .u64 W8.zero.a7, .int .u64 W8.zero.a0, .int .u64 W8.zero.a1, .int .u64 W8.zero.a2, .int .u64 W8.zero.a3, .int .u64 W8.zero.a4, .int .u64 W8.zero.a5, .int .u64 W8.zero.a6, .int .u64 W8.zero.a7], .int .i64 er]) (by simp [results, Tryz.results7, go_sem, e0, e1, e2, e3, e4, e5, e6, e7, e8, e9, e10, e11, e12, e13, e14, e15]) rfl ?_
  exact ⟨rfl, L6⟩
set_option maxRecDepth 100000 in
set_option maxHeartbeats 8000000 in
/-- Too few or too many regions asked for. -/
theorem fBias_far (A1 : Option Addr) (n1 c1 : Nat) (A2 : Option Addr) (n2 c2 : Nat) (L nx : Nat) (k H sp ss : Int) (xs zs : List (List Value)) (w : World)
    (HH : ∀ w1, Lat w w1 → Calls Tryz.prog 13 #[.slice A1 n1 c1, .slice A2 n2 c2] w1 (fun e w' => ∃ g c, e = .returned (.tuple #[.slice (some ⟨g, 0, none⟩) nx c, .agg #[.int .i64 sp, .int .i64 ss], .int .i64 0]) ∧ Lat w1 w' ∧ w1.heap.size ≤ g ∧ nx ≤ c ∧ RowB w' g 49 2 xs))
    (HDel : ∀ w g c, RowB w g 49 2 xs → nx ≤ c → Calls Tryz.prog 17 #[.slice (some ⟨g, 0, none⟩) nx c, .func (.func 18) #[] #[]] w
      (fun e w' => e = .returned (.slice (some ⟨g, 0, none⟩) L c) ∧ RowB w' g 49 2 zs ∧ LatP (· = g) w w'))
    (_f3 : wrap64 H = H) (f4 : IntKind.i64.wrap H = H) (f5 : Int.tdiv (L : Int) 2 = (L : Int) / 2) (f6 : (L : Int) / 2 = H) (hk : Hid (k < 1 ∨ H < k)) :
    Calls Tryz.prog 7 #[.slice A1 n1 c1, .slice A2 n2 c2, .int .i64 k] w (ShR w zA 2) := by
  go_enter Tryz.func7, Tryz.ntmps7
  go_wp2_with fail
  refine name1 (Q := fun W => Calls _ _ _ W _) ?_
  intro W hl hsz kR
  refine (HH W hl).mono ?_
  rintro e w1 ⟨g, c, rfl, l1, hg, hc, RB⟩
  have KR := kR.later l1
  have L1 := hl.trans l1
  have hgR : w.heap.size < g := Nat.lt_of_lt_of_le kR.lt hg
  clear kR hl l1 hsz HH
  go_wp2_with fail
  refine name1 (Q := fun W => Calls _ _ _ W _) ?_
  intro w2 l2 hs2 k9
  have RB2 := RB.later l2
  have KR2 := KR.later l2
  have L2 := L1.trans l2
  have HD := HDel w2 g c RB2 hc
  refine HD.mono ?_
  rintro e w3 ⟨rfl, RB3, lp3⟩
  clear HD
  have L3 : Lat w w3 := lat_over lp3 L2 (Nat.le_of_lt hgR)
  have KR3 := KR2.keepP lp3 (Nat.ne_of_lt hgR)
  by_cases hk1 : k < 1
  · clear hk
    go_wp2_with (refine wpList_put rfl 35 (.tmp 6) (.tmp 37) (by rfl) (by rfl) w.heap.size (by rfl) zA (by rfl) KR3 (by rfl) zA_good.info zA_good.2.1 ?_; intro w6 hput; have KS := hput.blk; have L6 := hput.lat w L3 (Nat.le_refl _))
    have KS' : Blk w6 w.heap.size 35 #[.int .u64 W8.zero.a0, .int .u64 W8.zero.a1, .int .u64 W8.zero.a2, .int .u64 W8.zero.a3, .int .u64 W8.zero.a4, .int .u64 W8.zero.a5, .int .u64 W8.zero.a6, .int .u64 W8.zero.a7, .int .u64 W8.zero.a0, .int .u64 W8.zero.a1, .int .u64 W8.zero.a2, .int .u64 W8.zero.a3, .int .u64 W8.zero.a4, .int .u64 W8.zero.a5, .int .u64 W8.zero.a6, .int .u64 W8.zero.a7] := KS
    have e0 := KS'.cell 0
    have e1 := KS'.cell 1
    have e2 := KS'.cell 2
    have e3 := KS'.cell 3
    have e4 := KS'.cell 4
    have e5 := KS'.cell 5
    have e6 := KS'.cell 6
    have e7 := KS'.cell 7
    have e8 := KS'.cell 8
    have e9 := KS'.cell 9
    have e10 := KS'.cell 10
    have e11 := KS'.cell 11
    have e12 := KS'.cell 12
    have e13 := KS'.cell 13
    have e14 := KS'.cell 14
    have e15 := KS'.cell 15
    refine bodyPost_ret (v := .tuple #[.agg #[.int .u64 W8.zero.a0, .int .u64 W8.zero.a1, .int .u64 W8.zero.a2, .int .u64 W8.zero.a3, .int .u64 W8.zero.a4, .int .u64 W8.zero.a5, .int .u64 W8.zero.a6, .int .u64 W8.zero.a7, .int .u64 W8.zero.a0, .int .u64 W8.zero.a1, .int .u64 W8.zero.a2, .int .u64 W8.zero.a3, .int .u64 W8.zero.a4, .int .u64 W8.zero.a5, .int .u64 W8.zero.a6, .int .u64 W8.zero.a7], .int .i64 2]) (by simp [results, Tryz.results7, go_sem, e0, e1, e2, e3, e4, e5, e6, e7, e8, e9, e10, e11, e12, e13, e14, e15]) rfl ?_
    exact ⟨rfl, L6⟩
  · have hk2 : H < k := hk.out.resolve_left hk1
    clear hk
    go_wp2_with (refine wpList_put rfl 35 (.tmp 6) (.tmp 37) (by rfl) (by rfl) w.heap.size (by rfl) zA (by rfl) KR3 (by rfl) zA_good.info zA_good.2.1 ?_; intro w6 hput; have KS := hput.blk; have L6 := hput.lat w L3 (Nat.le_refl _))
    have KS' : Blk w6 w.heap.size 35 #[.int .u64 W8.zero.a0, .int .u64 W8.zero.a1, .int .u64 W8.zero.a2, .int .u64 W8.zero.a3, .int .u64 W8.zero.a4, .int .u64 W8.zero.a5, .int .u64 W8.zero.a6, .int .u64 W8.zero.a7, .int .u64 W8.zero.a0, .int .u64 W8.zero.a1, .int .u64 W8.zero.a2, .int .u64 W8.zero.a3, .int .u64 W8.zero.a4, .int .u64 W8.zero.a5, .int .u64 W8.zero.a6, .int .u64 W8.zero.a7] := KS
    have e0 := KS'.cell 0
    have e1 := KS'.cell 1
    have e2 := KS'.cell 2
    have e3 := KS'.cell 3
    have e4 := KS'.cell 4
    have e5 := KS'.cell 5
    have e6 := KS'.cell 6
    have e7 := KS'.cell 7
    have e8 := KS'.cell 8
    have e9 := KS'.cell 9
    have e10 := KS'.cell 10
    have e11 := KS'.cell 11
    have e12 := KS'.cell 12
    have e13 := KS'.cell 13
    have e14 := KS'.cell 14
    have e15 := KS'.cell 15
    refine bodyPost_ret (v := .tuple #[.agg #[.int .u64 W8.zero.a0, .int .u64 W8.zero.a1, .int .u64 W8.zero.a2, .int .u64 W8.zero.a3, .int .u64 W8.zero.a4, .int .u64 W8.zero.a5, .int .u64 W8.zero.a6, .int .u64 W8.zero.a7, .int .u64 W8.zero.a0, .int .u64 W8.zero.a1, .int .u64 W8.zero.a2, .int .u64 W8.zero.a3, .int .u64 W8.zero.a4, .int .u64 W8.zero.a5, .int .u64 W8.zero.a6, .int .u64 W8.zero.a7], .int .i64 2]) (by simp [results, Tryz.results7, go_sem, e0, e1, e2, e3, e4, e5, e6, e7, e8, e9, e10, e11, e12, e13, e14, e15]) rfl ?_
    exact ⟨rfl, L6⟩
end Go.Proofs.YtkjnjooggicgiaaGreat

/- Fair: the bias, all in one (fewer than 20 regions). -/
namespace Go.Proofs.YtkjnjooggicgiaaGreat
open Go.RowKit
set_option linter.unusedSimpArgs false

structure BiasFacts (k L : Nat) : Prop where
  q0 : (k : Int) < 1 ↔ False
  q1 : (k : Int) ≤ (L : Int) / 2
  q2 : (L : Int) - (k : Int) = ((L - k : Nat) : Int)
  q3 : k ≤ L
  q4 : L - (L - k) = k
  q5 : L - k ≤ L
  q6 : wrap64 ((L - k : Nat) : Int) = ((L - k : Nat) : Int)
  q7 : IntKind.i64.wrap ((L - k : Nat) : Int) = ((L - k : Nat) : Int)
  q8 : wrap64 ((L : Int) / 2) = (L : Int) / 2
  q9 : IntKind.i64.wrap ((L : Int) / 2) = (L : Int) / 2
  q10 : Int.tdiv (L : Int) 2 = (L : Int) / 2
theorem bias_facts {k L : Nat} (h1 : 1 ≤ k) (h2 : k ≤ L / 2) (h3 : L < 20) : BiasFacts k L where
  q0 := ⟨fun h => by omega, False.elim⟩
  q1 := by omega
  q2 := by omega
  q3 := by omega
  q4 := by omega
  q5 := by omega
  q6 := IntWalk.wrap64_in _ (by omega)
  q7 := IntWalk.i64_in _ (by omega)
  q8 := IntWalk.wrap64_in _ (by omega)
  q9 := IntWalk.i64_in _ (by omega)
  q10 := Int.tdiv_eq_ediv_of_nonneg (by omega)
set_option maxHeartbeats 2000000 in
/-- A hall, and so many regions as are asked for. -/
theorem fBias_in (A1 : Option Addr) (n1 c1 : Nat) (P : List Int) (A2 : Option Addr) (n2 c2 : Nat) (S : List Int) (k : Nat) (w : World) (hp : Sl w .i64 A1 n1 P) (hs : Sl w .i64 A2 n2 S) (hn1 : n1 ≤ 1000000) (hn2 : n2 ≤ 1000000) (hE : hallE P S = 0) (hk : BiasIn (bSort (P.zip S)) k) (hfew : P.length < 20) :
    Calls Tryz.prog 7 #[.slice A1 n1 c1, .slice A2 n2 c2, .int .i64 k] w (ShR w (gapX (biasNum (bSort (P.zip S)) k) (biasDen (bSort (P.zip S)) k)) (if biasDen (bSort (P.zip S)) k = 0 then 7 else 0)) := by
  have hok := hall_ok hE
  have HH' : ∀ w1, Lat w w1 → Calls Tryz.prog 13 #[.slice A1 n1 c1, .slice A2 n2 c2] w1 (fun e w' => Lat w1 w' ∧ ∃ v, e = .returned (.tuple #[v, .agg #[.int .i64 P.sum, .int .i64 S.sum], .int .i64 0]) ∧ OwnM w' w1.heap.size 49 2 v (prs (P.zip S))) := fun w1 hl =>
    (fHall_any A1 n1 c1 P A2 n2 c2 S w1 (hp.later hl) (hs.later hl) hn1 hn2).mono fun e w' h => ⟨h.1, h.2.elim (fun h => absurd hE h.1) (fun h => h.2)⟩
  obtain ⟨xs, hxs⟩ : ∃ xs, P.zip S = xs := ⟨_, rfl⟩
  have hxl : xs.length = P.length := by rw [← hxs, List.length_zip]; omega
  have hP1 : P ≠ [] := by intro h; rw [h] at hok; simp at hok
  have hxne : prs xs ≠ [] := by
    intro h
    have := congrArg List.length h
    rw [prs_len, hxl] at this
    exact hP1 (List.eq_nil_of_length_eq_zero this)
  have hxp : ∀ x ∈ xs, 0 ≤ x.1 ∧ x.1 ≤ 1000000000 := fun x hx => by rw [← hxs] at hx; exact hok.1.2.1 _ (List.of_mem_zip hx).1
  rw [hxs] at HH' hk
  obtain ⟨zs, hzs⟩ : ∃ zs, bKeep xs = zs := ⟨_, rfl⟩
  obtain ⟨ys, hys⟩ : ∃ ys, sortR bLt zs = ys := ⟨_, rfl⟩
  have hbs : bSort xs = ys := by rw [bSort, hzs, hys]
  have hyl : ys.length = zs.length := by rw [← hys, sortR_length]
  have hLn : ys.length ≤ xs.length := by rw [hyl, ← hzs]; exact List.length_filter_le _ _
  rw [hbs] at hk
  rw [hxs, hbs]
  obtain ⟨k1, k2, few, hyp, hysb⟩ := hk
  have T1 := s_bound (l := ys.take k) (fun x h => hyp x (List.mem_of_mem_take h)) (fun x h => hysb x (List.mem_of_mem_take h)) (by rw [List.length_take]; omega)
  have T2 := s_bound (l := ys.drop (ys.length - k)) (fun x h => hyp x (List.mem_of_mem_drop h)) (fun x h => hysb x (List.mem_of_mem_drop h)) (by rw [List.length_drop]; omega)
  have HDel : ∀ w g c, RowB w g 49 2 (prs xs) → xs.length ≤ c → Calls Tryz.prog 17 #[.slice (some ⟨g, 0, none⟩) xs.length c, .func (.func 18) #[] #[]] w
      (fun e w' => e = .returned (.slice (some ⟨g, 0, none⟩) ys.length c) ∧ RowB w' g 49 2 (prs zs) ∧ LatP (· = g) w w') := fun w g c h hc => by
    have := bDel_any g xs.length c xs w h rfl (by omega) hc
    rwa [hzs, ← hyl] at this
  have HSort : ∀ w g c, RowB w g 49 2 (prs zs) → Calls Tryz.prog 19 #[.slice (some ⟨g, 0, none⟩) ys.length c, .func (.func 20) #[] #[]] w (fRegSortPost w g (prs ys)) := fun w g c h => by
    have := bSort_any g ys.length c zs w h hyl.symm few (fun x hx => hxp x (by rw [← hzs] at hx; exact (List.mem_filter.1 hx).1))
    rwa [hys] at this
  have HTot1 : ∀ w g c, RowB w g 49 2 (prs ys) → Calls Tryz.prog 21 #[.slice (some ⟨g, 0, none⟩) k c] w (fun e w' => e = .returned (.agg #[.int .i64 (s1 (ys.take k)), .int .i64 (s2 (ys.take k))]) ∧ Lat w w') := fun w g c h => by
    refine fTotal_any (some ⟨g, 0, none⟩) k c (ys.take k) w ?_ (by omega) ?_ ?_
    · have := h.row.take (k := k) (by rw [prs_len]; omega)
      rwa [show (prs ys).take k = prs (ys.take k) by simp [prs]] at this
    · intro x hx
      obtain ⟨y, hy, rfl⟩ := List.mem_map.1 hx
      exact hyp y (List.mem_of_mem_take hy)
    · intro x hx
      obtain ⟨y, hy, rfl⟩ := List.mem_map.1 hx
      have := hysb y (List.mem_of_mem_take hy)
      omega
  have HTot2 : ∀ w g c, RowB w g 49 2 (prs ys) → Calls Tryz.prog 21 #[.slice (some ⟨g, (ys.length - k) * 2, none⟩) k c] w (fun e w' => e = .returned (.agg #[.int .i64 (s1 (ys.drop (ys.length - k))), .int .i64 (s2 (ys.drop (ys.length - k)))]) ∧ Lat w w') := fun w g c h => by
    refine fTotal_any (some ⟨g, (ys.length - k) * 2, none⟩) k c (ys.drop (ys.length - k)) w ?_ (by omega) ?_ ?_
    · have := h.row.drop (k := ys.length - k) (by rw [prs_len]; omega)
      rw [show (prs ys).drop (ys.length - k) = prs (ys.drop (ys.length - k)) by simp [prs], prs_len, show ys.length - (ys.length - k) = k by omega, Nat.zero_add] at this
      exact this
    · intro x hx
      obtain ⟨y, hy, rfl⟩ := List.mem_map.1 hx
      exact hyp y (List.mem_of_mem_drop hy)
    · intro x hx
      obtain ⟨y, hy, rfl⟩ := List.mem_map.1 hx
      have := hysb y (List.mem_of_mem_drop hy)
      omega
  unfold biasNum biasDen
  obtain ⟨mp, hmp⟩ : ∃ z, s1 (ys.take k) = z := ⟨_, rfl⟩
  obtain ⟨ms, hms⟩ : ∃ z, s2 (ys.take k) = z := ⟨_, rfl⟩
  obtain ⟨lp, hlp⟩ : ∃ z, s1 (ys.drop (ys.length - k)) = z := ⟨_, rfl⟩
  obtain ⟨ls, hls⟩ : ∃ z, s2 (ys.drop (ys.length - k)) = z := ⟨_, rfl⟩
  rw [hmp, hms] at HTot1 T1
  rw [hlp, hls] at HTot2 T2
  rw [hmp, hms, hlp, hls]
  have hzl0 : xs.length ≤ 1000000 := by omega
  obtain ⟨⟨mp0, mp1⟩, ms0, ms1⟩ := T1
  obtain ⟨⟨lp0, lp1⟩, ls0, ls1⟩ := T2
  have m1 := mul_bound' ms0 ms1 lp0 lp1
  have m2 := mul_bound' mp0 mp1 ls0 ls1
  have HP1 : ∀ (w : World) (g : Nat), Blk w g 3 #[.int .i64 ms, .int .i64 lp] → Calls Tryz.prog 23 #[.slice (some ⟨g, 0, none⟩) 2 2] w (fun e w' => e = .returned (.int .i64 (ms * lp)) ∧ w = w') := fun w g h => fProduct_any ms lp g 2 _ w h (by omega) (by omega) (by omega) (by omega)
  have HP2 : ∀ (w : World) (g : Nat), Blk w g 3 #[.int .i64 mp, .int .i64 ls] → Calls Tryz.prog 23 #[.slice (some ⟨g, 0, none⟩) 2 2] w (fun e w' => e = .returned (.int .i64 (mp * ls)) ∧ w = w') := fun w g h => fProduct_any mp ls g 2 _ w h (by omega) (by omega) (by omega) (by omega)
  have HGap : ∀ w, Calls Tryz.prog 22 #[.int .i64 (ms * lp), .int .i64 (mp * ls), .int .i64 1, .int .i64 1] w (ShB w (gapX (ms * lp - mp * ls) (mp * ls)) (gapB (mp * ls))) := fun w => by
    by_cases h0 : mp * ls = 0
    · have := fGap_none (ms * lp) (mp * ls) 1 1 w (by rw [Int.mul_one]; exact h0) (by omega) (by omega)
      rw [Int.mul_one, Int.mul_one, Int.one_mul] at this
      exact this
    · have := fGap_some (ms * lp) (mp * ls) 1 1 w (by omega) (by omega) (by omega) (by omega) (by omega) (by omega) (by omega) (by rw [Int.mul_one, Int.mul_one, Int.one_mul]; exact fits_small (by omega) (by omega) (by omega) (by omega))
      rw [Int.mul_one, Int.mul_one, Int.one_mul] at this
      exact this
  have gX := gapX_good (ms * lp - mp * ls) (mp * ls)
  have HZ : Hid (gapB (mp * ls) = false → gapX (ms * lp - mp * ls) (mp * ls) = zA ∧ (if mp * ls = 0 then (7 : Int) else 0) = 7) := by
    intro h
    have h0 : mp * ls = 0 := by
      by_cases h0 : mp * ls = 0
      · exact h0
      · rw [gapB_yes h0] at h; cases h
    exact ⟨by rw [h0]; exact gapX_no _, if_pos h0⟩
  have HY : Hid (gapB (mp * ls) = true → (if mp * ls = 0 then (7 : Int) else 0) = 0) := by
    intro h
    have h0 : mp * ls ≠ 0 := by
      intro h0
      rw [h0] at h; cases h
    exact if_neg h0
  obtain ⟨er, her⟩ : ∃ er, (if mp * ls = 0 then (7 : Int) else 0) = er := ⟨_, rfl⟩
  obtain ⟨X, hX⟩ : ∃ X, gapX (ms * lp - mp * ls) (mp * ls) = X := ⟨_, rfl⟩
  obtain ⟨b, hb⟩ : ∃ b, gapB (mp * ls) = b := ⟨_, rfl⟩
  obtain ⟨q1, hq1⟩ : ∃ z, ms * lp = z := ⟨_, rfl⟩
  obtain ⟨q2, hq2⟩ : ∃ z, mp * ls = z := ⟨_, rfl⟩
  rw [her] at HZ HY ⊢
  rw [hX] at HGap gX HZ ⊢
  rw [hb] at HGap HZ HY
  rw [hq1] at HP1 HGap
  rw [hq2] at HP2 HGap
  clear hb hX her hq1 hq2 m1 m2
  have BF := bias_facts k1 k2 few
  exact fBias_walk A1 n1 c1 A2 n2 c2 k ys.length (ys.length - k) xs.length ((ys.length : Int) / 2) P.sum S.sum mp ms lp ls q1 q2 er X b (prs xs) (prs zs) (prs ys) w
    (fun w1 hl => (HH' w1 hl).mono fun e w' h => by
      obtain ⟨l1, v, rfl, hown⟩ := h
      obtain ⟨g, c, rfl, hg, hc⟩ := own_some hown hxne
      obtain ⟨RB, _, _, _⟩ := RowB.of_own hown (prs_one xs)
      rw [prs_len] at hc ⊢
      exact ⟨g, c, rfl, l1, hg, hc, RB⟩)
    HDel HSort HTot1 HTot2 HP1 HP2 HGap gX HZ HY hLn BF.q0 BF.q1 BF.q8 BF.q9 BF.q10 rfl (Lib.hid BF.q2) (Lib.hid BF.q3) (Lib.hid BF.q4) (Lib.hid BF.q5) (Lib.hid BF.q6) (Lib.hid BF.q7)
end Go.Proofs.YtkjnjooggicgiaaGreat

/- Fair: the iterator over the pairs. -/
namespace Go.Proofs.YtkjnjooggicgiaaGreat
open Go.RowKit
set_option linter.unusedSimpArgs false

/-- The pairs of region i and the first k others. -/
def innerP (xs : List (Int × Int)) (i k : Nat) : List (Nat × Nat) := ((List.range k).filter fun j => !(i == j) && decide (0 < (xs.getD j (0, 0)).1)).map fun j => (i, j)
def pairsP (xs : List (Int × Int)) (n : Nat) : List (Nat × Nat) := (List.range n).flatMap fun i => if (xs.getD i (0, 0)).1 = 0 ∨ (xs.getD i (0, 0)).2 = 0 then [] else innerP xs i xs.length
theorem innerP_yes {xs : List (Int × Int)} {i k : Nat} {c d : Int} (hk : xs[k]? = some (c, d)) (h : i ≠ k) (h0 : 0 < c) : innerP xs i (k + 1) = innerP xs i k ++ [(i, k)] := by
  have e1 : (i == k) = false := by simpa using h
  simp [innerP, List.range_succ, List.filter_append, e1, hk, h0, h]
theorem innerP_no {xs : List (Int × Int)} {i k : Nat} {c d : Int} (hk : xs[k]? = some (c, d)) (h : i = k ∨ ¬ 0 < c) : innerP xs i (k + 1) = innerP xs i k := by
  rcases h with h | h
  · subst h
    simp [innerP, List.range_succ, List.filter_append]
  · have : ¬ (0 : Int) < c := h
    simp [innerP, List.range_succ, List.filter_append, hk]; omega
theorem pairsP_skip {xs : List (Int × Int)} {i : Nat} {a b : Int} (hi : xs[i]? = some (a, b)) (h : a = 0 ∨ b = 0) : pairsP xs (i + 1) = pairsP xs i := by
  have e2 : xs.getD i (0, 0) = (a, b) := by rw [List.getD, hi]; rfl
  rw [pairsP, List.range_succ, List.flatMap_append, ← pairsP]
  simp only [List.flatMap_cons, List.flatMap_nil, e2]
  rw [if_pos h]; simp
theorem pairsP_more {xs : List (Int × Int)} {i : Nat} {a b : Int} (hi : xs[i]? = some (a, b)) (h : ¬ (a = 0 ∨ b = 0)) : pairsP xs (i + 1) = pairsP xs i ++ innerP xs i xs.length := by
  have e2 : xs.getD i (0, 0) = (a, b) := by rw [List.getD, hi]; rfl
  rw [pairsP, List.range_succ, List.flatMap_append, ← pairsP]
  simp only [List.flatMap_cons, List.flatMap_nil, e2]
  rw [if_neg h]; simp

theorem innerP_len (xs : List (Int × Int)) (i k : Nat) : (innerP xs i k).length ≤ k := by
  unfold innerP
  rw [List.length_map]
  have := List.length_filter_le (fun j => !(i == j) && decide (0 < (xs.getD j (0, 0)).1)) (List.range k)
  rwa [List.length_range] at this
theorem pairsP_len (xs : List (Int × Int)) : ∀ i, (pairsP xs i).length ≤ i * xs.length
  | 0 => by simp [pairsP]
  | i + 1 => by
    have ih := pairsP_len xs i
    have h2 := innerP_len xs i xs.length
    rw [pairsP, List.range_succ, List.flatMap_append, ← pairsP, List.length_append, Nat.succ_mul]
    simp only [List.flatMap_cons, List.flatMap_nil, List.append_nil]
    split
    · simp; omega
    · omega
theorem pairs_len {xs : List (Int × Int)} {i k : Nat} (hi : i < xs.length) (hk : k < xs.length) : (pairsP xs i ++ innerP xs i k).length ≤ xs.length * xs.length := by
  have h1 := pairsP_len xs i
  have h2 := innerP_len xs i k
  have h3 : (i + 1) * xs.length ≤ xs.length * xs.length := Nat.mul_le_mul_right _ hi
  rw [Nat.succ_mul] at h3
  rw [List.length_append]
  omega

/-- A round of the loop over the pairs, as the iterator sees it. -/
def YieldsP (xs : List (Int × Int)) (l : Nat) (theirs : Nat → Prop) (I : List (Nat × Nat) → Option Nat → World → Prop) : Prop :=
  ∀ (L : List (Nat × Nat)) (g : Option Nat) (W : World) (i k : Nat) (a b c d : Int), xs[i]? = some (a, b) → xs[k]? = some (c, d) → ¬ (a = 0 ∨ b = 0) → 0 < c → i ≠ k → L.length ≤ xs.length * xs.length → I L g W →
    YieldAt Fence.wide 2 Tryz.prog l #[.agg #[.int .i64 i, .int .i64 k], .agg #[.int .i64 a, .int .i64 b, .int .i64 c, .int .i64 d]] W (fun e W' => ∃ b, e = .returned (.bool b) ∧ (b = true ∧ LatP (fun q => theirs q ∨ some q = g) W W' ∧ ∃ g', I (L ++ [(i, k)]) g' W'))
theorem prs_get {xs : List (Int × Int)} {k : Nat} {x : List Value} (h : (prs xs)[k]? = some x) : ∃ a b, xs[k]? = some (a, b) ∧ x = [.int .i64 a, .int .i64 b] := by
  unfold prs at h
  rw [List.getElem?_map] at h
  cases hx : xs[k]? with
  | none => rw [hx] at h; cases h
  | some y => rw [hx] at h; simp only [Option.map_some, Option.some.injEq] at h; exact ⟨y.1, y.2, rfl, h.symm⟩

theorem blk_apart {W : World} {g g' : Nat} {t t' : TypeId} {cs cs' : Array Value} (h : Blk W g t cs) (h' : Blk W g' t' cs') (ht : t ≠ t') : g ≠ g' := by
  intro e
  subst e
  unfold Blk at h h'
  rw [h] at h'
  cases h'
  exact ht rfl

set_option maxRecDepth 100000 in
set_option maxHeartbeats 4000000 in
theorem pairs_iter (xs : List (Int × Int)) (n c bt gR : Nat) (hn : xs.length = n) (hn1 : n ≤ 1000000) (l : Nat) (theirs : Nat → Prop) (I : List (Nat × Nat) → Option Nat → World → Prop) (W0 : World)
    (hbt : Blk W0 bt 47 #[.slice (some ⟨gR, 0, none⟩) n c]) (hR : RowB W0 gR 49 2 (prs xs)) (hI : ∀ L g W W', I L g W → Lat W W' → I L g W')
    (hg : ∀ L g W, I L g W → ∀ k, g = some k → ∃ cs, Blk W k 44 cs) (hth : ∀ k, theirs k → k < W0.heap.size ∧ k ≠ bt ∧ k ≠ gR) (hY : YieldsP xs l theirs I) (g0 : Option Nat) (hI0 : I [] g0 W0) :
    Calls Tryz.prog 30 #[.func (.yield l) #[] #[], .pointer (some ⟨bt, 0, none⟩)] W0 (fun e W' => ∃ v, e = .returned v ∧ ∃ g, I (pairsP xs n) g W') := by
  have HI := Lib.hid hI
  have HG := Lib.hid hg
  have HTH := Lib.hid hth
  clear hI hg hth
  have cb := hbt.cell 0
  go_enter Tryz.func30, Tryz.ntmps30
  go_wp2
  go_step3
  go_wp2
  go_step3
  go_wp2
  go_loopw [9] (fun t wr => ∃ (i : Nat) (g : Option Nat), i ≤ n ∧ t = .int .i64 i ∧ I (pairsP xs i) g wr ∧ Blk wr bt 47 #[.slice (some ⟨gR, 0, none⟩) n c] ∧ RowB wr gR 49 2 (prs xs) ∧ W0.heap.size ≤ wr.heap.size) (fun t _ => n - (intOf t).toNat)
  case atStart => exact ⟨0, g0, Nat.zero_le _, rfl, hI0, hbt, hR, Nat.le_refl _⟩
  case round =>
    obtain ⟨i, g, hi, rfl, hIi, hbi, hRi, hwi⟩ := hrel
    clear hbt hR hI0 cb
    by_cases hlt : i < n
    · obtain ⟨⟨a, b⟩, hab⟩ : ∃ y, xs[i]? = some y := ⟨xs[i], List.getElem?_eq_getElem (by omega)⟩
      have hr := hRi.range (show (prs xs)[i]? = some [.int .i64 a, .int .i64 b] by unfold prs; rw [List.getElem?_map, hab]; rfl)
      have hltI : (i : Int) < (n : Int) := by omega
      by_cases hsk : a = 0 ∨ b = 0
      · have HP := Lib.hid (pairsP_skip hab hsk)
        by_cases ha : a = 0
        · clear hab hsk
          subst ha
          go_wp2_with (refine wpList_load_mid (by rfl) 49 (.tmp 12) (by rfl) gR (i * 2) (by rfl) [.int .i64 0, .int .i64 b] _ hr Tryz.underlying49 rfl (by kernel_rfl) ?_)
          generalize hV9 : wr.alloc _ = V9
          have L9 : Lat wr V9 := by rw [← hV9]; exact Lat.alloc _ _
          clear hV9
          go_roundw
          case rel => exact ⟨i + 1, g, by omega, by go_num, by rw [HP.out]; exact HI.out _ _ _ _ hIi L9, hbi.later L9, hRi.later L9, Nat.le_trans hwi L9.size⟩
          case measure => simp [intOf]; omega
        · have hb : b = 0 := hsk.resolve_left ha
          clear hab hsk
          subst hb
          go_wp2_with (refine wpList_load_mid (by rfl) 49 (.tmp 12) (by rfl) gR (i * 2) (by rfl) [.int .i64 a, .int .i64 0] _ hr Tryz.underlying49 rfl (by kernel_rfl) ?_)
          generalize hV9 : wr.alloc _ = V9
          have L9 : Lat wr V9 := by rw [← hV9]; exact Lat.alloc _ _
          clear hV9
          go_roundw
          case rel => exact ⟨i + 1, g, by omega, by go_num, by rw [HP.out]; exact HI.out _ _ _ _ hIi L9, hbi.later L9, hRi.later L9, Nat.le_trans hwi L9.size⟩
          case measure => simp [intOf]; omega
      · have HP := Lib.hid (pairsP_more hab hsk)
        have ha : ¬ a = 0 := fun h => hsk (.inl h)
        have hb : ¬ b = 0 := fun h => hsk (.inr h)
        have hab0 : (a == 0 || b == 0) = false := by simp [ha, hb]
        have ha0 : (a == 0) = false := by simp [ha]
        have hb0 : (b == 0) = false := by simp [hb]
        go_upto_region 4 with (refine wpList_load_mid (by rfl) 49 (.tmp 12) (by rfl) gR (i * 2) (by rfl) [.int .i64 a, .int .i64 b] _ hr Tryz.underlying49 rfl (by kernel_rfl) ?_)
        refine name1 (Q := fun W => Code.wp _ _ _ _ W) ?_
        intro W1 L1 hs1 k4
        obtain ⟨b4, hb4⟩ : ∃ b4, wr.heap.size = b4 := ⟨_, rfl⟩
        rw [hb4] at k4 ⊢
        have hw4 : W0.heap.size ≤ b4 := by rw [← hb4]; exact hwi
        clear hb4 hs1
        have hbi1 := hbi.later L1
        have hRi1 := hRi.later L1
        have hI1 := HI.out _ _ _ _ hIi L1
        have hw1 := Nat.le_trans hwi L1.size
        have c0 := hbi1.cell 0
        clear hr hIi hbi hRi
        go_wp2
        go_loopw [24] (fun t wx => ∃ (k : Nat) (g : Option Nat), k ≤ n ∧ t = .int .i64 k ∧ I (pairsP xs i ++ innerP xs i k) g wx ∧ Blk wx bt 47 #[.slice (some ⟨gR, 0, none⟩) n c] ∧ RowB wx gR 49 2 (prs xs) ∧ Blk wx b4 49 #[.int .i64 a, .int .i64 b] ∧ W0.heap.size ≤ wx.heap.size) (fun t _ => n - (intOf t).toNat)
        case atStart => exact ⟨0, g, Nat.zero_le _, rfl, by simpa [innerP] using hI1, hbi1, hRi1, k4, hw1⟩
        case round =>
          obtain ⟨k, g2, hk, rfl, hIk, hbk, hRk, k4, hwk⟩ := hrel
          clear hbi1 hRi1 hI1 c0
          by_cases hlk : k < n
          · obtain ⟨⟨c', d⟩, hcd⟩ : ∃ y, xs[k]? = some y := ⟨xs[k], List.getElem?_eq_getElem (by omega)⟩
            have hr := hRk.range (show (prs xs)[k]? = some [.int .i64 c', .int .i64 d] by unfold prs; rw [List.getElem?_map, hcd]; rfl)
            have hlkI : (k : Int) < (n : Int) := by omega
            by_cases hsk2 : i = k ∨ ¬ 0 < c'
            · have HP2 := Lib.hid (innerP_no (i := i) hcd hsk2)
              by_cases hik : i = k
              · have hik0 : ((i : Int) != (k : Int)) = false := by simp [hik]
                clear hsk2 hik
                go_wp2_with (refine wpList_load_mid (by rfl) 49 (.tmp 27) (by rfl) gR (k * 2) (by rfl) [.int .i64 c', .int .i64 d] _ hr Tryz.underlying49 rfl (by kernel_rfl) ?_)
                generalize hV9 : wr.alloc _ = V9
                have L9 : Lat wr V9 := by rw [← hV9]; exact Lat.alloc _ _
                clear hV9
                go_roundw
                case rel => exact ⟨k + 1, g2, by omega, by go_num, by rw [HP2.out]; exact HI.out _ _ _ _ hIk L9, hbk.later L9, hRk.later L9, k4.later L9, Nat.le_trans hwk L9.size⟩
                case measure => simp [intOf]; omega
              · have hc0 : ¬ 0 < c' := hsk2.resolve_left hik
                have hik0 : ((i : Int) != (k : Int)) = true := by simp; omega
                have hikI : ¬ (i : Int) = (k : Int) := by omega
                clear hsk2
                go_wp2_with (refine wpList_load_mid (by rfl) 49 (.tmp 27) (by rfl) gR (k * 2) (by rfl) [.int .i64 c', .int .i64 d] _ hr Tryz.underlying49 rfl (by kernel_rfl) ?_)
                generalize hV9 : wr.alloc _ = V9
                have L9 : Lat wr V9 := by rw [← hV9]; exact Lat.alloc _ _
                clear hV9
                go_roundw
                case rel => exact ⟨k + 1, g2, by omega, by go_num, by rw [HP2.out]; exact HI.out _ _ _ _ hIk L9, hbk.later L9, hRk.later L9, k4.later L9, Nat.le_trans hwk L9.size⟩
                case measure => simp [intOf]; omega
            · have hik : i ≠ k := fun h => hsk2 (.inl h)
              have hc0 : 0 < c' := by
                rcases Int.lt_or_le 0 c' with h | h
                · exact h
                · exact absurd (.inr (by omega)) hsk2
              have HP2 := Lib.hid (innerP_yes hcd hik hc0)
              have hik0 : ((i : Int) != (k : Int)) = true := by simp; omega
              have hikI : ¬ (i : Int) = (k : Int) := by omega
              have HY := fun g W h => hY (pairsP xs i ++ innerP xs i k) g W i k a b c' d hab hcd hsk hc0 hik (pairs_len (by omega) (by omega)) h
              go_upto_region 7 with (refine wpList_load_mid (by rfl) 49 (.tmp 27) (by rfl) gR (k * 2) (by rfl) [.int .i64 c', .int .i64 d] _ hr Tryz.underlying49 rfl (by kernel_rfl) ?_)
              refine name1 (Q := fun W => Code.wp _ _ _ _ W) ?_
              intro W2 L2 hs2 k6
              have k4 := k4.later L2
              have d0 := k4.cell 0
              have d1 := k4.cell 1
              have d2 := k6.cell 0
              have d3 := k6.cell 1
              obtain ⟨fn, tmps, assign, body, hy', hR⟩ := HY g2 W2 (HI.out _ _ _ _ hIk L2)
              have hy : (Instr.yield l #[.agg #[.int .i64 i, .int .i64 k], .agg #[.int .i64 a, .int .i64 b, .int .i64 c', .int .i64 d]]).run Tryz.prog W2 = .ok (.round l fn tmps assign body) W2 := hy'
              clear hy' HY
              refine (wpIn_wide (n := 3)).1 ?_
              gi_wp2
              refine hR.mono ?_
              clear hR hy
              rintro e w6 ⟨_, rfl, rfl, hl6, g3, hI6⟩
              have hbW := hbk.later L2
              have hRW := hRk.later L2
              have hIW := HI.out _ _ _ _ hIk L2
              have hsz : W0.heap.size ≤ W2.heap.size := Nat.le_trans hwk L2.size
              have nb : ¬ (theirs bt ∨ some bt = g2) := fun h => by
                rcases h with h | h
                · exact (HTH.out _ h).2.1 rfl
                · obtain ⟨cs, hb'⟩ := HG.out _ _ _ hIW bt h.symm
                  exact blk_apart hb' hbW (by decide) rfl
              have n4 : ¬ (theirs b4 ∨ some b4 = g2) := fun h => by
                rcases h with h | h
                · have := (HTH.out _ h).1; omega
                · obtain ⟨cs, hb'⟩ := HG.out _ _ _ hIW b4 h.symm
                  exact blk_apart hb' k4 (by decide) rfl
              have nR : ¬ (theirs gR ∨ some gR = g2) := fun h => by
                rcases h with h | h
                · exact (HTH.out _ h).2.2 rfl
                · obtain ⟨cs, hb'⟩ := HG.out _ _ _ hIW gR h.symm
                  obtain ⟨_, cs2, hb2, _⟩ := hRW
                  exact blk_apart hb' hb2 (by decide) rfl
              have hb6 := hbW.keepP hl6 nb
              have k46 := k4.keepP hl6 n4
              have hR6 : RowB w6 gR 49 2 (prs xs) := hRW.kept (hl6.block _ hRW.lt nR)
              have hw6 := Nat.le_trans hsz hl6.size
              clear hl6 d0 d1 d2 d3 k6 k4 hbW hRW hIW hsz nb n4 nR hbk hRk hIk hs2 L2
              gi_wp2
              go_wp2
              go_roundw
              case rel => exact ⟨k + 1, g3, by omega, by go_num, by rw [HP2.out, ← List.append_assoc]; exact hI6, hb6, hR6, k46, hw6⟩
              case measure => simp [intOf]; omega
          · obtain rfl : k = n := by omega
            have HX : Hid (innerP xs i xs.length = innerP xs i k) := by show _ = _; rw [hn]
            go_wp2
            go_roundw
            case rel => exact ⟨i + 1, g2, by omega, by go_num, by rw [HP.out, HX.out]; exact hIk, hbk, hRk, hwk⟩
            case measure => simp [intOf]; omega
    · obtain rfl : i = n := by omega
      go_wp2
      rw [Exit.noGoto_normal]
      refine bodyPost_end (results_none rfl _ _ _) rfl ?_
      exact ⟨_, rfl, g, hIi⟩
end Go.Proofs.YtkjnjooggicgiaaGreat

/- Fair: the unstable pairs. -/
namespace Go.Proofs.YtkjnjooggicgiaaGreat
open Go.RowKit
set_option linter.unusedSimpArgs false

/-- The pairs of which a seat can be moved so that it helps. -/
def unstB (m : Int) (xs : List (Int × Int)) (y : Nat × Nat) : Bool := helpsF m (xs.getD y.1 (0, 0)).1 (xs.getD y.1 (0, 0)).2 (xs.getD y.2 (0, 0)).1 (xs.getD y.2 (0, 0)).2
def unstR (m : Int) (xs : List (Int × Int)) (L : List (Nat × Nat)) : List (Int × Int) := (L.filter (unstB m xs)).map fun y => ((y.1 : Int), (y.2 : Int))
theorem unstR_snoc {m : Int} {xs : List (Int × Int)} {L : List (Nat × Nat)} {i k : Nat} {a b c d : Int} (hi : xs[i]? = some (a, b)) (hk : xs[k]? = some (c, d)) :
    unstR m xs (L ++ [(i, k)]) = if helpsF m a b c d = true then unstR m xs L ++ [((i : Int), (k : Int))] else unstR m xs L := by
  have e : unstB m xs (i, k) = helpsF m a b c d := by simp [unstB, hi, hk]
  unfold unstR
  rw [List.filter_append]
  cases h : helpsF m a b c d <;> simp [e, h]

theorem pairs_fn (A : Option Addr) (n c : Nat) (w : World) : Calls Tryz.prog 15 #[.slice A n c] w (fun e w' => e = .returned (.func (.func 30) #[] #[.pointer (some ⟨w.heap.size, 0, none⟩)]) ∧ Lat w w' ∧ Blk w' w.heap.size 47 #[.slice A n c]) := by
  go_enter Tryz.func15, Tryz.ntmps15
  go_wp2
  refine name1 (Q := fun W => bodyPost _ _ _ _ _ W) ?_
  intro W hl hs k1
  go_ret
  exact ⟨rfl, hl, k1⟩

theorem lat_putObj {w : World} {l : Nat} {o : Obj} (_hl : l < w.heap.size) : LatP (· = l) w (w.putObj l o) := by
  refine ⟨rfl, rfl, rfl, by simp [World.putObj], fun k _ hk => ?_⟩
  simp only [World.putObj]
  rw [Array.getElem?_setIfInBounds_ne (fun h => hk h.symm)]
theorem putObj_at {w : World} {l : Nat} {o : Obj} (hl : l < w.heap.size) : (w.putObj l o).heap[l]? = some o := World.putObj_heap_same hl
theorem OwnM.low {w : World} {B B' m : Nat} {E : TypeId} {v : Value} {xs : List (List Value)} (h : OwnM w B E m v xs) (hB : B' ≤ B) : OwnM w B' E m v xs := by
  obtain ⟨h0, h1, h2⟩ := h
  refine ⟨h0, h1, ?_⟩
  rcases h2 with h2 | ⟨g, cap, cur, e, hb, r⟩
  · exact .inl h2
  · exact .inr ⟨g, cap, cur, e, Nat.le_trans hB hb, r⟩
theorem zip_two (t u : Tmp) (x y : Value) : (#[t, u] : Array Tmp).zip #[x, y] = #[(t, x), (u, y)] := by
  apply Array.ext'
  rw [Array.toList_zip]
  rfl
theorem OwnM.at_ {w : World} {B m : Nat} {E : TypeId} {v : Value} {xs : List (List Value)} (h : OwnM w B E m v xs) : ∀ g, v.ownBlock = some g → B ≤ g ∧ g < w.heap.size ∧ ∃ cs, Blk w g E cs := by
  intro g hg
  rcases h.2.2 with ⟨rfl, _⟩ | ⟨g', cap, cur, rfl, hb, hh, _⟩
  · cases hg
  · cases hg
    have hB : Blk w g' E cur := hh
    exact ⟨hb, hB.lt, cur, hB⟩

set_option maxRecDepth 100000 in
set_option maxHeartbeats 8000000 in
theorem fUnst_in (A1 : Option Addr) (n1 c1 : Nat) (A2 : Option Addr) (n2 c2 : Nat) (nx : Nat) (m sp ss : Int) (xs : List (Int × Int)) (w : World)
    (HH : ∀ w1, Lat w w1 → Calls Tryz.prog 13 #[.slice A1 n1 c1, .slice A2 n2 c2] w1 (fun e w' => ∃ g c, e = .returned (.tuple #[.slice (some ⟨g, 0, none⟩) nx c, .agg #[.int .i64 sp, .int .i64 ss], .int .i64 0]) ∧ Lat w1 w' ∧ w1.heap.size ≤ g ∧ nx ≤ c ∧ RowB w' g 49 2 (prs xs)))
    (hnx : xs.length = nx) (hnb : nx ≤ 1000) (hm : inAll 11 15 [m] = true)
    (HHp : ∀ p s q t w, (p, s) ∈ xs → (q, t) ∈ xs → ¬ (p = 0 ∨ s = 0) → 0 < q → Calls Tryz.prog 16 #[.agg #[.int .i64 p, .int .i64 s, .int .i64 q, .int .i64 t], .int .i64 m] w (fun e w' => e = .returned (.bool (helpsF m p s q t)) ∧ Lat w w')) :
    Calls Tryz.prog 6 #[.slice A1 n1 c1, .slice A2 n2 c2, .int .i64 m] w (fun e w' => ∃ v, e = .returned (.tuple #[v, .int .i64 0]) ∧ OwnM w' w.heap.size 44 2 v (prs (unstR m xs (pairsP xs nx))) ∧ Lat w w') := by
  have HI := Lib.hid hm
  clear hm
  refine calls_of_marks Tryz.func6 rfl ?_
  simp only [Tryz.ntmps6, List.size_toArray, List.length_cons, List.length_nil, Nat.reduceAdd, Nat.reduceSub, Array.replicate_succ, Array.replicate_zero, List.push_toArray, List.append_toArray, List.nil_append, List.cons_append]
  go_wp2_with fail
  refine name1 (Q := fun W => Calls _ _ _ W _) ?_
  intro W hl hsz k5
  refine (HH W hl).mono ?_
  rintro e w1 ⟨g, c, rfl, l1, hg, hc, RB⟩
  have k5 := k5.later l1
  have c5 := k5.cell 0
  have h5 := k5.lt
  have L1 := hl.trans l1
  clear l1 HH hg hsz hl
  go_wp2_with fail
  refine name2 (Q := fun W => Calls _ _ _ W _) ?_
  intro w2 l2 hs2 k9 kb
  refine (fWithin_any 11 15 (some ⟨w1.heap.size + 1, 0, none⟩) 1 1 [m] w2 (Sl.of_blk' (t := 3) kb rfl) (by omega)).mono ?_
  rintro e w3 ⟨rfl, l3⟩
  rw [HI.out]
  have k5 := (k5.later l2).later l3
  have RB := (RB.later l2).later l3
  have hb5 := k5.lt
  have hgl := RB.lt
  have L3 := (L1.trans l2).trans l3
  clear c5 h5 k9 kb hs2 l2 l3 L1
  go_wp2_with fail
  refine name1 (Q := fun W => Calls _ _ _ W _) ?_
  intro w4 l4 hs4 k11
  refine (pairs_fn (some ⟨g, 0, none⟩) nx c w4).mono ?_
  rintro e w5 ⟨rfl, l5, kbt⟩
  have k5 := (k5.later l4).later l5
  have RB := (RB.later l4).later l5
  have k11 := k11.later l5
  have L5 := (L3.trans l4).trans l5
  go_wp2_with fail
  rename_i KN hKN
  have h34 : w3.heap.size < w4.heap.size := hs4
  have h45 : w4.heap.size < w5.heap.size := kbt.lt
  obtain ⟨b5, e5⟩ : ∃ z, w.heap.size = z := ⟨_, rfl⟩
  obtain ⟨b11, e11⟩ : ∃ z, w3.heap.size = z := ⟨_, rfl⟩
  obtain ⟨bt, ebt⟩ : ∃ z, w4.heap.size = z := ⟨_, rfl⟩
  rw [e5] at k5 hb5 ⊢
  rw [e11] at k11 hb5 hgl h34 ⊢
  rw [ebt] at kbt h34 h45 ⊢
  clear l4 l5 hs4
  refine rangeFunc_any (id := 0) (gf := 30) (lb := #[.pointer (some ⟨bt, 0, none⟩)]) (by rfl) (enters_of Tryz.func30 (by kernel_rfl) rfl) ?_
  intro fn W1 hW1
  generalize hrec : recOf _ fn _ _ _ _ = rec at hW1 ⊢
  have hl1 : Lat w5 W1 := by rw [hW1]; exact (Lat.alloc _ _).trans (Lat.alloc _ _)
  have hz1 : W1.heap.size = w5.heap.size + 2 := by rw [hW1]; simp
  have hL1' : W1.heap[w5.heap.size + 1]? = some (.loop (rec .ready none)) := by
    rw [hW1]; have := World.alloc_heap_new (w5.alloc (.deferred (some []))) (.loop (rec .ready none)); rwa [World.size_alloc] at this
  have hK1 : W1.heap[w5.heap.size]? = some (.deferred (some [])) := by
    rw [hW1]; exact (Below.heap_alloc _ _ _ (by simp)).trans (World.alloc_heap_new w5 _)
  clear hW1
  obtain ⟨I, hIe⟩ : ∃ I : List (Nat × Nat) → Option Nat → World → Prop, I = fun L g W => ∃ ov : Value, g = ov.ownBlock ∧ W.heap[w5.heap.size + 1]? = some (.loop (rec .ready none)) ∧ W.heap[w5.heap.size]? = some (.deferred (some [])) ∧ Blk W b5 3 #[.int .i64 m] ∧ Blk W b11 27 #[ov] ∧ OwnM W w5.heap.size 44 2 ov (prs (unstR m xs L)) ∧ LatP (· = b11) w5 W := ⟨_, rfl⟩
  have hlt_of : ∀ {W : World} {k : Nat} {o : Obj}, W.heap[k]? = some o → k < W.heap.size := fun h => (Array.getElem?_eq_some_iff.1 h).1
  have hIstab : ∀ L g W W', I L g W → Lat W W' → I L g W' := by
    intro L g W W' h hl
    rw [hIe] at h ⊢
    obtain ⟨ov, e, q1, q2, q5, q11, qo, q4⟩ := h
    exact ⟨ov, e, (Below.block hl _ (hlt_of q1)).trans q1, (Below.block hl _ (hlt_of q2)).trans q2, q5.later hl, q11.later hl, qo.later hl, q4.trans (hl.p _)⟩
  have hIg : ∀ L g W, I L g W → ∀ k, g = some k → ∃ cs, Blk W k 44 cs := by
    intro L g W h k hk
    rw [hIe] at h
    obtain ⟨ov, e, q1, q2, q5, q11, qo, q4⟩ := h
    rw [e] at hk
    exact (qo.at_ k hk).2.2
  have hth : ∀ k, (k = b11 ∨ k = w5.heap.size + 1) → k < W1.heap.size ∧ k ≠ bt ∧ k ≠ g := by
    intro k h
    rcases h with rfl | rfl <;> omega
  have hY : YieldsP xs (w5.heap.size + 1) (fun k => k = b11 ∨ k = w5.heap.size + 1) I := by
    intro L gg V i k a b c' d hi hk hab hc0 hik hLl hIL
    rw [hIe] at hIL
    obtain ⟨ov, e, q1, q2, q5, q11, qo, q4⟩ := hIL
    have q1' := q1
    rw [← hrec] at q1
    refine round_any (id := 0) (R := fun bb W' => bb = true ∧ LatP (fun q => (q = b11 ∨ q = w5.heap.size + 1) ∨ some q = gg) V W' ∧ ∃ g', I (L ++ [(i, k)]) g' W') q1 rfl ?_
    rw [hrec]
    rw [zip_two]
    refine wpIn_seq ?_
    refine round_region (fun ⟨_, _, h⟩ => h) rfl ?_
    simp only [List.size_toArray, List.length_cons, List.length_nil, List.foldl_toArray, List.foldl_cons, List.foldl_nil, List.setIfInBounds_toArray, List.set_cons_zero, List.set_cons_succ]
    go_wp2
    refine name1 (Q := fun W => Code.wpIn _ _ _ _ _ _ W) ?_
    intro V1 M1 hv1 k12
    refine round_region (fun ⟨_, _, h⟩ => h) rfl ?_
    go_wp2
    generalize hV2 : V1.alloc _ = V2
    have k13 : Blk V2 V1.heap.size 56 #[.int .i64 a, .int .i64 b, .int .i64 c', .int .i64 d] := by rw [← hV2]; exact Blk.new _ _ _
    have M2 : Lat V1 V2 := by rw [← hV2]; exact Lat.alloc _ _
    clear hV2
    have M := M1.trans M2
    have k12 := k12.later M2
    have q1V : V2.heap[w5.heap.size + 1]? = some (.loop (rec .ready none)) := (Below.block M _ (hlt_of q1')).trans q1'
    have q2V : V2.heap[w5.heap.size]? = some (.deferred (some [])) := (Below.block M _ (hlt_of q2)).trans q2
    refine ⟨q1V, ?_⟩
    have hlV := hlt_of q1V
    have hp1 := lat_putObj (w := V2) (o := .loop (rec .busy none)) hlV
    have hb1 := putObj_at (w := V2) (o := .loop (rec .busy none)) hlV
    obtain ⟨Wb, hWb⟩ : ∃ Wb, V2.putObj (w5.heap.size + 1) (.loop (rec .busy none)) = Wb := ⟨_, rfl⟩
    rw [hWb] at hp1 hb1 ⊢
    clear hWb
    have n12 : ¬ V.heap.size = w5.heap.size + 1 := by have := hlt_of q1'; omega
    have n13 : ¬ V1.heap.size = w5.heap.size + 1 := by have := hlt_of q1'; have := M1.size; omega
    have k12 := k12.keepP hp1 n12
    have k13 := k13.keepP hp1 n13
    have q5b := (q5.later M).keepP hp1 (by omega)
    have q11b := (q11.later M).keepP hp1 (by omega)
    have q2b : Wb.heap[w5.heap.size]? = some (.deferred (some [])) := (hp1.block _ (hlt_of q2V) (by omega)).trans q2V
    have noL : ∀ {Z : World} {oz : Obj} {gz : Nat} {cs : Array Value} {tz : TypeId}, Z.heap[w5.heap.size + 1]? = some (.loop (rec .busy none)) → Blk Z gz tz cs → gz ≠ w5.heap.size + 1 := by
      intro Z oz gz cs tz h1 h2 h3
      subst h3
      unfold Blk at h2
      rw [h1] at h2
      cases h2
    have hVb : LatP (fun q => (q = b11 ∨ q = w5.heap.size + 1) ∨ some q = gg) V Wb := (M.p _).trans (hp1.wider (fun q h => .inl (.inr h)))
    have qob : OwnM Wb w5.heap.size 44 2 ov (prs (unstR m xs L)) := (qo.later M).kept (fun q hq => hp1.block _ ((qo.later M).at_ q hq).2.1 (fun h => by
      obtain ⟨_, _, cs, h2⟩ := (qo.later M).at_ q hq
      subst h
      unfold Blk at h2
      rw [q1V] at h2
      cases h2))
    have hgg : ∀ q, some q = gg → w5.heap.size ≤ q := fun q h => (qo.at_ q (by rw [← e, ← h])).1
    have hfin : ∀ (Z : World) (ov' : Value), Z.heap[w5.heap.size + 1]? = some (.loop (rec .busy none)) → Z.heap[w5.heap.size]? = some (.deferred (some [])) → Blk Z b5 3 #[.int .i64 m] → Blk Z b11 27 #[ov'] →
        OwnM Z w5.heap.size 44 2 ov' (prs (unstR m xs (L ++ [(i, k)]))) → LatP (fun q => (q = b11 ∨ q = w5.heap.size + 1) ∨ some q = gg) V Z →
        Z.heap[w5.heap.size + 1]? = some (.loop (rec .busy none)) ∧ (true = true ∧ LatP (fun q => (q = b11 ∨ q = w5.heap.size + 1) ∨ some q = gg) V (Z.putObj (w5.heap.size + 1) (.loop (rec .ready none))) ∧ ∃ g', I (L ++ [(i, k)]) g' (Z.putObj (w5.heap.size + 1) (.loop (rec .ready none)))) := by
      intro Z ov' z1 z2 z5 z11 zo zl
      have hp2 := lat_putObj (w := Z) (o := .loop (rec .ready none)) (hlt_of z1)
      have zlx := zl.trans (hp2.wider (fun q h => .inl (.inr h)))
      refine ⟨z1, rfl, zlx, ov'.ownBlock, ?_⟩
      rw [hIe]
      refine ⟨ov', rfl, putObj_at (hlt_of z1), (hp2.block _ (hlt_of z2) (by omega)).trans z2, z5.keepP hp2 (by omega), z11.keepP hp2 (by omega), zo.kept (fun q hq => hp2.block _ (zo.at_ q hq).2.1 (fun h => ?_)), ?_⟩
      · obtain ⟨_, _, cs, h2⟩ := zo.at_ q hq
        subst h
        unfold Blk at h2
        rw [z1] at h2
        cases h2
      · refine ⟨zlx.os.trans q4.os, zlx.tape.trans q4.tape, zlx.output.trans q4.output, Nat.le_trans q4.size zlx.size, fun q hq hm => (zlx.block q (Nat.lt_of_lt_of_le hq q4.size) (fun h => ?_)).trans (q4.block q hq hm)⟩
        rcases h with (h | h) | h
        · exact hm h
        · omega
        · have := hgg q h; omega
    have HF := Lib.hid hfin
    have HU := Lib.hid (unstR_snoc (m := m) (L := L) hi hk)
    have HH1 := fun w => HHp a b c' d w (List.mem_of_getElem? hi) (List.mem_of_getElem? hk) hab hc0
    have hlen : (prs (unstR m xs L)).length ≤ 100000000 := by
      have h1 : (prs (unstR m xs L)).length ≤ L.length := by
        unfold prs unstR
        rw [List.length_map, List.length_map]
        exact List.length_filter_le _ _
      have h2 : xs.length * xs.length ≤ 1000 * 1000 := Nat.mul_le_mul (by omega) (by omega)
      omega
    have hbW : w5.heap.size ≤ Wb.heap.size := by have := hlt_of hb1; omega
    clear hfin q1 q1' q2 q5 q11 qo q4 hp1 M1 M2 M q1V q2V hlV n12 n13 hgg hi hk hab hc0 hik hLl
    have d0 := k13.cell 0
    have d1 := k13.cell 1
    have d2 := k13.cell 2
    have d3 := k13.cell 3
    have d5 := q5b.cell 0
    refine wpIn_block ?_
    refine wpIn_seq ?_
    refine round_region (fun ⟨_, _, h⟩ => h) rfl ?_
    go_wp2_with fail
    refine (HH1 Wb).mono ?_
    rintro e W2 ⟨rfl, lh⟩
    have z1 := (Below.block lh _ (hlt_of hb1)).trans hb1
    have z2 := (Below.block lh _ (hlt_of q2b)).trans q2b
    have z5 := q5b.later lh
    have z11 := q11b.later lh
    have k12 := k12.later lh
    have zo := qob.later lh
    have zl := hVb.trans (lh.p _)
    have hbW := Nat.le_trans hbW lh.size
    clear HH1 d0 d1 d2 d3 d5 hb1 q2b q5b q11b k13 qob hVb lh
    cases hb : helpsF m a b c' d with
    | false =>
      have HL : Hid (unstR m xs (L ++ [(i, k)]) = unstR m xs L) := by show _ = _; rw [HU.out, hb]; rfl
      have HE := Lib.hid (HF.out W2 ov z1 z2 z5 z11 (by rw [HL.out]; exact zo) zl)
      go_wp2
      exact wpIn_cond_false rfl (wpIn_skip ⟨HE.out.1, rfl, HE.out.2.2⟩)
    | true =>
      have HL : Hid (unstR m xs (L ++ [(i, k)]) = unstR m xs L ++ [((i : Int), (k : Int))]) := by show _ = _; rw [HU.out, hb]; rfl
      go_wp2
      refine wpIn_cond_true rfl ?_
      refine round_region (fun ⟨_, _, h⟩ => h) rfl ?_
      have d0 := k12.cell 0
      have d1 := k12.cell 1
      have d2 := z11.cell 0
      have LA := Lat.alloc W2 (.cells #[.int .i64 (i : Int), .int .i64 (k : Int)] 44)
      have hn11 : ∀ g', ov.ownBlock = some g' → b11 ≠ g' := fun g' hg' => by
        obtain ⟨h1, _⟩ := zo.at_ g' hg'
        omega
      go_wp2_with (refine wpList_pushM rfl _ _ 27 (by rfl) w5.heap.size 44 44 (.agg #[.int .i64 0, .int .i64 0]) 2 16 Tryz.underlying27 arrInfoA rfl (by decide) (by decide) ov (prs (unstR m xs L)) [.int .i64 (i : Int), .int .i64 (k : Int)] (by simp [Value.oneCell']) _ W2.heap.size (by rfl) (zo.later LA) (Blk.new _ _ _) rfl 1 (by rfl) hlen (Nat.le_trans hbW LA.size) ?_; intro v' w' own' hgr _; obtain ⟨A', c9, rfl, _⟩ := own'.form; have y11 : Blk w' b11 27 #[ov] := (hgr.block _ (z11.later LA).lt (fun h => hn11 _ h.symm rfl)).trans (z11.later LA); have e0 := y11.cell 0; have f0 := y11.frozen 0)
      refine name_set (Q := fun W => roundEnds _ _ _ 0 Exit.normal _ W) y11 ?_
      intro W4 y114 hk4 hs4 hl4
      have S : LatP (fun q => some q = ov.ownBlock) W2 w' := (LA.p _).trans ⟨hgr.os, hgr.tape, hgr.output, hgr.size, fun j hj hn => hgr.block j hj hn⟩
      have S4 : LatP (fun q => q = b11 ∨ some q = ov.ownBlock) W2 W4 := (S.wider (fun q h => .inr h)).trans (hl4.wider (fun q h => .inl h))
      have no1 : some (w5.heap.size + 1) ≠ ov.ownBlock := fun h => by
        obtain ⟨_, _, cs, h2⟩ := zo.at_ _ h.symm
        unfold Blk at h2
        rw [z1] at h2
        cases h2
      have no2 : some w5.heap.size ≠ ov.ownBlock := fun h => by
        obtain ⟨_, _, cs, h2⟩ := zo.at_ _ h.symm
        unfold Blk at h2
        rw [z2] at h2
        cases h2
      have no5 : some b5 ≠ ov.ownBlock := fun h => by
        obtain ⟨h1, _⟩ := zo.at_ _ h.symm
        omega
      have y1 : W4.heap[w5.heap.size + 1]? = some (.loop (rec .busy none)) := (S4.block _ (hlt_of z1) (fun h => by rcases h with h | h; omega; exact no1 h)).trans z1
      have y2 : W4.heap[w5.heap.size]? = some (.deferred (some [])) := (S4.block _ (hlt_of z2) (fun h => by rcases h with h | h; omega; exact no2 h)).trans z2
      have y5 := z5.keepP S4 (fun h => by rcases h with h | h; omega; exact no5 h)
      have yo := own'.kept (fun q hq => hk4 q (fun h => by have := (own'.at_ q hq).1; omega))
      have yl : LatP (fun q => (q = b11 ∨ q = w5.heap.size + 1) ∨ some q = gg) V W4 := zl.trans (S4.wider (fun q h => by
        rcases h with h | h
        · exact .inl (.inl h)
        · exact .inr (by rw [e]; exact h)))
      have HE := HF.out W4 _ y1 y2 y5 (by simpa using y114) (by rw [HL.out, prs_snoc]; simpa using yo) yl
      exact ⟨HE.1, rfl, HE.2.2⟩
  have hI1 : I [] (Value.slice none 0 0).ownBlock W1 := by
    rw [hIe]
    exact ⟨_, rfl, hL1', hK1, k5.later hl1, k11.later hl1, by simpa [unstR, prs] using OwnM.nil _ _ _ _, hl1.p _⟩
  refine (pairs_iter xs nx c bt g hnx (by omega) (w5.heap.size + 1) (fun k => k = b11 ∨ k = w5.heap.size + 1) I W1 (kbt.later hl1) (RB.later hl1) hIstab hIg hth hY _ hI1).mono ?_
  rintro e W9 ⟨v, rfl, g9, hI9⟩
  rw [hIe] at hI9
  obtain ⟨ov, _, q1, q2, q5, q11, qo, q4⟩ := hI9
  refine ⟨v, rfl, Or.inl ⟨q1, ?_⟩⟩
  have hp := lat_putObj (w := W9) (o := .loop (rec .exhausted none)) (hlt_of q1)
  obtain ⟨Z, hZ⟩ : ∃ Z, W9.putObj (w5.heap.size + 1) (.loop (rec .exhausted none)) = Z := ⟨_, rfl⟩
  rw [hZ] at hp ⊢
  have z2 : Z.heap[w5.heap.size]? = some (.deferred (some [])) := (hp.block _ (hlt_of q2) (by omega)).trans q2
  have z11 := q11.keepP hp (by omega)
  have zo : OwnM Z w5.heap.size 44 2 ov (prs (unstR m xs (pairsP xs nx))) := qo.kept (fun q hq => hp.block _ (qo.at_ q hq).2.1 (fun h => by
    obtain ⟨_, _, cs, h2⟩ := qo.at_ q hq
    subst h
    unfold Blk at h2
    rw [q1] at h2
    cases h2))
  have hp2 := lat_putObj (w := Z) (o := .deferred none) (hlt_of z2)
  have LZ : Lat w (Z.putObj w5.heap.size (.deferred none)) := lat_over hp2 (lat_over hp (lat_over q4 L5 (by omega)) (by omega)) (by omega)
  have zo2 : OwnM (Z.putObj w5.heap.size (.deferred none)) w5.heap.size 44 2 ov (prs (unstR m xs (pairsP xs nx))) := zo.kept (fun q hq => hp2.block _ (zo.at_ q hq).2.1 (fun h => by
    obtain ⟨_, _, cs, h2⟩ := zo.at_ q hq
    subst h
    unfold Blk at h2
    rw [z2] at h2
    cases h2))
  dsimp only
  have d0 := z11.cell 0
  have HZ := Lib.hid zo2
  have HL := Lib.hid LZ
  clear hp hp2 zo q1 q2 q5 q11 qo q4 hY hIg hIstab hI1 hth
  refine KN _ _ ?_
  go_wp2
  refine leave_mark z2 (v := .tuple #[ov, .int .i64 0]) (by simp [results, Tryz.results6, go_sem]) ?_
  exact ⟨ov, rfl, HZ.out.low (by omega), HL.out⟩
end Go.Proofs.YtkjnjooggicgiaaGreat

/- Fair: Unstable and Bias, whatever the lists. -/
namespace Go.Proofs.YtkjnjooggicgiaaGreat
open Go.RowKit
set_option linter.unusedSimpArgs false

/-- The hall, in one form. -/
theorem hall_form (A1 : Option Addr) (n1 c1 : Nat) (P : List Int) (A2 : Option Addr) (n2 c2 : Nat) (S : List Int) (w : World) (hp : Sl w .i64 A1 n1 P) (hs : Sl w .i64 A2 n2 S) (hn1 : n1 ≤ 1000000) (hn2 : n2 ≤ 1000000) (hE : hallE P S = 0) :
    ∀ w1, Lat w w1 → Calls Tryz.prog 13 #[.slice A1 n1 c1, .slice A2 n2 c2] w1 (fun e w' => ∃ g c, e = .returned (.tuple #[.slice (some ⟨g, 0, none⟩) (P.zip S).length c, .agg #[.int .i64 P.sum, .int .i64 S.sum], .int .i64 0]) ∧ Lat w1 w' ∧ w1.heap.size ≤ g ∧ (P.zip S).length ≤ c ∧ RowB w' g 49 2 (prs (P.zip S))) := by
  have hok := hall_ok hE
  have hxl : (P.zip S).length = P.length := by rw [List.length_zip]; omega
  have hP1 : P ≠ [] := by intro h; rw [h] at hok; simp at hok
  have hxne : prs (P.zip S) ≠ [] := by
    intro h
    have := congrArg List.length h
    rw [prs_len, hxl] at this
    exact hP1 (List.eq_nil_of_length_eq_zero this)
  intro w1 hl
  refine (fHall_any A1 n1 c1 P A2 n2 c2 S w1 (hp.later hl) (hs.later hl) hn1 hn2).mono fun e w' h => ?_
  rcases h.2 with h2 | ⟨_, v, rfl, hown⟩
  · exact absurd hE h2.1
  · obtain ⟨g, c, rfl, hg, hc⟩ := own_some hown hxne
    obtain ⟨RB, _, _, _⟩ := RowB.of_own hown (prs_one (P.zip S))
    rw [prs_len] at hc ⊢
    exact ⟨g, c, rfl, h.1, hg, hc, RB⟩
theorem hall_err (A1 : Option Addr) (n1 c1 : Nat) (P : List Int) (A2 : Option Addr) (n2 c2 : Nat) (S : List Int) (w : World) (hp : Sl w .i64 A1 n1 P) (hs : Sl w .i64 A2 n2 S) (hn1 : n1 ≤ 1000000) (hn2 : n2 ≤ 1000000) (hE : hallE P S ≠ 0) :
    ∀ w1, Lat w w1 → Calls Tryz.prog 13 #[.slice A1 n1 c1, .slice A2 n2 c2] w1 (fun e w' => Lat w1 w' ∧ e = .returned (.tuple #[.slice none 0 0, .agg #[.int .i64 0, .int .i64 0], .int .i64 (hallE P S)])) := by
  intro w1 hl
  refine (fHall_any A1 n1 c1 P A2 n2 c2 S w1 (hp.later hl) (hs.later hl) hn1 hn2).mono fun e w' h => ?_
  rcases h.2 with h2 | h2
  · exact ⟨h.1, h2.2⟩
  · exact absurd h2.1 hE

set_option maxRecDepth 100000 in
set_option maxHeartbeats 4000000 in
theorem fUnst_err (A1 : Option Addr) (n1 c1 : Nat) (A2 : Option Addr) (n2 c2 : Nat) (m er : Int) (w : World) (her : (er != 0) = true)
    (HH : ∀ w1, Lat w w1 → Calls Tryz.prog 13 #[.slice A1 n1 c1, .slice A2 n2 c2] w1 (fun e w' => Lat w1 w' ∧ e = .returned (.tuple #[.slice none 0 0, .agg #[.int .i64 0, .int .i64 0], .int .i64 er]))) :
    Calls Tryz.prog 6 #[.slice A1 n1 c1, .slice A2 n2 c2, .int .i64 m] w (fun e w' => e = .returned (.tuple #[.slice none 0 0, .int .i64 er]) ∧ Lat w w') := by
  go_enter Tryz.func6, Tryz.ntmps6
  go_wp2_with fail
  refine name1 (Q := fun W => Calls _ _ _ W _) ?_
  intro W hl hsz k5
  refine (HH W hl).mono ?_
  rintro e w1 ⟨l1, rfl⟩
  have L1 := hl.trans l1
  clear l1 HH hsz hl k5
  go_wp2
  refine bodyPost_ret (v := .tuple #[.slice none 0 0, .int .i64 er]) (by simp [results, Tryz.results6, go_sem]) rfl ?_
  exact ⟨rfl, L1.trans (Lat.alloc _ _)⟩

set_option maxRecDepth 100000 in
set_option maxHeartbeats 4000000 in
theorem fUnst_arg (A1 : Option Addr) (n1 c1 : Nat) (A2 : Option Addr) (n2 c2 : Nat) (nx : Nat) (m sp ss : Int) (w : World)
    (HH : ∀ w1, Lat w w1 → Calls Tryz.prog 13 #[.slice A1 n1 c1, .slice A2 n2 c2] w1 (fun e w' => ∃ g c, e = .returned (.tuple #[.slice (some ⟨g, 0, none⟩) nx c, .agg #[.int .i64 sp, .int .i64 ss], .int .i64 0]) ∧ Lat w1 w'))
    (hm : inAll 11 15 [m] = false) :
    Calls Tryz.prog 6 #[.slice A1 n1 c1, .slice A2 n2 c2, .int .i64 m] w (fun e w' => e = .returned (.tuple #[.slice none 0 0, .int .i64 2]) ∧ Lat w w') := by
  have HI := Lib.hid hm
  clear hm
  go_enter Tryz.func6, Tryz.ntmps6
  go_wp2_with fail
  refine name1 (Q := fun W => Calls _ _ _ W _) ?_
  intro W hl hsz k5
  refine (HH W hl).mono ?_
  rintro e w1 ⟨g, c, rfl, l1⟩
  have k5 := k5.later l1
  have c5 := k5.cell 0
  have h5 := k5.lt
  have L1 := hl.trans l1
  clear l1 HH hsz hl
  go_wp2_with fail
  refine name2 (Q := fun W => Calls _ _ _ W _) ?_
  intro w2 l2 hs2 k9 kb
  refine (fWithin_any 11 15 (some ⟨w1.heap.size + 1, 0, none⟩) 1 1 [m] w2 (Sl.of_blk' (t := 3) kb rfl) (by omega)).mono ?_
  rintro e w3 ⟨rfl, l3⟩
  rw [HI.out]
  have L3 := (L1.trans l2).trans l3
  clear c5 h5 k9 kb hs2 l2 l3 L1 k5
  go_wp2
  refine bodyPost_ret (v := .tuple #[.slice none 0 0, .int .i64 2]) (by simp [results, Tryz.results6, go_sem]) rfl ?_
  exact ⟨rfl, L3⟩

def unstE (P S : List Int) (m : Int) : Int := if hallE P S = 0 then (if inAll 11 15 [m] = true then 0 else 2) else hallE P S
def UnstPost (w : World) (P S : List Int) (m : Int) (e : Ending) (w' : World) : Prop :=
  Lat w w' ∧ ((unstE P S m ≠ 0 ∧ e = .returned (.tuple #[.slice none 0 0, .int .i64 (unstE P S m)])) ∨
    (unstE P S m = 0 ∧ ∃ v, e = .returned (.tuple #[v, .int .i64 0]) ∧ OwnM w' w.heap.size 44 2 v (prs (unstR m (P.zip S) (pairsP (P.zip S) (P.zip S).length)))))
theorem fUnstable_any (A1 : Option Addr) (n1 c1 : Nat) (P : List Int) (A2 : Option Addr) (n2 c2 : Nat) (S : List Int) (m : Int) (w : World) (hp : Sl w .i64 A1 n1 P) (hs : Sl w .i64 A2 n2 S) (hn1 : n1 ≤ 1000000) (hn2 : n2 ≤ 1000000) :
    Calls Tryz.prog 6 #[.slice A1 n1 c1, .slice A2 n2 c2, .int .i64 m] w (UnstPost w P S m) := by
  by_cases hE : hallE P S = 0
  · have HH := hall_form A1 n1 c1 P A2 n2 c2 S w hp hs hn1 hn2 hE
    have hok := hall_ok hE
    have hxl : (P.zip S).length = P.length := by rw [List.length_zip]; omega
    cases hm : inAll 11 15 [m] with
    | false =>
      have e1 : unstE P S m = 2 := by rw [unstE, if_pos hE, if_neg (by rw [hm]; decide)]
      refine (fUnst_arg A1 n1 c1 A2 n2 c2 (P.zip S).length m P.sum S.sum w (fun w1 hl => (HH w1 hl).mono fun e w' ⟨g, c, h1, h2, _⟩ => ⟨g, c, h1, h2⟩) hm).mono fun e w' h => ?_
      exact ⟨h.2, .inl ⟨by rw [e1]; decide, by rw [e1]; exact h.1⟩⟩
    | true =>
      have e1 : unstE P S m = 0 := by rw [unstE, if_pos hE, if_pos hm]
      have hm' := inAll_iff.1 hm m (by simp)
      have hmem : ∀ p s, (p, s) ∈ P.zip S → (0 ≤ p ∧ p ≤ 1000000000) ∧ 0 ≤ s ∧ s ≤ 1000 := fun p s h => ⟨hok.1.2.1 _ (List.of_mem_zip h).1, hok.2.2.1 _ (List.of_mem_zip h).2⟩
      refine (fUnst_in A1 n1 c1 A2 n2 c2 (P.zip S).length m P.sum S.sum (P.zip S) w HH rfl (by omega) hm (fun p s q t w' h1 h2 h3 h4 => ?_)).mono fun e w' h => ?_
      · obtain ⟨⟨p0, p1⟩, s0, s1⟩ := hmem p s h1
        obtain ⟨⟨q0, q1⟩, t0, t1⟩ := hmem q t h2
        have hp' : p ≠ 0 := fun h => h3 (.inl h)
        have hs' : s ≠ 0 := fun h => h3 (.inr h)
        exact fHelpsIn_any ⟨by omega, p1, by omega, q1, s0, by omega, t0, by omega⟩ (by omega) t1 hm'.1 hm'.2 w'
      · obtain ⟨v, h1, h2, h3⟩ := h
        exact ⟨h3, .inr ⟨e1, v, h1, h2⟩⟩
  · have e1 : unstE P S m = hallE P S := by rw [unstE, if_neg hE]
    refine (fUnst_err A1 n1 c1 A2 n2 c2 m (hallE P S) w (by simpa using hE) (hall_err A1 n1 c1 P A2 n2 c2 S w hp hs hn1 hn2 hE)).mono fun e w' h => ?_
    exact ⟨h.2, .inl ⟨by rw [e1]; exact hE, by rw [e1]; exact h.1⟩⟩

theorem far_w {L : Nat} (h : L < 20) : wrap64 ((L : Int) / 2) = (L : Int) / 2 ∧ IntKind.i64.wrap ((L : Int) / 2) = (L : Int) / 2 ∧ Int.tdiv (L : Int) 2 = (L : Int) / 2 :=
  ⟨IntWalk.wrap64_in _ (by omega), IntWalk.i64_in _ (by omega), Int.tdiv_eq_ediv_of_nonneg (by omega)⟩
/-- The bias, of fewer than 20 regions. -/
theorem fBias_few (A1 : Option Addr) (n1 c1 : Nat) (P : List Int) (A2 : Option Addr) (n2 c2 : Nat) (S : List Int) (k : Int) (w : World) (hp : Sl w .i64 A1 n1 P) (hs : Sl w .i64 A2 n2 S) (hn1 : n1 ≤ 1000000) (hn2 : n2 ≤ 1000000) (hfew : P.length < 20) :
    Calls Tryz.prog 7 #[.slice A1 n1 c1, .slice A2 n2 c2, .int .i64 k] w (ShR w (biasX P S k) (biasE P S k)) := by
  by_cases hE : hallE P S = 0
  · have hok := hall_ok hE
    have hxl : (P.zip S).length = P.length := by rw [List.length_zip]; omega
    have hmem : ∀ x ∈ bSort (P.zip S), x ∈ P.zip S := fun x h => by
      rw [bSort] at h
      have := sortR_mem.1 h
      exact (List.mem_filter.1 this).1
    have hlen : (bSort (P.zip S)).length ≤ P.length := by
      rw [bSort_len, ← hxl]
      exact List.length_filter_le _ _
    cases hk : bOk (bSort (P.zip S)) k with
    | true =>
      have hk' : 1 ≤ k ∧ k ≤ ((bSort (P.zip S)).length / 2 : Nat) := by simpa [bOk] using hk
      obtain ⟨kn, rfl⟩ : ∃ kn : Nat, k = kn := ⟨k.toNat, by omega⟩
      rw [biasX, biasE, if_pos ⟨hE, hk⟩, if_pos hE, if_pos hk, Int.toNat_natCast]
      refine fBias_in A1 n1 c1 P A2 n2 c2 S kn w hp hs hn1 hn2 hE ⟨by omega, by omega, by omega, fun x hx => ?_, fun x hx => ?_⟩ hfew
      · exact hok.1.2.1 _ (List.of_mem_zip (hmem x hx)).1
      · exact hok.2.2.1 _ (List.of_mem_zip (hmem x hx)).2
    | false =>
      have hk' : ¬ (1 ≤ k ∧ k ≤ ((bSort (P.zip S)).length / 2 : Nat)) := by simpa [bOk] using hk
      rw [biasX, biasE, if_neg (fun h => by rw [hk] at h; cases h.2), if_pos hE, if_neg (by rw [hk]; decide)]
      have hL : (bSort (P.zip S)).length < 20 := by omega
      have hl2 := bSort_len (P.zip S)
      refine fBias_far A1 n1 c1 A2 n2 c2 (bSort (P.zip S)).length (P.zip S).length k (((bSort (P.zip S)).length : Int) / 2) P.sum S.sum (prs (P.zip S)) (prs (bKeep (P.zip S))) w (hall_form A1 n1 c1 P A2 n2 c2 S w hp hs hn1 hn2 hE)
        (fun w g c h hc => by
          have := bDel_any g (P.zip S).length c (P.zip S) w h rfl (by omega) hc
          rwa [← hl2] at this) (far_w hL).1 (far_w hL).2.1 (far_w hL).2.2 rfl (Lib.hid (by omega))
  · rw [biasX, biasE, if_neg (fun h => hE h.1), if_neg hE]
    exact fBias_err A1 n1 c1 A2 n2 c2 k (hallE P S) w (by simpa using hE) (hall_err A1 n1 c1 P A2 n2 c2 S w hp hs hn1 hn2 hE)
end Go.Proofs.YtkjnjooggicgiaaGreat
