/- Several texts in one: PxB. -/
import Derived.Test.YteocdndanehpnaaGreatH46
import Derived.Test.YteocdndanehpnaaGreatH45
import Derived.Test.YteocdndanehpnaaGreatH24
import Derived.Test.YteocdndanehpnaaGreatH44
import Derived.Laws.EntriesVeiled
namespace Go.Proofs.YteocdndanehpnaaGreat
open Go.RowKit Go.Shelf
set_option linter.unusedSimpArgs false
set_option linter.unusedVariables false
set_option maxRecDepth 100000 in
set_option maxHeartbeats 2000000 in
theorem dGiveS_any (A : Option Addr) (n c : Nat) (P : List Int) (Al : Option Addr) (nl cl : Nat) (Lx : List Int) (seats m : Int) (w : World)
  (hs : Sl w .i64 A n P) (hl : Sl w .i64 Al nl Lx) (hn : n ≤ 17000000000000) (hnl : nl ≤ 17000000000000) :
  Calls Tryz.prog 18 #[.slice A n c, .int .i64 seats, .int .i64 m, .slice Al nl cl] w (GivS w (giveF P seats m Lx) (giveE P seats m Lx)) := by
 have HR := fun w (h1 : Sl w .i64 A n P) (h2 : Sl w .i64 Al nl Lx) => run_fin A n c P Al nl cl Lx seats m w h1 h2 hn hnl
 obtain ⟨F, hF⟩ : ∃ F, giveF P seats m Lx = F := ⟨_, rfl⟩
 obtain ⟨er, her⟩ : ∃ er, giveE P seats m Lx = er := ⟨_, rfl⟩
 rw [hF, her] at HR ⊢
 clear hF her
 go_enter Tryz.func18, Tryz.ntmps18
 go_wp2_with fail
 refine name1 (Q := fun W => Calls _ _ _ W _) ?_
 intro W hlW hs2 k1
 refine (HR W (hs.later hlW) (hl.later hlW)).mono ?_
 rintro e w1 ⟨A1, n1, c1, A2, n2, c2, A3, n3, c3, rfl, q1, q2, q3, l1, z1, z2, _⟩
 have Q1 := Lib.hid q1
 have Q2 := Lib.hid q2
 have Z1 := Lib.hid z1
 have Z2 := Lib.hid z2
 have K1 := k1.later l1
 clear k1 q1 q2 q3 HR z1 z2
 go_upto_region 2 with (fail)
 refine name1 (Q := fun W => Code.wp _ _ _ _ W) ?_
 intro w2 l2 hs3 k2
 have K1 := K1.later l2
 have c1_0 := K1.cell 0
 have c1_1 := K1.cell 1
 have c1_2 := K1.cell 2
 have f1_0 := K1.frozen 0
 have f1_1 := K1.frozen 1
 have f1_2 := K1.frozen 2
 have c2_0 := k2.cell 0
 have c2_1 := k2.cell 1
 have c2_2 := k2.cell 2
 go_wp2
 refine bodyPost_ret (v := .tuple #[.agg #[.slice A1 n1 c1, .slice A2 n2 c2, .int .i64 F.left], .int .i64 er]) (by simp [results, Tryz.results18, go_sem, c1_0, c1_1, c1_2]) rfl ?_
 have L := (hlW.trans l1).trans l2
 refine ⟨A1, n1, c1, A2, n2, c2, rfl, ?_, ?_, ?_⟩
 ·iterate 3 (refine Sl.far ?_ (fun a e => by have := Z1.out a e; show a.block ≠ w.heap.size; omega) _)
  exact Q1.out.later l2
 ·intro a e
  have := Z1.out a e
  omega
 ·iterate 3 (refine Lat.setCell ?_ (Nat.le_refl _) _)
  exact L
def decO (k : Int) (P : List Int) (s : Int) : Option Aw := if 11 ≤ k then some (divA k P s) else giveQ k P (List.replicate P.length 0) s
def decE (P : List Int) (s k : Int) : Int :=
 if censusB P = false then 60 else if famB k = false then 2 else if ¬ (1 ≤ s ∧ s ≤ 1000) then 2 else
  match decO k P s with
  | none => 9
  | some A => if 0 < A.left then 8 else 0
def decL (P : List Int) (s k : Int) : List Int := if decE P s k = 0 then ((decO k P s).map Aw.seats).getD [] else []
def givF (P : List Int) (s k : Int) : Aw := ((decO k P s)).getD noAw
def givE (P : List Int) (s k : Int) : Int := if ¬ (1 ≤ s ∧ s ≤ 1000) then 2 else if (decO k P s).isNone then 9 else 0
theorem giveF_nil {P : List Int} {s k : Int} (h : giveE P s k [] = 0) : giveF P s k [] = divA k P s := by
 rw [giveF, if_pos h, giveA, divA, lowOf_nil, zeros_sum, Int.sub_zero]
theorem giveE_nil {P : List Int} {s k : Int} (hc : censusB P = true) (hk : 11 ≤ k) (hk2 : k ≤ 15) : giveE P s k [] = if ¬ (1 ≤ s ∧ s ≤ 1000) then 2 else 0 := by
 by_cases hs : 1 ≤ s ∧ s ≤ 1000
 ·have ha : askB s k = true := by simp [askB]; omega
  have hl : lowB P.length s [] = true := by
   rw [lowB, lowOf_nil]
   simp only [Bool.and_eq_true, decide_eq_true_eq]
   refine ⟨by simp, inAll_iff.2 (fun x hx => ?_)⟩
   rw [(List.mem_replicate.1 hx).2]
   omega
  rw [giveE, if_neg (by simp [hc]), if_neg (by simp [ha]), if_neg (by simp [hl]), lowOf_nil, zeros_sum, if_neg (by omega), if_neg (by simp [hs])]
 ·have ha : askB s k = false := by simp [askB]; omega
  rw [giveE, if_neg (by simp [hc]), if_pos ha, if_pos hs]
set_option maxRecDepth 100000 in
set_option maxHeartbeats 4000000 in
theorem decided_q (A : Option Addr) (n c : Nat) (P : List Int) (s k : Int) (F : Aw) (er : Int) (w : World) (hs : Sl w .i64 A n P) (hn : n ≤ 1000) (hc : censusB P = true) (hk : famB k = true) (hv : famV k = famOf 1 4 19)
  (HG : ∀ w', Lat w w' → Calls Tryz.prog 19 #[.slice A n c, .int .i64 s, .int .i64 k, .slice none 0 0] w' (GivS w' F er)) :
  Calls Tryz.prog 20 #[.slice A n c, .int .i64 s, .int .i64 k] w (DecPost w (if er = 0 ∧ ¬ 0 < F.left then F.seats else []) (if er = 0 then (if 0 < F.left then 8 else 0) else er)) := by
 obtain ⟨L, hL⟩ : ∃ L, (if er = 0 ∧ ¬ 0 < F.left then F.seats else []) = L := ⟨_, rfl⟩
 obtain ⟨x, hx⟩ : ∃ x : Int, (if er = 0 then (if 0 < F.left then (8 : Int) else 0) else er) = x := ⟨_, rfl⟩
 rw [hL, hx]
 have HL := Lib.hid hL
 have HX := Lib.hid hx
 clear hL hx
 have HC := qCheck_any A n c P w hs (by omega)
 rw [cenE_yes hc] at HC
 have HO := pof_any k
 rw [hk, hv] at HO
 clear hc hk hv
 go_enter Tryz.func20, Tryz.ntmps20
 go_wp2_with fail
 refine HC.mono ?_
 rintro e w0 ⟨rfl, rfl⟩
 clear HC
 go_wp2_with fail
 refine (HO w).mono ?_
 rintro e w1 ⟨rfl, l1⟩
 clear HO
 simp only [famOf]
 go_upto_region 5 with (fail)
 refine name1 (Q := fun W => Code.wp _ _ _ _ W) ?_
 intro w2 l2 _ k9
 have L2 := l1.trans l2
 have c2 := k9.cell 2
 obtain ⟨g9, hg9⟩ : ∃ z, w1.heap.size = z := ⟨_, rfl⟩
 rw [hg9] at k9 c2 ⊢
 clear hg9 l1 l2 k9
 have HG2 := HG w2 L2
 go_wp2_with fail
 refine HG2.mono ?_
 rintro e w3 ⟨A1, n1, c1, A2, n2, c2', rfl, q1, f1, l3⟩
 have L3 := L2.trans l3
 clear HG HG2 c2
 go_upto_region 8 with (fail)
 refine name1 (Q := fun W => Code.wp _ _ _ _ W) ?_
 intro w4 l4 _ k11
 have L4 := L3.trans l4
 have d0 := k11.cell 0
 have d2 := k11.cell 2
 have q4 := q1.later l4
 have f4 : ∀ a, A1 = some a → w.heap.size ≤ a.block := fun a e => Nat.le_trans L2.size (f1 a e)
 obtain ⟨g11, hg11⟩ : ∃ z, w3.heap.size = z := ⟨_, rfl⟩
 rw [hg11] at k11 d0 d2 ⊢
 clear hg11 k11 q1 f1 l3 l4 L2 L3 hs
 by_cases he : er = 0
 ·subst he
  by_cases ho : 0 < F.left
  ·obtain rfl : 8 = x := by rw [← HX.out, if_pos rfl, if_pos ho]
   obtain rfl : [] = L := by rw [← HL.out, if_neg (fun h => by have := h.2; omega)]
   go_wp2
   go_ret2
   exact DecPost.no _ _ _ L4
  ·obtain rfl : 0 = x := by rw [← HX.out, if_pos rfl, if_neg ho]
   obtain rfl : F.seats = L := by rw [← HL.out, if_pos ⟨rfl, by omega⟩]
   have Q4 := Lib.hid q4
   have F4 := Lib.hid f4
   have hob : decide (0 < F.left) = false := by simp [ho]
   clear q4 f4
   go_wp2
   go_ret2
   exact ⟨A1, n1, c1, rfl, Q4.out, F4.out, L4⟩
 ·obtain rfl : er = x := by rw [← HX.out, if_neg he]
  obtain rfl : [] = L := by rw [← HL.out, if_neg (fun h => he h.1)]
  have hne : (er == 0) = false := by simpa using he
  go_wp2
  go_ret2
  exact DecPost.no _ _ _ L4
set_option maxRecDepth 100000 in
set_option maxHeartbeats 4000000 in
theorem decided_d (A : Option Addr) (n c : Nat) (P : List Int) (s k : Int) (F : Aw) (er : Int) (w : World) (hs : Sl w .i64 A n P) (hn : n ≤ 1000) (hc : censusB P = true) (hk : famB k = true) (hv : famV k = famOf 11 15 18)
  (HG : ∀ w', Lat w w' → Calls Tryz.prog 18 #[.slice A n c, .int .i64 s, .int .i64 k, .slice none 0 0] w' (GivS w' F er)) :
  Calls Tryz.prog 20 #[.slice A n c, .int .i64 s, .int .i64 k] w (DecPost w (if er = 0 ∧ ¬ 0 < F.left then F.seats else []) (if er = 0 then (if 0 < F.left then 8 else 0) else er)) := by
 obtain ⟨L, hL⟩ : ∃ L, (if er = 0 ∧ ¬ 0 < F.left then F.seats else []) = L := ⟨_, rfl⟩
 obtain ⟨x, hx⟩ : ∃ x : Int, (if er = 0 then (if 0 < F.left then (8 : Int) else 0) else er) = x := ⟨_, rfl⟩
 rw [hL, hx]
 have HL := Lib.hid hL
 have HX := Lib.hid hx
 clear hL hx
 have HC := qCheck_any A n c P w hs (by omega)
 rw [cenE_yes hc] at HC
 have HO := pof_any k
 rw [hk, hv] at HO
 clear hc hk hv
 go_enter Tryz.func20, Tryz.ntmps20
 go_wp2_with fail
 refine HC.mono ?_
 rintro e w0 ⟨rfl, rfl⟩
 clear HC
 go_wp2_with fail
 refine (HO w).mono ?_
 rintro e w1 ⟨rfl, l1⟩
 clear HO
 simp only [famOf]
 go_upto_region 5 with (fail)
 refine name1 (Q := fun W => Code.wp _ _ _ _ W) ?_
 intro w2 l2 _ k9
 have L2 := l1.trans l2
 have c2 := k9.cell 2
 obtain ⟨g9, hg9⟩ : ∃ z, w1.heap.size = z := ⟨_, rfl⟩
 rw [hg9] at k9 c2 ⊢
 clear hg9 l1 l2 k9
 have HG2 := HG w2 L2
 go_wp2_with fail
 refine HG2.mono ?_
 rintro e w3 ⟨A1, n1, c1, A2, n2, c2', rfl, q1, f1, l3⟩
 have L3 := L2.trans l3
 clear HG HG2 c2
 go_upto_region 8 with (fail)
 refine name1 (Q := fun W => Code.wp _ _ _ _ W) ?_
 intro w4 l4 _ k11
 have L4 := L3.trans l4
 have d0 := k11.cell 0
 have d2 := k11.cell 2
 have q4 := q1.later l4
 have f4 : ∀ a, A1 = some a → w.heap.size ≤ a.block := fun a e => Nat.le_trans L2.size (f1 a e)
 obtain ⟨g11, hg11⟩ : ∃ z, w3.heap.size = z := ⟨_, rfl⟩
 rw [hg11] at k11 d0 d2 ⊢
 clear hg11 k11 q1 f1 l3 l4 L2 L3 hs
 by_cases he : er = 0
 ·subst he
  by_cases ho : 0 < F.left
  ·obtain rfl : 8 = x := by rw [← HX.out, if_pos rfl, if_pos ho]
   obtain rfl : [] = L := by rw [← HL.out, if_neg (fun h => by have := h.2; omega)]
   go_wp2
   go_ret2
   exact DecPost.no _ _ _ L4
  ·obtain rfl : 0 = x := by rw [← HX.out, if_pos rfl, if_neg ho]
   obtain rfl : F.seats = L := by rw [← HL.out, if_pos ⟨rfl, by omega⟩]
   have Q4 := Lib.hid q4
   have F4 := Lib.hid f4
   have hob : decide (0 < F.left) = false := by simp [ho]
   clear q4 f4
   go_wp2
   go_ret2
   exact ⟨A1, n1, c1, rfl, Q4.out, F4.out, L4⟩
 ·obtain rfl : er = x := by rw [← HX.out, if_neg he]
  obtain rfl : [] = L := by rw [← HL.out, if_neg (fun h => he h.1)]
  have hne : (er == 0) = false := by simpa using he
  go_wp2
  go_ret2
  exact DecPost.no _ _ _ L4
set_option maxRecDepth 100000 in
set_option maxHeartbeats 4000000 in
theorem decided_cen (A : Option Addr) (n c : Nat) (P : List Int) (s k : Int) (w : World) (hs : Sl w .i64 A n P) (hn : n ≤ 1000) (hc : censusB P = false) :
  Calls Tryz.prog 20 #[.slice A n c, .int .i64 s, .int .i64 k] w (DecPost w [] 60) := by
 have HC := qCheck_any A n c P w hs (by omega)
 rw [cenE_no hc] at HC
 clear hc
 go_enter Tryz.func20, Tryz.ntmps20
 go_wp2_with fail
 refine HC.mono ?_
 rintro e w0 ⟨rfl, rfl⟩
 clear HC
 go_wp2
 go_ret2
 exact DecPost.no _ _ _ (Lat.refl _)
set_option maxRecDepth 100000 in
set_option maxHeartbeats 4000000 in
theorem decided_fam (A : Option Addr) (n c : Nat) (P : List Int) (s k : Int) (w : World) (hs : Sl w .i64 A n P) (hn : n ≤ 1000) (hc : censusB P = true) (hk : famB k = false) :
  Calls Tryz.prog 20 #[.slice A n c, .int .i64 s, .int .i64 k] w (DecPost w [] 2) := by
 have HC := qCheck_any A n c P w hs (by omega)
 rw [cenE_yes hc] at HC
 have HO := pof_any k
 have hv : famV k = [.int .i64 0, .int .i64 0, Value.nilFunc] := by
  simp only [famB, Bool.or_eq_false_iff, decide_eq_false_iff_not] at hk
  rw [famV, if_neg hk.1, if_neg hk.2]
 rw [hk, hv] at HO
 clear hc hk hv
 go_enter Tryz.func20, Tryz.ntmps20
 go_wp2_with fail
 refine HC.mono ?_
 rintro e w0 ⟨rfl, rfl⟩
 clear HC
 go_wp2_with fail
 refine (HO w).mono ?_
 rintro e w1 ⟨rfl, l1⟩
 clear HO
 go_upto_region 5 with (fail)
 refine name1 (Q := fun W => Code.wp _ _ _ _ W) ?_
 intro w2 l2 _ k9
 have L2 := l1.trans l2
 clear k9 l1 l2
 go_wp2
 go_ret2
 exact DecPost.no _ _ _ L2
theorem giveQ_len {k s : Int} {P : List Int} {A : Aw} (hP : ∀ x ∈ P, 0 ≤ x) (hs : 0 ≤ s) (h : giveQ k P (List.replicate P.length 0) s = some A) : QuoOk (atI P) (atI (List.replicate P.length 0)) (List.range P.length) (List.replicate P.length 0) s A := by
 refine quo_ok (fun i => by rw [zeros_at]; exact Int.le_refl _) _ _ _ _ _ (by rw [List.length_range]; omega) List.nodup_range (fun i hi => ⟨by rw [List.length_replicate]; exact List.mem_range.1 hi, zeros_at _ _⟩) (fun i _ => ?_) ?_ h
 ·unfold atI
  cases hx : P[i]? with
  | none => simp
  | some x => exact hP x (List.mem_of_getElem? hx)
 ·have : ((List.range P.length).map (atI (List.replicate P.length 0))).sum = 0 := by
   rw [List.map_congr_left (g := fun _ => 0) (fun i _ => zeros_at _ _), List.map_const', zeros_sum]
  omega
set_option maxHeartbeats 1000000 in
theorem decided_any (A : Option Addr) (n c : Nat) (P : List Int) (s k : Int) (w : World) (hs : Sl w .i64 A n P) (hn : n < 20) :
  Calls Tryz.prog 20 #[.slice A n c, .int .i64 s, .int .i64 k] w (DecPost w (decL P s k) (decE P s k)) := by
 have hl := hs.1
 cases hc : censusB P with
 | false =>
   have e1 : decE P s k = 60 := by rw [decE, if_pos hc]
   have e2 : decL P s k = [] := by rw [decL, e1]; rfl
   rw [e1, e2]
   exact decided_cen A n c P s k w hs (by omega) hc
 | true =>
   cases hk : famB k with
   | false =>
     have e1 : decE P s k = 2 := by rw [decE, if_neg (by simp [hc]), if_pos hk]
     have e2 : decL P s k = [] := by rw [decL, e1]; rfl
     rw [e1, e2]
     exact decided_fam A n c P s k w hs (by omega) hc hk
   | true =>
     have hcen := census_iff.1 hc
     have hn0 : 0 < n := by
      rcases Nat.eq_zero_or_pos n with h0 | h0
      ·exfalso
       have : P = [] := List.eq_nil_of_length_eq_zero (by omega)
       rw [this] at hcen
       simp at hcen
      ·exact h0
     have hE : decE P s k = if givE P s k = 0 then (if 0 < (givF P s k).left then 8 else 0) else givE P s k := by
      unfold decE givE givF
      rw [if_neg (by simp [hc]), if_neg (by simp [hk])]
      by_cases h1 : 1 ≤ s ∧ s ≤ 1000
      ·simp only [h1, and_self, not_true, if_false]
       cases decO k P s <;> simp
      ·simp [h1]
     have hL : decL P s k = if givE P s k = 0 ∧ ¬ 0 < (givF P s k).left then (givF P s k).seats else [] := by
      unfold decL
      rw [hE]
      by_cases h0 : givE P s k = 0
      ·by_cases h1 : 0 < (givF P s k).left
       ·simp [h0, h1]
       ·simp only [h0, h1, if_true, if_false, not_false_iff, and_self]
        unfold givF
        cases decO k P s <;> rfl
      ·simp [h0]
     rw [hE, hL]
     by_cases h1 : 1 ≤ s ∧ s ≤ 1000
     ·by_cases h11 : 11 ≤ k
      ·have hk15 : k ≤ 15 := by simp [famB] at hk; omega
       have hv : famV k = famOf 11 15 18 := by rw [famV, if_neg (by omega), if_pos ⟨h11, hk15⟩]
       refine decided_d A n c P s k (givF P s k) (givE P s k) w hs (by omega) hc hk hv (fun w' hl' => ?_)
       refine (dGiveS_any A n c P none 0 0 [] s k w' (hs.later hl') (Sl.nil _ _ _) (by omega) (by omega)).mono fun e w'' h => ?_
       have e1 : decO k P s = some (divA k P s) := by rw [decO, if_pos h11]
       have e2 := giveE_nil (s := s) hc h11 hk15
       rw [if_neg (by simp [h1])] at e2
       have e3 : givE P s k = 0 := by rw [givE, if_neg (by simp [h1]), e1]; rfl
       have e4 : givF P s k = giveF P s k [] := by rw [givF, e1, giveF_nil e2]; rfl
       rw [e3, e4, ← e2]
       exact h
      ·have hk4 : 1 ≤ k ∧ k ≤ 4 := by simp [famB] at hk; omega
       have hv : famV k = famOf 1 4 19 := by rw [famV, if_pos hk4]
       have e1 : decO k P s = giveQ k P (List.replicate P.length 0) s := by rw [decO, if_neg h11]
       refine decided_q A n c P s k (givF P s k) (givE P s k) w hs (by omega) hc hk hv (fun w' hl' => ?_)
       refine (give_any A n c P none 0 0 [] (List.replicate P.length 0) s k w' (hs.later hl') (Sl.nil _ _ _) hn0 hn hc h1.1 h1.2 hk4.1 hk4.2 (by rw [hl]; exact lowIs_nil (by omega))).mono fun e w'' h => ?_
       unfold givE givF
       rw [if_neg (by simp [h1]), e1]
       obtain ⟨l1, h⟩ := h
       cases hq : giveQ k P (List.replicate P.length 0) s with
       | none =>
         rw [hq] at h
         obtain rfl : e = _ := h
         exact ⟨none, 0, 0, none, 0, 0, rfl, Sl.nil _ _ _, (fun a e => by cases e), l1⟩
       | some B =>
         rw [hq] at h
         obtain ⟨gS, cS, At, ct, rfl, s1, s2, s3, s4, s5⟩ := h
         exact ⟨some ⟨gS, 0, none⟩, n, cS, At, _, ct, rfl, s1.sl, (fun a e => by cases e; exact s4), l1⟩
     ·have e3 : givE P s k = 2 := by rw [givE, if_pos h1]
      rw [e3, if_neg (show ¬ (2 : Int) = 0 by decide), if_neg (fun h => absurd h.1 (by decide))]
      by_cases h11 : 11 ≤ k
      ·have hk15 : k ≤ 15 := by simp [famB] at hk; omega
       have hv : famV k = famOf 11 15 18 := by rw [famV, if_neg (by omega), if_pos ⟨h11, hk15⟩]
       have e2 := giveE_nil (s := s) hc h11 hk15
       rw [if_pos h1] at e2
       have e5 : giveF P s k [] = noAw := by rw [giveF, if_neg (by omega)]
       have h9 := decided_d A n c P s k noAw 2 w hs (by omega) hc hk hv (fun w' hl' => by
        have h8 := dGiveS_any A n c P none 0 0 [] s k w' (hs.later hl') (Sl.nil _ _ _) (by omega) (by omega)
        rw [e2, e5] at h8
        exact h8)
       rw [if_neg (by decide), if_neg (by simp)] at h9
       exact h9
      ·have hk4 : 1 ≤ k ∧ k ≤ 4 := by simp [famB] at hk; omega
       have hv : famV k = famOf 1 4 19 := by rw [famV, if_pos hk4]
       have ha : askE P s k = 2 := askE_arg hc (by omega)
       have h9 := decided_q A n c P s k noAw 2 w hs (by omega) hc hk hv (fun w' hl' => by
        refine (give_no A n c P none 0 0 s k w' (hs.later hl') (by omega) (by omega)).mono fun e w'' h => ?_
        obtain ⟨rfl, l1⟩ := h
        rw [ha]
        exact ⟨none, 0, 0, none, 0, 0, rfl, Sl.nil _ _ _, (fun a e => by cases e), l1⟩)
       rw [if_neg (by decide), if_neg (by simp)] at h9
       exact h9
theorem dec_giv {P : List Int} {s k : Int} (hc : censusB P = true) (hk : famB k = true) : decE P s k = (if givE P s k = 0 then (if 0 < (givF P s k).left then 8 else 0) else givE P s k) ∧ decL P s k = if givE P s k = 0 ∧ ¬ 0 < (givF P s k).left then (givF P s k).seats else [] := by
 have hE : decE P s k = if givE P s k = 0 then (if 0 < (givF P s k).left then 8 else 0) else givE P s k := by
  unfold decE givE givF
  rw [if_neg (by simp [hc]), if_neg (by simp [hk])]
  by_cases h1 : 1 ≤ s ∧ s ≤ 1000
  ·simp only [h1, and_self, not_true, if_false]
   cases decO k P s <;> simp
  ·simp [h1]
 refine ⟨hE, ?_⟩
 unfold decL
 rw [hE]
 by_cases h0 : givE P s k = 0
 ·by_cases h1 : 0 < (givF P s k).left
  ·simp [h0, h1]
  ·simp only [h0, h1, if_true, if_false, not_false_iff, and_self]
   unfold givF
   cases decO k P s <;> rfl
 ·simp [h0]
theorem givD_any (A : Option Addr) (n c : Nat) (P : List Int) (s k : Int) (w : World) (hs : Sl w .i64 A n P) (hn : n < 20) (hc : censusB P = true) (h11 : 11 ≤ k) (hk15 : k ≤ 15) (h1 : 1 ≤ s ∧ s ≤ 1000) :
  Calls Tryz.prog 18 #[.slice A n c, .int .i64 s, .int .i64 k, .slice none 0 0] w (GivS w (givF P s k) (givE P s k)) := by
 refine (dGiveS_any A n c P none 0 0 [] s k w hs (Sl.nil _ _ _) (by omega) (by omega)).mono fun e w'' h => ?_
 have e1 : decO k P s = some (divA k P s) := by rw [decO, if_pos h11]
 have e2 := giveE_nil (s := s) hc h11 hk15
 rw [if_neg (by simp [h1])] at e2
 have e3 : givE P s k = 0 := by rw [givE, if_neg (by simp [h1]), e1]; rfl
 have e4 : givF P s k = giveF P s k [] := by rw [givF, e1, giveF_nil e2]; rfl
 rw [e3, e4, ← e2]
 exact h
theorem givQ_any (A : Option Addr) (n c : Nat) (P : List Int) (s k : Int) (w : World) (hs : Sl w .i64 A n P) (hn0 : 0 < n) (hn : n < 20) (hc : censusB P = true) (hk1 : 1 ≤ k) (hk4 : k ≤ 4) (h1 : 1 ≤ s ∧ s ≤ 1000) :
  Calls Tryz.prog 19 #[.slice A n c, .int .i64 s, .int .i64 k, .slice none 0 0] w (GivS w (givF P s k) (givE P s k)) := by
 have hl := hs.1
 have e1 : decO k P s = giveQ k P (List.replicate P.length 0) s := by rw [decO, if_neg (by omega)]
 refine (give_any A n c P none 0 0 [] (List.replicate P.length 0) s k w hs (Sl.nil _ _ _) hn0 hn hc h1.1 h1.2 hk1 hk4 (by rw [hl]; exact lowIs_nil (by omega))).mono fun e w'' h => ?_
 unfold givE givF
 rw [if_neg (by simp [h1]), e1]
 obtain ⟨l1, h⟩ := h
 cases hq : giveQ k P (List.replicate P.length 0) s with
 | none =>
   rw [hq] at h
   obtain rfl : e = _ := h
   exact ⟨none, 0, 0, none, 0, 0, rfl, Sl.nil _ _ _, (fun a e => by cases e), l1⟩
 | some B =>
   rw [hq] at h
   obtain ⟨gS, cS, At, ct, rfl, s1, s2, s3, s4, s5⟩ := h
   exact ⟨some ⟨gS, 0, none⟩, n, cS, At, _, ct, rfl, s1.sl, (fun a e => by cases e; exact s4), l1⟩
end Go.Proofs.YteocdndanehpnaaGreat
