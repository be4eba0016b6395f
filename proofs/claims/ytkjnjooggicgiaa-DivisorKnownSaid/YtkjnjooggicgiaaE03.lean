/- Several texts in one: PostD. -/
import Derived.Test.YtkjnjooggicgiaaE02
import Derived.Test.YtkjnjooggicgiaaE06
import Derived.Test.YtkjnjooggicgiaaJ37
import Derived.Test.YtkjnjooggicgiaaJ36

/- Post, Rank and Above in one form: their words for all arguments. -/
namespace Go.Proofs.Ytkjnjooggicgiaa
open Go.RowKit

def okMS (m s : Int) : Bool := decide (11 ≤ m ∧ m ≤ 15 ∧ 0 ≤ s ∧ s ≤ 1000)
def postX (m s : Int) : Array Value := if okMS m s = true then shA (postN m s) (postD m s) else zA
def postE (m s : Int) : Int := if okMS m s = true then 0 else 2
def rankX (m p s : Int) : Array Value := if okMS m s = true ∧ 0 ≤ p ∧ p ≤ 1000000000 ∧ 0 < postN m s then shA (topOf m p * postD m s) (postN m s) else zA
def rankE (m p s : Int) : Int := if okMS m s = true ∧ 0 ≤ p ∧ p ≤ 1000000000 then (if 0 < postN m s then 0 else 7) else 2
def okA (m p s q t : Int) : Bool := decide (11 ≤ m ∧ m ≤ 15 ∧ 0 ≤ s ∧ s ≤ 1000 ∧ 0 ≤ t ∧ t ≤ 1000 ∧ 1 ≤ p ∧ p ≤ 1000000000 ∧ 1 ≤ q ∧ q ≤ 1000000000)
def aboveV (m p s q t : Int) : Int := if okA m p s q t = true then cmpR m p s q t else 0
def aboveE (m p s q t : Int) : Int := if okA m p s q t = true then 0 else 2
theorem postX_good (m s : Int) : GoodX (postX m s) := by unfold postX; split; exact shA_good _ _; exact zA_good
theorem rankX_good (m p s : Int) : GoodX (rankX m p s) := by unfold rankX; split; exact shA_good _ _; exact zA_good

theorem dPostX (m s : Int) (w : World) : Calls Try.prog 5 #[.int .i64 m, .int .i64 s] w (ShR w (postX m s) (postE m s)) := by
  cases h : okMS m s with
  | true =>
    have h' : 11 ≤ m ∧ m ≤ 15 ∧ 0 ≤ s ∧ s ≤ 1000 := by simpa [okMS] using h
    rw [postX, postE, if_pos h, if_pos h]
    exact (dPost_ok m s w h'.1 h'.2.1 h'.2.2.1 h'.2.2.2).mono fun _ _ h => h.r
  | false =>
    have h' : ¬ (11 ≤ m ∧ m ≤ 15 ∧ 0 ≤ s ∧ s ≤ 1000) := by simpa [okMS] using h
    rw [postX, postE, if_neg (by simp [h]), if_neg (by simp [h])]
    exact (dPost_no m s w h').mono fun _ _ h => h.r

theorem dRankX (m p s : Int) (w : World) : Calls Try.prog 6 #[.int .i64 m, .int .i64 p, .int .i64 s] w (ShR w (rankX m p s) (rankE m p s)) := by
  cases h : okMS m s with
  | true =>
    have h' : 11 ≤ m ∧ m ≤ 15 ∧ 0 ≤ s ∧ s ≤ 1000 := by simpa [okMS] using h
    by_cases hp : 0 ≤ p ∧ p ≤ 1000000000
    · have hn := (postN_range (m := m) h'.2.2.1 h'.2.2.2).1
      refine (dRank_in m p s w h'.1 h'.2.1 h'.2.2.1 h'.2.2.2 hp.1 hp.2).mono fun e w' hh => ?_
      by_cases h0 : 0 < postN m s
      · rw [rankX, rankE, if_pos ⟨h, hp.1, hp.2, h0⟩, if_pos ⟨h, hp.1, hp.2⟩, if_pos h0]
        exact (hh.1 h0).r
      · rw [rankX, rankE, if_neg (fun hc => h0 hc.2.2.2), if_pos ⟨h, hp.1, hp.2⟩, if_neg h0]
        exact (hh.2 (by omega)).r
    · rw [rankX, rankE, if_neg (fun hc => hp ⟨hc.2.1, hc.2.2.1⟩), if_neg (fun hc => hp ⟨hc.2.1, hc.2.2⟩)]
      exact (dRank_far m p s w h'.1 h'.2.1 h'.2.2.1 h'.2.2.2 hp).mono fun _ _ h => h.r
  | false =>
    have h' : ¬ (11 ≤ m ∧ m ≤ 15 ∧ 0 ≤ s ∧ s ≤ 1000) := by simpa [okMS] using h
    rw [rankX, rankE, if_neg (fun hc => by rw [h] at hc; cases hc.1), if_neg (fun hc => by rw [h] at hc; cases hc.1)]
    exact (dRank_bad m p s w h').mono fun _ _ h => h.r

def AbR (w : World) (v er : Int) (e : Ending) (w' : World) : Prop := e = .returned (.tuple #[.int .i64 v, .int .i64 er]) ∧ Lat w w'
theorem dAboveX (m p s q t : Int) (w : World) : Calls Try.prog 7 #[.int .i64 m, .int .i64 p, .int .i64 s, .int .i64 q, .int .i64 t] w (AbR w (aboveV m p s q t) (aboveE m p s q t)) := by
  cases h : okA m p s q t with
  | true =>
    have h' : 11 ≤ m ∧ m ≤ 15 ∧ 0 ≤ s ∧ s ≤ 1000 ∧ 0 ≤ t ∧ t ≤ 1000 ∧ 1 ≤ p ∧ p ≤ 1000000000 ∧ 1 ≤ q ∧ q ≤ 1000000000 := by simpa [okA] using h
    obtain ⟨h0, h1, h2, h3, h4, h5, p0, p1, q0, q1⟩ := h'
    rw [aboveV, aboveE, if_pos h, if_pos h]
    exact dAbove_in m p s q t w h0 h1 h2 h3 h4 h5 p0 p1 q0 q1
  | false =>
    have h' : ¬ (11 ≤ m ∧ m ≤ 15 ∧ 0 ≤ s ∧ s ≤ 1000 ∧ 0 ≤ t ∧ t ≤ 1000 ∧ 1 ≤ p ∧ p ≤ 1000000000 ∧ 1 ≤ q ∧ q ≤ 1000000000) := by simpa [okA] using h
    rw [aboveV, aboveE, if_neg (by simp [h]), if_neg (by simp [h])]
    by_cases hk : 11 ≤ m ∧ m ≤ 15 ∧ 0 ≤ s ∧ s ≤ 1000 ∧ 0 ≤ t ∧ t ≤ 1000
    · exact dAbove_far m p s q t w hk (fun hc => h' ⟨hk.1, hk.2.1, hk.2.2.1, hk.2.2.2.1, hk.2.2.2.2.1, hk.2.2.2.2.2, hc⟩)
    · exact dAbove_bad m p s q t w hk
set_option maxRecDepth 100000 in
set_option maxHeartbeats 2000000 in
/-- The fraction n / d of whole numbers. -/
theorem law_of (n d : Int) (w : World) (h0 : 0 < d) (h1 : d ≤ 9223372036854775807) (h2 : -9223372036854775808 ≤ n) (h3 : n ≤ 9223372036854775807) :
    Calls Try.prog 8 #[.int .i64 n, .int .i64 d] w (fun e w' => e = .returned (.agg (shA n d)) ∧ Lat w w') := by
  have HO : ∀ w, Calls Try.prog 19 #[.int .i64 n, .int .i64 d] w (ShR w (shA n d) 0) := fun w => (rOf_ok n d (by omega) h2 (by omega) (by omega) (by omega) w).mono fun _ _ h => (h.fits (fits_small h0 h1 h2 h3)).r
  obtain ⟨u, v, hX⟩ : ∃ u v : W8, shA n d = #[.int .u64 u.a0, .int .u64 u.a1, .int .u64 u.a2, .int .u64 u.a3, .int .u64 u.a4, .int .u64 u.a5, .int .u64 u.a6, .int .u64 u.a7, .int .u64 v.a0, .int .u64 v.a1, .int .u64 v.a2, .int .u64 v.a3, .int .u64 v.a4, .int .u64 v.a5, .int .u64 v.a6, .int .u64 v.a7] := ⟨_, _, rfl⟩
  have hG := shA_good n d
  obtain ⟨X, hX'⟩ : ∃ X, shA n d = X := ⟨_, rfl⟩
  rw [hX'] at HO hX hG ⊢
  have HX := Lib.hid hX
  have X1 := Lib.hid hG.1
  have X2 := Lib.hid hG.2.1
  have i16 : Hid ((Try.prog.info? 29).map (·.size) = some X.size) := by show _ = _; rw [X1.out]; exact shareInfo16
  clear hX hX' hG h0 h1 h2 h3
  go_enter Try.func8, Try.ntmps8
  go_wp2_with fail
  refine name1 (Q := fun W => Calls _ _ _ W _) ?_
  intro W hl hs k1
  refine (HO W).mono ?_
  rintro e w1 ⟨rfl, l1⟩
  have K1 := k1.later l1
  have L := hl.trans l1
  have hlt := K1.lt
  have K0 := Blk.new w1 29 #[.int .u64 W8.zero.a0, .int .u64 W8.zero.a1, .int .u64 W8.zero.a2, .int .u64 W8.zero.a3, .int .u64 W8.zero.a4, .int .u64 W8.zero.a5, .int .u64 W8.zero.a6, .int .u64 W8.zero.a7, .int .u64 W8.zero.a0, .int .u64 W8.zero.a1, .int .u64 W8.zero.a2, .int .u64 W8.zero.a3, .int .u64 W8.zero.a4, .int .u64 W8.zero.a5, .int .u64 W8.zero.a6, .int .u64 W8.zero.a7]
  clear k1 hl l1 HO
  go_wp2_with (first
    | (refine wpList_put rfl 29 (.tmp 5) (.tmp 11) (by rfl) (by rfl) w1.heap.size (by rfl) X (by rfl) K0 (by rw [X1.out]; rfl) i16.out X2.out ?_; intro w5 hput;
         have KX := hput.blk; have L5 := hput.lat w (L.trans (Lat.alloc _ _)) (by have := L.size; omega); have KR := hput.keep (K1.alloc _) (by omega))
    | (refine wpList_get (by rfl) 29 (.tmp 5) (by rfl) w1.heap.size (by rfl) KX _ Try.underlying29 rfl i16.out ?_)
    | (refine wpList_put rfl 29 (.tmp 4) (.tmp 13) (by rfl) (by rfl) w.heap.size (by rfl) X (by rfl) KR (by rw [X1.out]; rfl) i16.out X2.out ?_; intro w6 hput6; have KS := hput6.blk; have L6 := hput6.lat w L5 (Nat.le_refl _)))
  obtain ⟨u, v, rfl⟩ := HX.out
  have e0 := KS.cell 0
  have e1 := KS.cell 1
  have e2 := KS.cell 2
  have e3 := KS.cell 3
  have e4 := KS.cell 4
  have e5 := KS.cell 5
  have e6 := KS.cell 6
  have e7 := KS.cell 7
  have e8 := KS.cell 8
  have e9 := KS.cell 9
  have e10 := KS.cell 10
  have e11 := KS.cell 11
  have e12 := KS.cell 12
  have e13 := KS.cell 13
  have e14 := KS.cell 14
  have e15 := KS.cell 15
  clear KX KR hput hput6 K0 K1
  refine bodyPost_ret (v := .agg #[.int .u64 u.a0, .int .u64 u.a1, .int .u64 u.a2, .int .u64 u.a3, .int .u64 u.a4, .int .u64 u.a5, .int .u64 u.a6, .int .u64 u.a7, .int .u64 v.a0, .int .u64 v.a1, .int .u64 v.a2, .int .u64 v.a3, .int .u64 v.a4, .int .u64 v.a5, .int .u64 v.a6, .int .u64 v.a7]) (by simp [results, Try.results8, go_sem, e0, e1, e2, e3, e4, e5, e6, e7, e8, e9, e10, e11, e12, e13, e14, e15]) rfl ?_
  exact ⟨rfl, L6⟩
end Go.Proofs.Ytkjnjooggicgiaa
