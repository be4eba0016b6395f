/- Several texts in one: Draft, Gives. -/
import Derived.Test.YtebbhhdnjflmcaaGreatJ16
import Derived.Test.YtebbhhdnjflmcaaGreatJ17
import Derived.Test.YtebbhhdnjflmcaaGreatJ32
import Derived.Deep.DeepCutAuto
import Derived.Test.YtebbhhdnjflmcaaGreatJ33
import Derived.Test.YtebbhhdnjflmcaaGreatJ46
import Derived.Test.YtebbhhdnjflmcaaGreatK02
import Derived.Test.YtebbhhdnjflmcaaGreatK03

/- The drafts of a census: House, Census, Minimums. -/
namespace Go.Proofs.YtebbhhdnjflmcaaGreat
open Go.RowKit
set_option linter.unusedSimpArgs false

/-- The number of seats of a draft. -/
def houseN (s : Int) : Int := if s % 8 = 0 then 1 + s % 1000 else 1 + s % 20
theorem houseN_range {s : Int} : 1 ≤ houseN s ∧ houseN s ≤ 1000 := by unfold houseN; split <;> omega
theorem house_any (Ap : Option Addr) (np cp : Nat) (u : Int) (Al : Option Addr) (nl cl : Nat) (s : Int) (w : World) (h0 : 0 ≤ s) (h1 : s ≤ 65535) :
    Calls Tryz.prog 19 #[.agg #[.slice Ap np cp, .int .u8 u, .slice Al nl cl, .int .u16 s]] w (fun e w' => e = .returned (.int .i64 (houseN s)) ∧ Lat w w') := by
  by_cases h : s % 8 = 0
  · have HH : Hid (houseN s = 1 + s % 1000) := by show _ = _; rw [houseN, if_pos h]
    have hb : (s % 8 == 0) = true := by simp [h]
    clear h
    go_enter Tryz.func19, Tryz.ntmps19
    go_upto_region 1 with (fail)
    refine name1 (Q := fun W => Code.wp _ _ _ _ W) ?_
    intro W hl hs k1
    have c1_0 := k1.cell 0
    have c1_1 := k1.cell 1
    have c1_2 := k1.cell 2
    have c1_3 := k1.cell 3
    go_wp2
    go_ret
    exact ⟨by rw [HH.out]; rfl, hl⟩
  · have HH : Hid (houseN s = 1 + s % 20) := by show _ = _; rw [houseN, if_neg h]
    have hb : (s % 8 == 0) = false := by simp [h]
    clear h
    go_enter Tryz.func19, Tryz.ntmps19
    go_upto_region 1 with (fail)
    refine name1 (Q := fun W => Code.wp _ _ _ _ W) ?_
    intro W hl hs k1
    have c1_0 := k1.cell 0
    have c1_1 := k1.cell 1
    have c1_2 := k1.cell 2
    have c1_3 := k1.cell 3
    go_wp2
    go_ret
    exact ⟨by rw [HH.out]; rfl, hl⟩

/-- The people of a region of a draft. -/
def cenOne (u n : Int) : Int := if u % 3 = 0 then n % 12 else n * u
/-- The census of a draft. -/
def draftC (u : Int) (ps : List Int) : List Int :=
  if ((ps.take 8).map (cenOne u)).sum = 0 then (ps.take 8).map (cenOne u) ++ [1] else (ps.take 8).map (cenOne u)
theorem cenOne_range {u n : Int} (h0 : 0 ≤ u) (h1 : u ≤ 255) (h2 : 0 ≤ n) (h3 : n ≤ 65535) : 0 ≤ cenOne u n ∧ cenOne u n ≤ 17000000 := by
  unfold cenOne
  split
  · omega
  · have := Int.mul_nonneg h2 h0
    have h4 : n * u ≤ 65535 * 255 := Int.mul_le_mul h3 h1 h0 (by decide)
    omega
theorem cen_all {u : Int} {ps : List Int} (h0 : 0 ≤ u) (h1 : u ≤ 255) (hp : ∀ x ∈ ps, 0 ≤ x ∧ x ≤ 65535) (k : Nat) : ∀ x ∈ (ps.take k).map (cenOne u), 0 ≤ x ∧ x ≤ 17000000 := by
  intro x hx
  obtain ⟨y, hy, rfl⟩ := List.mem_map.1 hx
  have := hp y (List.mem_of_mem_take hy)
  exact cenOne_range h0 h1 this.1 this.2
theorem cen_sum {l : List Int} (h : ∀ x ∈ l, 0 ≤ x ∧ x ≤ 17000000) : 0 ≤ l.sum ∧ l.sum ≤ 17000000 * l.length := by
  induction l with
  | nil => simp
  | cons y r ih =>
    have h1 := h y (by simp)
    have h2 := ih (fun x hx => h x (by simp [hx]))
    simp only [List.sum_cons, List.length_cons]
    omega
theorem draftC_ok {u : Int} {ps : List Int} (h0 : 0 ≤ u) (h1 : u ≤ 255) (hp : ∀ x ∈ ps, 0 ≤ x ∧ x ≤ 65535) : (∀ x ∈ draftC u ps, 0 ≤ x ∧ x ≤ 17000000) ∧ 0 < (draftC u ps).sum ∧ 0 < (draftC u ps).length ∧ (draftC u ps).length ≤ 9 := by
  have ha := cen_all h0 h1 hp 8
  have hs := (cen_sum ha).1
  have hl : ((ps.take 8).map (cenOne u)).length ≤ 8 := by rw [List.length_map]; exact List.length_take_le _ _
  unfold draftC
  split
  · rename_i hz
    refine ⟨fun x hx => ?_, by rw [List.sum_append, hz]; decide, by simp, by simp only [List.length_append, List.length_singleton]; omega⟩
    rcases List.mem_append.1 hx with h | h
    · exact ha x h
    · rw [List.mem_singleton] at h; omega
  · rename_i hz
    refine ⟨ha, by omega, ?_, by omega⟩
    refine List.length_pos_iff.2 (fun he => hz ?_)
    rw [he]; rfl
theorem draftC_census {u : Int} {ps : List Int} (h0 : 0 ≤ u) (h1 : u ≤ 255) (hp : ∀ x ∈ ps, 0 ≤ x ∧ x ≤ 65535) : censusB (draftC u ps) = true := by
  obtain ⟨a, b, c, d⟩ := draftC_ok h0 h1 hp
  exact census_iff.2 ⟨by omega, fun x hx => by have := a x hx; omega, b⟩

/-- What a call leaves that returns new numbers. -/
def NewPost (w : World) (xs : List Int) (e : Ending) (w' : World) : Prop :=
  ∃ A c, e = .returned (.slice A xs.length c) ∧ Sl w' .i64 A xs.length xs ∧ xs.length ≤ c ∧ Lat w w' ∧ ∀ a, A = some a → w.heap.size ≤ a.block

set_option maxHeartbeats 2000000 in
theorem census_any (Ap : Option Addr) (np cp : Nat) (ps : List Int) (u : Int) (Al : Option Addr) (nl cl : Nat) (s : Int) (w : World) (hp : Sl w .u16 Ap np ps) (hn : np ≤ 9223372036854775807) (hr : ∀ x ∈ ps, 0 ≤ x ∧ x ≤ 65535) (u0 : 0 ≤ u) (u1 : u ≤ 255) :
    Calls Tryz.prog 16 #[.agg #[.slice Ap np cp, .int .u8 u, .slice Al nl cl, .int .u16 s]] w (NewPost w (draftC u ps)) := by
  have HR := Lib.hid hr
  have hpl := hp.1
  have HPL := Lib.hid hpl
  clear hr hpl
  go_enter Tryz.func16, Tryz.ntmps16
  go_upto_region 1 with (fail)
  refine name1 (Q := fun W => Code.wp _ _ _ _ W) ?_
  intro W hl hs k1
  have hpW := hp.later hl
  go_wp2
  go_loopw [3, 4, 5] (fun v t i wr => ∃ k : Nat, k ≤ np ∧ k ≤ 8 ∧ i = .int .i64 k ∧ Own wr W.heap.size 3 .i64 v ((ps.take k).map (cenOne u)) ∧ t = .int .i64 ((ps.take k).map (cenOne u)).sum ∧ Lat W wr) (fun _ _ i _ => 8 - (intOf i).toNat)
  case atStart => exact ⟨0, Nat.zero_le _, by omega, rfl, Own.nil _ _ _ _, rfl, Lat.refl _⟩
  case round =>
    obtain ⟨k, hk, hk8, rfl, hown, rfl, hlr⟩ := hrel
    have hB := hlr.size
    have HSB := Lib.hid (cen_sum (cen_all u0 u1 HR.out k))
    have hlk : ((ps.take k).map (cenOne u)).length = k := by rw [List.length_map, List.length_take]; have := HPL.out; omega
    have hsb := HSB.out
    rw [hlk] at hsb
    have HLK := Lib.hid hlk
    clear hlk HSB
    have k2 := k1.later hlr
    have c1_0 := k2.cell 0
    have c1_1 := k2.cell 1
    have c1_2 := k2.cell 2
    have c1_3 := k2.cell 3
    by_cases hlt : k < np ∧ k < 8
    · obtain ⟨hlt, hlt8⟩ := hlt
      obtain ⟨a, x, rfl, ha, hxk, hcell⟩ := (hpW.later hlr).at hlt
      have hx := HR.out x (List.mem_of_getElem? hxk)
      have hx0 := hx.1
      have hx1 := hx.2
      have HT : Hid ((ps.take (k + 1)).map (cenOne u) = (ps.take k).map (cenOne u) ++ [cenOne u x]) := by
        obtain ⟨hl', rfl⟩ := List.getElem?_eq_some_iff.1 hxk
        show _ = _
        rw [List.take_succ_eq_append_getElem hl', List.map_append]; rfl
      have hc := cenOne_range u0 u1 hx0 hx1
      have hlt8' : (k : Int) < 8 := by omega
      have hlt' : (k : Int) < np := by omega
      obtain ⟨os, hos⟩ : ∃ os, (ps.take k).map (cenOne u) = os := ⟨_, rfl⟩
      rw [hos] at hown HT HLK hsb ⊢
      obtain ⟨t, ht⟩ : ∃ t, os.sum = t := ⟨_, rfl⟩
      rw [ht] at hsb ⊢
      have HS := Lib.hid ht
      obtain ⟨y, hy⟩ : ∃ y, cenOne u x = y := ⟨_, rfl⟩
      rw [hy] at HT hc
      have HS' : Hid (((ps.take (k + 1)).map (cenOne u)).sum = t + y) := by show _ = _; rw [HT.out, List.sum_append, ht]; simp
      have hc0 := hc.1
      have hc1 := hc.2
      have hs0 := hsb.1
      have hs1 : t ≤ 136000000 := by omega
      clear hxk hx ht hos hc hsb HS
      have hol : os.length + 1 ≤ 17000000000000 := by have := HLK.out; omega
      by_cases hu : u % 3 = 0
      · have hy' : x % 12 = y := by rw [← hy, cenOne, if_pos hu]
        have hub : (u % 3 == 0) = true := by simp [hu]
        clear hy hu
        go_wp2_with (at_builtin; refine wpList_push rfl _ _ 44 rfl W.heap.size 3 3 .i64 8 Tryz.underlying44 infoI64 (by decide) _ os [y] _ rfl wr (by rfl) hown 1 rfl (by decide) (by rfl) hol hB ?_; intro v' w1 hown1 hlat1)
        go_roundw
        case rel => exact ⟨k + 1, by omega, by omega, by go_num, by rw [HT.out]; exact hown1, by rw [HS'.out], hlat1 W hlr (Nat.le_refl _)⟩
        case measure => simp [intOf]; omega
      · have hy' : x * u = y := by rw [← hy, cenOne, if_neg hu]
        have hub : (u % 3 == 0) = false := by simp [hu]
        clear hy hu
        go_wp2_with (at_builtin; refine wpList_push rfl _ _ 44 rfl W.heap.size 3 3 .i64 8 Tryz.underlying44 infoI64 (by decide) _ os [y] _ rfl wr (by rfl) hown 1 rfl (by decide) (by rfl) hol hB ?_; intro v' w1 hown1 hlat1)
        go_roundw
        case rel => exact ⟨k + 1, by omega, by omega, by go_num, by rw [HT.out]; exact hown1, by rw [HS'.out], hlat1 W hlr (Nat.le_refl _)⟩
        case measure => simp [intOf]; omega
    · have htk : ps.take k = ps.take 8 := by
        have := HPL.out
        by_cases h8 : k = 8
        · rw [h8]
        · rw [List.take_of_length_le (by omega), List.take_of_length_le (by omega)]
      have hdr : Hid (draftC u ps = if ((ps.take k).map (cenOne u)).sum = 0 then (ps.take k).map (cenOne u) ++ [1] else (ps.take k).map (cenOne u)) := by show _ = _; rw [draftC, htk]
      obtain ⟨os, hos⟩ : ∃ os, (ps.take k).map (cenOne u) = os := ⟨_, rfl⟩
      rw [hos] at hown HLK hsb hdr ⊢
      obtain ⟨t, ht⟩ : ∃ t, os.sum = t := ⟨_, rfl⟩
      rw [ht] at hsb hdr ⊢
      have hs0 := hsb.1
      have hol : os.length + 1 ≤ 17000000000000 := by have := HLK.out; omega
      obtain ⟨A3, c3, rfl, hsl, hcap, hnew⟩ := hown.form
      have hLW := hl.trans hlr
      have hWs := hl.size
      clear htk hos ht hsb
      by_cases h0 : t = 0
      · have HD : Hid (draftC u ps = os ++ [1]) := by show _ = _; rw [hdr.out, if_pos h0]
        subst h0
        clear hdr
        by_cases hk1 : k < np
        · have hk2 : ¬ (k : Int) < 8 := by omega
          clear hlt
          go_wp2_with (at_builtin; refine wpList_push rfl _ _ 44 rfl W.heap.size 3 3 .i64 8 Tryz.underlying44 infoI64 (by decide) _ os [1] _ rfl wr (by rfl) hown 1 rfl (by decide) (by rfl) hol hB ?_; intro v' w1 hown1 hlat1)
          obtain ⟨A4, c4, rfl, hsl4, hcap4, hnew4⟩ := hown1.form
          have hl1 := hlat1 W hlr (Nat.le_refl _)
          go_ret
          exact ⟨A4, c4, by rw [HD.out]; rfl, by rw [HD.out]; exact hsl4, by rw [HD.out]; exact hcap4, hl.trans hl1, fun a e => by have := (hnew4 a e).1; omega⟩
        · clear hlt
          go_wp2_with (at_builtin; refine wpList_push rfl _ _ 44 rfl W.heap.size 3 3 .i64 8 Tryz.underlying44 infoI64 (by decide) _ os [1] _ rfl wr (by rfl) hown 1 rfl (by decide) (by rfl) hol hB ?_; intro v' w1 hown1 hlat1)
          obtain ⟨A4, c4, rfl, hsl4, hcap4, hnew4⟩ := hown1.form
          have hl1 := hlat1 W hlr (Nat.le_refl _)
          go_ret
          exact ⟨A4, c4, by rw [HD.out]; rfl, by rw [HD.out]; exact hsl4, by rw [HD.out]; exact hcap4, hl.trans hl1, fun a e => by have := (hnew4 a e).1; omega⟩
      · have HD : Hid (draftC u ps = os) := by show _ = _; rw [hdr.out, if_neg h0]
        have h0' : (t == 0) = false := by simp [h0]
        have HF : Hid (NewPost w (draftC u ps) (.returned (.slice A3 os.length c3)) wr) := by
          show NewPost _ _ _ _
          rw [HD.out]
          exact ⟨A3, c3, rfl, hsl, hcap, hLW, fun a e => by have := (hnew a e).1; omega⟩
        clear hdr h0 hown hsl hcap hnew
        by_cases hk1 : k < np
        · have hk2 : ¬ (k : Int) < 8 := by omega
          clear hlt
          go_wp2
          go_ret
          exact HF.out
        · clear hlt
          go_wp2
          go_ret
          exact HF.out

/-- One minimum of a draft. -/
def minStep (ls : List Int) (p : List Int × Int) (i : Nat) : List Int × Int :=
  let n := match ls[i]? with | some x => min (x % 4) p.2 | none => 0
  (p.1 ++ [n], p.2 - n)
def minsK (ls : List Int) (h : Int) (k : Nat) : List Int × Int := (List.range k).foldl (minStep ls) ([], h)
/-- The minimums of a draft. -/
def draftM (u s : Int) (ps ls : List Int) : List Int := (minsK ls (houseN s) (draftC u ps).length).1
theorem minsK_succ (ls : List Int) (h : Int) (k : Nat) : minsK ls h (k + 1) = minStep ls (minsK ls h k) k := by simp [minsK, List.range_succ]
theorem minsK_some {ls : List Int} {h : Int} {k : Nat} {x : Int} (hx : ls[k]? = some x) : minsK ls h (k + 1) = ((minsK ls h k).1 ++ [min (x % 4) (minsK ls h k).2], (minsK ls h k).2 - min (x % 4) (minsK ls h k).2) := by rw [minsK_succ]; simp [minStep, hx]
theorem minsK_none {ls : List Int} {h : Int} {k : Nat} (hx : ls.length ≤ k) : minsK ls h (k + 1) = ((minsK ls h k).1 ++ [0], (minsK ls h k).2) := by rw [minsK_succ]; simp [minStep, List.getElem?_eq_none hx]
theorem minsK_ok (ls : List Int) {h : Int} (h0 : 0 ≤ h) (k : Nat) : (minsK ls h k).1.length = k ∧ 0 ≤ (minsK ls h k).2 ∧ (minsK ls h k).1.sum + (minsK ls h k).2 = h ∧ ∀ x ∈ (minsK ls h k).1, 0 ≤ x ∧ x ≤ 3 := by
  induction k with
  | zero => exact ⟨rfl, h0, by simp [minsK], fun x hx => by simp [minsK] at hx⟩
  | succ k ih =>
    obtain ⟨a, b, c, d⟩ := ih
    rw [minsK_succ]
    simp only [minStep]
    cases hx : ls[k]? with
    | none =>
      simp only
      refine ⟨by simp [a], by simpa using b, by simp; omega, fun x hx => ?_⟩
      rcases List.mem_append.1 hx with h | h
      · exact d x h
      · rw [List.mem_singleton] at h; omega
    | some y =>
      have m0 : 0 ≤ y % 4 := Int.emod_nonneg _ (by decide)
      have m1 : y % 4 < 4 := Int.emod_lt_of_pos _ (by decide)
      simp only
      refine ⟨by simp [a], by omega, by rw [List.sum_append]; simp; omega, fun x hx => ?_⟩
      rcases List.mem_append.1 hx with h | h
      · exact d x h
      · rw [List.mem_singleton] at h; omega
theorem draftM_ok (u s : Int) (ps ls : List Int) : (draftM u s ps ls).length = (draftC u ps).length ∧ (draftM u s ps ls).sum ≤ houseN s ∧ ∀ x ∈ draftM u s ps ls, 0 ≤ x ∧ x ≤ 3 := by
  have hh := (@houseN_range s).1
  obtain ⟨a, b, c, d⟩ := minsK_ok ls (h := houseN s) (by omega) (draftC u ps).length
  unfold draftM
  exact ⟨a, by omega, d⟩

set_option maxHeartbeats 2000000 in
theorem draftMin_any (Ap : Option Addr) (np cp : Nat) (ps : List Int) (u : Int) (Al : Option Addr) (nl cl : Nat) (ls : List Int) (s : Int) (w : World) (hp : Sl w .u16 Ap np ps) (hn : np ≤ 9223372036854775807) (hr : ∀ x ∈ ps, 0 ≤ x ∧ x ≤ 65535) (u0 : 0 ≤ u) (u1 : u ≤ 255)
    (hl : Sl w .u8 Al nl ls) (hnl : nl ≤ 9223372036854775807) (hrl : ∀ x ∈ ls, 0 ≤ x ∧ x ≤ 255) (s0 : 0 ≤ s) (s1 : s ≤ 65535) :
    Calls Tryz.prog 17 #[.agg #[.slice Ap np cp, .int .u8 u, .slice Al nl cl, .int .u16 s]] w (NewPost w (draftM u s ps ls)) := by
  have HRL := Lib.hid hrl
  have HLL := Lib.hid hl.1
  have HN := @houseN_range s
  obtain ⟨HH, hHH⟩ : ∃ HH, houseN s = HH := ⟨_, rfl⟩
  have HC := fun w (h : Sl w .u16 Ap np ps) => census_any Ap np cp ps u Al nl cl s w h hn hr u0 u1
  have hok := draftC_ok u0 u1 hr
  obtain ⟨C, hC⟩ : ∃ C, draftC u ps = C := ⟨_, rfl⟩
  have HD : Hid (draftM u s ps ls = (minsK ls HH C.length).1) := by show _ = _; rw [draftM, hHH, hC]
  have HHo := fun w => house_any Ap np cp u Al nl cl s w s0 s1
  rw [hHH] at HN HHo
  rw [hC] at HC hok
  have hCl : C.length ≤ 9 := hok.2.2.2
  have h0 : 0 ≤ HH := by omega
  have h1 : HH ≤ 1000 := HN.2
  have HC' := Lib.hid HC
  have HHo' := Lib.hid HHo
  clear hrl hr hHH hC HN hok HC HHo
  go_enter Tryz.func17, Tryz.ntmps17
  go_wp2_with fail
  refine name1 (Q := fun W => Calls _ _ _ W _) ?_
  intro W hlW hs k1
  have c1_0 := k1.cell 0
  have c1_1 := k1.cell 1
  have c1_2 := k1.cell 2
  have c1_3 := k1.cell 3
  refine (HHo'.out W).mono ?_
  rintro e w1 ⟨rfl, l1⟩
  have K1 := k1.later l1
  have LW1 := hlW.trans l1
  have hpW := hp.later LW1
  have hlsW := hl.later LW1
  clear c1_0 c1_1 c1_2 c1_3 k1 hlW l1 hp hl HHo'
  go_wp2
  go_loopw [3, 4, 5] (fun lf v i wr => ∃ k : Nat, k ≤ C.length ∧ i = .int .i64 k ∧ Own wr w1.heap.size 3 .i64 v (minsK ls HH k).1 ∧ lf = .int .i64 (minsK ls HH k).2 ∧ Lat w1 wr) (fun _ _ i _ => C.length - (intOf i).toNat)
  case atStart => exact ⟨0, Nat.zero_le _, rfl, Own.nil _ _ _ _, rfl, Lat.refl _⟩
  case round =>
    obtain ⟨k, hk, rfl, hown, rfl, hlr⟩ := hrel
    obtain ⟨g1, g2, g3, g4⟩ := minsK_ok ls h0 k
    have HS : Hid (0 ≤ (minsK ls HH k).1.sum) := (cen_sum (fun x hx => by have := g4 x hx; omega)).1
    have k2 := K1.later hlr
    have c1_0 := k2.cell 0
    have c1_1 := k2.cell 1
    have c1_2 := k2.cell 2
    have c1_3 := k2.cell 3
    go_wp2_with fail
    refine (HC'.out wr (hpW.later hlr)).mono ?_
    rintro e w2 ⟨Ac, cc, rfl, hsc, hcap, l2, hnew⟩
    clear hsc hcap hnew c1_0 c1_1 c1_2 c1_3
    have k2 := k2.later l2
    have c1_0 := k2.cell 0
    have c1_1 := k2.cell 1
    have c1_2 := k2.cell 2
    have c1_3 := k2.cell 3
    have L2 := hlr.trans l2
    have hB := L2.size
    have hown := hown.later l2
    have hls2 := hlsW.later L2
    by_cases hlt : k < C.length
    · by_cases hk1 : k < nl
      · obtain ⟨a, x, rfl, ha, hxk, hcell⟩ := hls2.at hk1
        have hx := HRL.out x (List.mem_of_getElem? hxk)
        have hx0 := hx.1
        have hx1 := hx.2
        have HT := Lib.hid (minsK_some (h := HH) hxk)
        obtain ⟨os, hos⟩ : ∃ os, (minsK ls HH k).1 = os := ⟨_, rfl⟩
        obtain ⟨lv, hlv⟩ : ∃ lv, (minsK ls HH k).2 = lv := ⟨_, rfl⟩
        rw [hos, hlv] at HT
        have HSs := HS.out
        rw [hos] at HSs hown g1 g3
        rw [hlv] at g2 g3 ⊢
        have hl1 : lv ≤ 1000 := by omega
        obtain ⟨y, hy⟩ : ∃ y, min (x % 4) lv = y := ⟨_, rfl⟩
        have hy0 : 0 ≤ y := by have := Int.emod_nonneg x (show (4 : Int) ≠ 0 by decide); omega
        have hy1 : y ≤ lv := by omega
        rw [hy] at HT
        have HT1 : Hid ((minsK ls HH (k + 1)).1 = os ++ [y]) := by show _ = _; rw [HT.out]
        have HT2 : Hid ((minsK ls HH (k + 1)).2 = lv - y) := by show _ = _; rw [HT.out]
        have hol : os.length + 1 ≤ 17000000000000 := by omega
        clear hx hxk HS HSs hos hlv HT g1 g3 g4
        go_wp2_with (at_builtin; refine wpList_push rfl _ _ 44 rfl w1.heap.size 3 3 .i64 8 Tryz.underlying44 infoI64 (by decide) _ os [y] _ rfl w2 (by rfl) hown 1 rfl (by decide) (by rfl) hol hB ?_; intro v' w3 hown3 hlat3)
        go_roundw
        case rel => exact ⟨k + 1, by omega, by go_num, by rw [HT1.out]; exact hown3, by rw [HT2.out], hlat3 w1 L2 (Nat.le_refl _)⟩
        case measure => simp [intOf]; omega
      · have hlen := HLL.out
        have HT := Lib.hid (minsK_none (h := HH) (ls := ls) (k := k) (by omega))
        obtain ⟨os, hos⟩ : ∃ os, (minsK ls HH k).1 = os := ⟨_, rfl⟩
        obtain ⟨lv, hlv⟩ : ∃ lv, (minsK ls HH k).2 = lv := ⟨_, rfl⟩
        rw [hos, hlv] at HT
        have HSs := HS.out
        rw [hos] at HSs hown g1 g3
        rw [hlv] at g2 g3 ⊢
        have hl1 : lv ≤ 1000 := by omega
        have HT1 : Hid ((minsK ls HH (k + 1)).1 = os ++ [0]) := by show _ = _; rw [HT.out]
        have HT2 : Hid ((minsK ls HH (k + 1)).2 = lv) := by show _ = _; rw [HT.out]
        have hol : os.length + 1 ≤ 17000000000000 := by omega
        clear HS HSs hos hlv HT g1 g3 g4 hlen
        go_wp2_with (at_builtin; refine wpList_push rfl _ _ 44 rfl w1.heap.size 3 3 .i64 8 Tryz.underlying44 infoI64 (by decide) _ os [0] _ rfl w2 (by rfl) hown 1 rfl (by decide) (by rfl) hol hB ?_; intro v' w3 hown3 hlat3)
        go_roundw
        case rel => exact ⟨k + 1, by omega, by go_num, by rw [HT1.out]; exact hown3, by rw [HT2.out], hlat3 w1 L2 (Nat.le_refl _)⟩
        case measure => simp [intOf]; omega
    · obtain rfl : C.length = k := by omega
      obtain ⟨A3, c3, rfl, hsl, hcap, hnew⟩ := hown.form
      have HF : Hid (NewPost w (draftM u s ps ls) (.returned (.slice A3 C.length c3)) w2) := by
        show NewPost _ _ _ _
        rw [HD.out]
        exact ⟨A3, c3, by rw [g1], hsl, hcap, LW1.trans L2, fun a e => by have := (hnew a e).1; have := LW1.size; omega⟩
      clear hlt hown hsl hcap hnew
      go_wp2
      go_ret
      exact HF.out
end Go.Proofs.YtebbhhdnjflmcaaGreat

/- DivisorGives: the walk. -/
namespace Go.Proofs.YtebbhhdnjflmcaaGreat
open Go.RowKit Go.Shelf
set_option linter.unusedSimpArgs false

theorem award_len {f : Int → Int → Int → Int → Int} {P : List Int} {C : List Nat} : ∀ (k : Nat) (S : List Int) (left : Int) (o : List Nat),
    (award f P C k S left o).seats.length = S.length ∧ (award f P C k S left o).tied.length ≤ C.length ∧ (award f P C k S left o).order.length ≤ o.length + left.toNat := by
  intro k
  induction k with
  | zero => intro S left o; exact ⟨rfl, by simp [award], by simp [award]⟩
  | succ k ih =>
    intro S left o
    unfold award
    split
    · exact ⟨rfl, by simp, by simp⟩
    · split
      · exact ⟨rfl, (bestL_sub _ _).length_le, by simp⟩
      · rename_i h0 h1
        obtain ⟨a, b, c⟩ := ih (bump S (bestL (vs f P S) C)) (left - (bestL (vs f P S) C).length) (o ++ bestL (vs f P S) C)
        refine ⟨by rw [a, bump_length], b, ?_⟩
        rw [List.length_append] at c
        omega
theorem giveF_len (P : List Int) (seats m : Int) (L : List Int) : (giveF P seats m L).seats.length ≤ 60 ∧ (giveF P seats m L).tied.length ≤ 60 ∧ (giveF P seats m L).order.length ≤ 1000 := by
  unfold giveF
  by_cases h : giveE P seats m L = 0
  · rw [if_pos h]
    have hc : censusB P = true := by
      by_cases hc : censusB P = false
      · rw [giveE, if_pos hc] at h; omega
      · simpa using hc
    have ha : askB seats m = true := by
      by_cases ha : askB seats m = false
      · rw [giveE, if_neg (by simp [hc]), if_pos ha] at h; omega
      · simpa using ha
    have hlow : lowB P.length seats L = true := by
      by_cases hl : lowB P.length seats L = false
      · rw [giveE, if_neg (by simp [hc]), if_neg (by simp [ha]), if_pos hl] at h; omega
      · simpa using hl
    have hs : ¬ seats < (lowOf P.length L).sum := by
      intro hs
      rw [giveE, if_neg (by simp [hc]), if_neg (by simp [ha]), if_neg (by simp [hlow]), if_pos hs] at h
      omega
    have hcen := census_iff.1 hc
    have hask : 1 ≤ seats ∧ seats ≤ 1000 ∧ 11 ≤ m ∧ m ≤ 15 := by simpa [askB] using ha
    simp only [lowB, Bool.and_eq_true, decide_eq_true_eq, inAll_iff] at hlow
    have hpos := sum_nonneg (fun x hx => (hlow.2 x hx).1)
    have hfl : (full P).length ≤ P.length := by
      have := List.length_filter_le (fun i => decide (0 < atI P i)) (List.range P.length)
      rwa [List.length_range] at this
    unfold giveA awardOf
    obtain ⟨a, b, c⟩ := award_len (f := cmpR m) (P := P) (C := full P) (seats - (lowOf P.length L).sum).toNat (lowOf P.length L) (seats - (lowOf P.length L).sum) []
    refine ⟨by rw [a, hlow.1]; exact hcen.1, by omega, ?_⟩
    simp only [List.length_nil] at c
    omega
  · rw [if_neg h]
    simp [noAw]

theorem idx48 (v0 v1 v2 : Value) (k : Nat) (hk : k < 3) : ∃ v, (v = v0 ∨ v = v1 ∨ v = v2) ∧ ∀ (o : Oper) (ev : Operand → Value) (w : World) (x y : Operand), o.op = .index 48 x y → ev x = .agg #[v0, v1, v2] → ev y = .int .i64 k →
    (execOp ev o).run Tryz.prog w = .ok (.value v) w := by
  match k, hk with
  | 0, _ =>
    refine ⟨v0, .inl rfl, ?_⟩
    intro o ev w x y ho hx hy
    obtain ⟨d, op, ty, p, af, g⟩ := o
    simp only at ho
    subst ho
    unfold execOp
    simp only [hx, hy]
    go_simp
    unfold Instr.index
    go_simp
  | 1, _ =>
    refine ⟨v1, .inr (.inl rfl), ?_⟩
    intro o ev w x y ho hx hy
    obtain ⟨d, op, ty, p, af, g⟩ := o
    simp only at ho
    subst ho
    unfold execOp
    simp only [hx, hy]
    go_simp
    unfold Instr.index
    go_simp
  | 2, _ =>
    refine ⟨v2, .inr (.inr rfl), ?_⟩
    intro o ev w x y ho hx hy
    obtain ⟨d, op, ty, p, af, g⟩ := o
    simp only at ho
    subst ho
    unfold execOp
    simp only [hx, hy]
    go_simp
    unfold Instr.index
    go_simp
theorem idx49 (v0 v1 v2 : Value) (k : Nat) (hk : k < 3) : ∃ v, (v = v0 ∨ v = v1 ∨ v = v2) ∧ ∀ (o : Oper) (ev : Operand → Value) (w : World) (x y : Operand), o.op = .index 49 x y → ev x = .agg #[v0, v1, v2] → ev y = .int .i64 k →
    (execOp ev o).run Tryz.prog w = .ok (.value v) w := by
  match k, hk with
  | 0, _ =>
    refine ⟨v0, .inl rfl, ?_⟩
    intro o ev w x y ho hx hy
    obtain ⟨d, op, ty, p, af, g⟩ := o
    simp only at ho
    subst ho
    unfold execOp
    simp only [hx, hy]
    go_simp
    unfold Instr.index
    go_simp
  | 1, _ =>
    refine ⟨v1, .inr (.inl rfl), ?_⟩
    intro o ev w x y ho hx hy
    obtain ⟨d, op, ty, p, af, g⟩ := o
    simp only at ho
    subst ho
    unfold execOp
    simp only [hx, hy]
    go_simp
    unfold Instr.index
    go_simp
  | 2, _ =>
    refine ⟨v2, .inr (.inr rfl), ?_⟩
    intro o ev w x y ho hx hy
    obtain ⟨d, op, ty, p, af, g⟩ := o
    simp only at ho
    subst ho
    unfold execOp
    simp only [hx, hy]
    go_simp
    unfold Instr.index
    go_simp
theorem idx50 (v0 v1 : Value) (k : Nat) (hk : k < 2) : ∃ v, (v = v0 ∨ v = v1) ∧ ∀ (o : Oper) (ev : Operand → Value) (w : World) (x y : Operand), o.op = .index 50 x y → ev x = .agg #[v0, v1] → ev y = .int .i64 k →
    (execOp ev o).run Tryz.prog w = .ok (.value v) w := by
  match k, hk with
  | 0, _ =>
    refine ⟨v0, .inl rfl, ?_⟩
    intro o ev w x y ho hx hy
    obtain ⟨d, op, ty, p, af, g⟩ := o
    simp only at ho
    subst ho
    unfold execOp
    simp only [hx, hy]
    go_simp
    unfold Instr.index
    go_simp
  | 1, _ =>
    refine ⟨v1, .inr rfl, ?_⟩
    intro o ev w x y ho hx hy
    obtain ⟨d, op, ty, p, af, g⟩ := o
    simp only at ho
    subst ho
    unfold execOp
    simp only [hx, hy]
    go_simp
    unfold Instr.index
    go_simp
theorem idx51 (v0 v1 v2 v3 : Value) (k : Nat) (hk : k < 4) : ∃ v, (v = v0 ∨ v = v1 ∨ v = v2 ∨ v = v3) ∧ ∀ (o : Oper) (ev : Operand → Value) (w : World) (x y : Operand), o.op = .index 51 x y → ev x = .agg #[v0, v1, v2, v3] → ev y = .int .i64 k →
    (execOp ev o).run Tryz.prog w = .ok (.value v) w := by
  match k, hk with
  | 0, _ =>
    refine ⟨v0, .inl rfl, ?_⟩
    intro o ev w x y ho hx hy
    obtain ⟨d, op, ty, p, af, g⟩ := o
    simp only at ho
    subst ho
    unfold execOp
    simp only [hx, hy]
    go_simp
    unfold Instr.index
    go_simp
  | 1, _ =>
    refine ⟨v1, .inr (.inl rfl), ?_⟩
    intro o ev w x y ho hx hy
    obtain ⟨d, op, ty, p, af, g⟩ := o
    simp only at ho
    subst ho
    unfold execOp
    simp only [hx, hy]
    go_simp
    unfold Instr.index
    go_simp
  | 2, _ =>
    refine ⟨v2, .inr (.inr (.inl rfl)), ?_⟩
    intro o ev w x y ho hx hy
    obtain ⟨d, op, ty, p, af, g⟩ := o
    simp only at ho
    subst ho
    unfold execOp
    simp only [hx, hy]
    go_simp
    unfold Instr.index
    go_simp
  | 3, _ =>
    refine ⟨v3, .inr (.inr (.inr rfl)), ?_⟩
    intro o ev w x y ho hx hy
    obtain ⟨d, op, ty, p, af, g⟩ := o
    simp only at ho
    subst ho
    unfold execOp
    simp only [hx, hy]
    go_simp
    unfold Instr.index
    go_simp

theorem sameB_self (S T : List Int) (o : Int) : sameB S T o S T o = true := by simp [sameB]
theorem setP (w : World) (g i : Nat) (u : Value) : LatP (· = g) w (w.setCell ⟨g, i, none⟩ u) := ⟨rfl, rfl, rfl, by simp [World.setCell], fun j _ hj => Below.heap_setCell w ⟨g, i, none⟩ _ j hj⟩

set_option maxRecDepth 100000 in
set_option maxHeartbeats 8000000 in
theorem dGives_any (Ap : Option Addr) (np cp : Nat) (ps : List Int) (u : Int) (Al : Option Addr) (nl cl : Nat) (ls : List Int) (s at_ n : Int) (Ar : Option Addr) (nr cr : Nat) (raw : List Int) (seats method : Int) (Ae : Option Addr) (ne ce : Nat) (least : List Int) (w : World)
    (hp : Sl w .u16 Ap np ps) (hnp : np ≤ 9223372036854775807) (hrp : ∀ x ∈ ps, 0 ≤ x ∧ x ≤ 65535) (u0 : 0 ≤ u) (u1 : u ≤ 255) (hl : Sl w .u8 Al nl ls) (hnl : nl ≤ 9223372036854775807) (hrl : ∀ x ∈ ls, 0 ≤ x ∧ x ≤ 255) (s0 : 0 ≤ s) (s1 : s ≤ 65535)
    (a0 : 0 ≤ at_) (a1 : at_ ≤ 255) (hr : Sl w .i64 Ar nr raw) (hnr : nr ≤ cr) (hnr2 : nr ≤ 9223372036854775807) (he : Sl w .i64 Ae ne least) (hne : ne ≤ ce) (hne2 : ne ≤ 9223372036854775807) :
    Calls Tryz.prog 4 #[.agg #[.slice Ap np cp, .int .u8 u, .slice Al nl cl, .int .u16 s], .int .u8 at_, .int .i64 n, .slice Ar nr cr, .int .i64 seats, .int .i64 method, .slice Ae ne ce] w (Yes w) := by
  have HC := fun w (h : Sl w .u16 Ap np ps) => census_any Ap np cp ps u Al nl cl s w h hnp hrp u0 u1
  have HM := fun w (h : Sl w .u16 Ap np ps) (h2 : Sl w .u8 Al nl ls) => draftMin_any Ap np cp ps u Al nl cl ls s w h hnp hrp u0 u1 h2 hnl hrl s0 s1
  have HH := fun w => house_any Ap np cp u Al nl cl s w s0 s1
  have hok := draftC_ok u0 u1 hrp
  have hmk := draftM_ok u s ps ls
  obtain ⟨C, hC⟩ : ∃ C, draftC u ps = C := ⟨_, rfl⟩
  obtain ⟨M, hM⟩ : ∃ M, draftM u s ps ls = M := ⟨_, rfl⟩
  obtain ⟨h, hh⟩ : ∃ h, houseN s = h := ⟨_, rfl⟩
  rw [hC] at HC hok hmk
  rw [hM] at HM hmk
  rw [hh] at HH
  have hc0 := hok.2.2.1
  have hc9 := hok.2.2.2
  have HL := Lib.hid hmk.1
  have HC' := Lib.hid HC
  have HM' := Lib.hid HM
  have HH' := Lib.hid HH
  clear hrp hrl hC hM hh hok hmk HC HM HH
  go_enter Tryz.func4, Tryz.ntmps4
  go_wp2_with fail
  refine name1 (Q := fun W => Calls _ _ _ W _) ?_
  intro W1 L1 hs1 k1
  refine (wakes_any W1).mono ?_
  rintro e W2 ⟨rfl, l1⟩
  have L2 := L1.trans l1
  have k2 := k1.later l1
  have hp2 := hp.later L2
  have hl2 := hl.later L2
  clear l1 k1
  have HX := fun w (h : Lat W2 w) => HC'.out w (hp2.later h)
  have HY := fun w (h : Lat W2 w) => HM'.out w (hp2.later h) (hl2.later h)
  go_upto_region 3 with (fail)
  go_cut [15, 16] from 38 to 41 (fun c o wx => ∃ Ac cc Am cm, c = .slice Ac C.length cc ∧ o = .slice Am C.length cm ∧ Sl wx .i64 Ac C.length C ∧ Sl wx .i64 Am C.length M ∧ C.length ≤ cc ∧ C.length ≤ cm ∧ Lat W2 wx)
  case first =>
    have hnn : w.heap.size ∉ ([] : List Nat) := by simp
    have b0 := k2.evS hnn 0 rfl
    have b1 := k2.evS hnn 1 rfl
    have b2 := k2.evS hnn 2 rfl
    have b3 := k2.evS hnn 3 rfl
    have L0 := Lat.drew W2
    have M0 := L0.s ([] : List Nat)
    go_region_held3 (fun w' => LatS W2 ([] : List Nat) w') (first | (with_reducible assumption) | ((repeat refine LatS.set ?_ (by simp) _); (with_reducible assumption)))
      (first
        | (go_at_call 16; (with_reducible refine (HX _ ?_).mono ?_); (first | exact LM | exact L0); rintro e wc ⟨Ac, cc, rfl, q1, q2, q3, q4⟩; (first | have LC := LM.trans q3 | have LC := L0.trans q3); have MC := LC.s ([] : List Nat))
        | (go_at_call 17; (with_reducible refine (HY _ ?_).mono ?_); (first | exact LC | exact L0); rintro e wm ⟨Am, cm, rfl, r1, r2, r3, r4⟩; (first | have LM := LC.trans r3 | have LM := L0.trans r3); have MM := LM.s ([] : List Nat)))
    all_goals
      have hml := HL.out
      rw [hml] at r1 r2
      go_wp2_with fail
      go_meet
      exact ⟨Ac, cc, Am, cm, rfl, by first | rfl | rw [hml], q1.later r3, r1, q2, r2, LM⟩
  case rest =>
    obtain ⟨Ac, cc, Am, cm, rfl, rfl, q1, r1, q2, r2, l3⟩ := hcut
    have hAc : ∀ a, Ac = some a → a.block < wc.heap.size := fun a e => by
      obtain ⟨a', e', hlt, _⟩ := q1.2 hc0
      rw [e] at e'; cases e'; exact hlt
    have hAm : ∀ a, Am = some a → a.block < wc.heap.size := fun a e => by
      obtain ⟨a', e', hlt, _⟩ := r1.2 hc0
      rw [e] at e'; cases e'; exact hlt
    have k3 := k2.later l3
    have L3 := L2.trans l3
    clear HX HY k2 l3 hp2 hl2 L2
    go_wp2_with fail
    refine (clone_any Ac C.length cc C wc q1 hc0 (by omega)).mono ?_
    rintro e W4 ⟨gc, cc2, rfl, rowc, hgc, l4⟩
    go_wp2_with fail
    refine (clone_any Am C.length cm M W4 (r1.later l4) hc0 (by omega)).mono ?_
    rintro e W5 ⟨gm, cm2, rfl, rowm, hgm, l5⟩
    have k5 := (k3.later l4).later l5
    have hkx := k3.lt
    have q5 := (q1.later l4).later l5
    have r5 := (r1.later l4).later l5
    have rowc4 := rowc
    have rowc := rowc.keepP (l5.p (fun _ => False)) (fun h => h)
    have L5 := (L3.trans l4).trans l5
    have hgcm : gc < gm := by
      have h1 := hgm
      obtain ⟨_, hx, _⟩ := rowc4
      have := hx.lt
      omega
    obtain ⟨j, hj⟩ : ∃ j : Nat, at_ % (C.length : Int) = j := ⟨(at_ % (C.length : Int)).toNat, (Int.toNat_of_nonneg (Int.emod_nonneg _ (by omega))).symm⟩
    have hjl : j < C.length := by have := Int.emod_lt_of_pos at_ (show (0 : Int) < C.length by omega); omega
    have hjl' : (j : Int) < C.length := by omega
    have hcl : (0 : Int) < C.length := by omega
    have hcl1 : (C.length : Int) ≠ 0 := by omega
    have HJ : Hid (at_ % (C.length : Int) = j) := hj
    obtain ⟨curc, bc, curc2, curc3, curc4⟩ := id rowc
    obtain ⟨curm, bm, curm2, curm3, curm4⟩ := id rowm
    obtain ⟨xc, hxc⟩ : ∃ xc, curc[j]? = some xc := ⟨_, Array.getElem?_eq_getElem (by omega)⟩
    obtain ⟨xm, hxm⟩ : ∃ xm, curm[j]? = some xm := ⟨_, Array.getElem?_eq_getElem (by omega)⟩
    have ec : W5.cell? ⟨gc, j, none⟩ = some xc := (bc.cell j).trans hxc
    have em : W5.cell? ⟨gm, j, none⟩ = some xm := (bm.cell j).trans hxm
    have fc := bc.frozen j
    have fm := bm.frozen j
    clear k3 q1 r1 L3 curc3 curc4 curm3 curm4 curc2 curm2 hxc hxm hj
    have htm : at_.tmod (C.length : Int) = j := by rw [Int.tmod_eq_emod_of_nonneg a0]; exact HJ.out
    go_upto_region 5 with (fail)
    go_region
    have hwc := L5.size
    have hwk := k5.lt
    have hwl := l4.size
    have gcb : w.heap.size < gc := by have := hkx; omega
    have hgm' : wc.heap.size ≤ gm := by omega
    have rowc6 : RowN (((W5.setCell ⟨gc, j, none⟩ (.int .i64 n)).setCell ⟨gm, j, none⟩ (.int .i64 n)).drew) gc C.length (C.set j n) :=
      ((rowc.set (by omega) n).keepP (setP _ _ _ _) (by omega)).keepP ((Lat.drew _).p (fun _ => False)) (fun h => h)
    have rowm6 : RowN (((W5.setCell ⟨gc, j, none⟩ (.int .i64 n)).setCell ⟨gm, j, none⟩ (.int .i64 n)).drew) gm C.length (M.set j n) :=
      ((rowm.keepP (setP _ _ _ _) (by omega)).set (by have := rowm.sl.1; omega) n).keepP ((Lat.drew _).p (fun _ => False)) (fun h => h)
    have q6 : Sl (((W5.setCell ⟨gc, j, none⟩ (.int .i64 n)).setCell ⟨gm, j, none⟩ (.int .i64 n)).drew) .i64 Ac C.length C :=
      ((q5.far (fun a e => by have := hAc a e; show a.block ≠ gc; omega) _).far (fun a e => by have := hAc a e; show a.block ≠ gm; omega) _).later (Lat.drew _)
    have r6 : Sl (((W5.setCell ⟨gc, j, none⟩ (.int .i64 n)).setCell ⟨gm, j, none⟩ (.int .i64 n)).drew) .i64 Am C.length M :=
      ((r5.far (fun a e => by have := hAm a e; show a.block ≠ gc; omega) _).far (fun a e => by have := hAm a e; show a.block ≠ gm; omega) _).later (Lat.drew _)
    have k6 : Blk (((W5.setCell ⟨gc, j, none⟩ (.int .i64 n)).setCell ⟨gm, j, none⟩ (.int .i64 n)).drew) w.heap.size 43 #[.slice Ap np cp, .int .u8 u, .slice Al nl cl, .int .u16 s] :=
      ((k5.far (by show w.heap.size ≠ gc; omega) _).far (by show w.heap.size ≠ gm; omega) _).later (Lat.drew _)
    have L6 : Lat w (((W5.setCell ⟨gc, j, none⟩ (.int .i64 n)).setCell ⟨gm, j, none⟩ (.int .i64 n)).drew) :=
      ((L5.setCell (by show w.heap.size ≤ gc; omega) _).setCell (by show w.heap.size ≤ gm; omega) _).trans (Lat.drew _)
    obtain ⟨W6, hW6⟩ : ∃ W6, (((W5.setCell ⟨gc, j, none⟩ (.int .i64 n)).setCell ⟨gm, j, none⟩ (.int .i64 n)).drew) = W6 := ⟨_, rfl⟩
    rw [hW6] at rowc6 rowm6 q6 r6 k6 L6 ⊢
    have s1c := rowc6.sl
    have s1m := rowm6.sl
    have hr6 := hr.later L6
    have he6 := he.later L6
    clear hW6 rowc6 rowm6 rowc rowm rowc4 q5 r5 k5 L5 bc bm ec em fc fm htm l4 l5 hAc hAm hwc hwk hwl hgcm hgm hgc hgm' gcb hr he hp hl hjl hjl' hcl hcl1 HJ
    refine ‹∀ (a : Act) (w : World), Code.wp _ _ _ a w → _› _ _ ?_
    go_step
    go_cut [4] from 62 to 67 (fun v wx => ∃ sv : Int, v = .int .i64 sv ∧ Lat W6 wx)
    case first =>
      by_cases h40 : 40 < seats
      · by_cases h41 : seats ≤ 1000
        · go_wp2_with fail
          go_meet
          exact ⟨_, rfl, Lat.refl _⟩
        · go_wp2_with fail
          go_meet
          exact ⟨_, rfl, Lat.refl _⟩
      · go_wp2_with fail
        go_meet
        exact ⟨_, rfl, Lat.refl _⟩
    case rest =>
      obtain ⟨sv, rfl, l6⟩ := hcut
      have k7 := k6.later l6
      have c0 := k7.cell 0
      have c1 := k7.cell 1
      have c2 := k7.cell 2
      have c3 := k7.cell 3
      go_wp2_with fail
      refine (HH'.out wc).mono ?_
      rintro e W7 ⟨rfl, l7⟩
      have L7 := l6.trans l7
      have hr7 := hr6.later L7
      clear c0 c1 c2 c3 k7 l7 l6 k6
      obtain ⟨mr, Rr, hmr, hRr, hRs⟩ : ∃ (mr : Nat) (Rr : List Int), min (nr : Int) 70 = mr ∧ Sl W7 .i64 Ar mr Rr ∧ mr ≤ nr ∧ mr ≤ 70 := by
        refine ⟨min nr 70, raw.take (min nr 70), by omega, hr7.take (by omega), by omega, by omega⟩
      have hrs1 := hRs.1
      have hrs2 := hRs.2
      have hmc : mr ≤ cr := by omega
      clear hRs
      obtain ⟨m1, hm1⟩ : ∃ m1, 11 + at_ % 5 = m1 := ⟨_, rfl⟩
      obtain ⟨m2, hm2⟩ : ∃ m2, 11 + at_ / 5 % 5 = m2 := ⟨_, rfl⟩
      obtain ⟨h6, hh6⟩ : ∃ h6, min h 60 = h6 := ⟨_, rfl⟩
      have q7 := q6.later L7
      have r7 := r6.later L7
      have c7 := s1c.later L7
      have d7 := s1m.later L7
      have e7 := he6.later L7
      have LW := L6.trans L7
      have hcn : ∀ v : Value, v = .slice Ac C.length cc ∨ v = .slice (some ⟨gc, 0, none⟩) C.length cc2 ∨ v = .slice Ar mr cr → ∃ A n c xs, v = .slice A n c ∧ Sl W7 .i64 A n xs ∧ n ≤ 1000 := by
        rintro v (rfl | rfl | rfl)
        · exact ⟨_, _, _, _, rfl, q7, by omega⟩
        · exact ⟨_, _, _, _, rfl, c7, by omega⟩
        · exact ⟨_, _, _, _, rfl, hRr, by omega⟩
      have HCN := Lib.hid hcn
      obtain ⟨me, Re, hme, hRe, hes1, hes2⟩ : ∃ (me : Nat) (Re : List Int), min (ne : Int) 70 = me ∧ Sl W7 .i64 Ae me Re ∧ me ≤ ne ∧ me ≤ 70 := by
        refine ⟨min ne 70, least.take (min ne 70), by omega, e7.take (by omega), by omega, by omega⟩
      have hmce : me ≤ ce := by omega
      have hln : ∀ v : Value, v = .slice none 0 0 ∨ v = .slice Am C.length cm ∨ v = .slice (some ⟨gm, 0, none⟩) C.length cm2 ∨ v = .slice Ae me ce → ∃ A n c xs, v = .slice A n c ∧ Sl W7 .i64 A n xs ∧ n ≤ 1000 := by
        rintro v (rfl | rfl | rfl | rfl)
        · exact ⟨_, _, _, _, rfl, Sl.nil _ _ _, by omega⟩
        · exact ⟨_, _, _, _, rfl, r7, by omega⟩
        · exact ⟨_, _, _, _, rfl, d7, by omega⟩
        · exact ⟨_, _, _, _, rfl, hRe, by omega⟩
      have HLN := Lib.hid hln
      clear hln r7 d7 hRe e7
      clear hcn q6 r6 s1c s1m hr6 he6 q7 c7 hRr hr7 L6 L7 HC' HM' HH'
      go_wp2
      go_loopw [79] (fun i wr => ∃ k : Nat, k ≤ 3 ∧ i = .int .i64 k ∧ Lat W7 wr) (fun i _ => 3 - (intOf i).toNat)
      case atStart => exact ⟨0, by omega, rfl, Lat.refl _⟩
      case round =>
        obtain ⟨k, hk, rfl, hlr⟩ := hrel
        by_cases hlt : k < 3
        · obtain ⟨xv, hxv, hx⟩ := idx48 (.slice Ac C.length cc) (.slice (some ⟨gc, 0, none⟩) C.length cc2) (.slice Ar mr cr) k hlt
          obtain ⟨Ax, nx, cx, X, rfl, sx, hnx⟩ := HCN.out xv hxv
          have hk3 : (k : Int) < 3 := by omega
          clear hxv
          go_wp2_with (refine wpList_val rfl (.slice Ax nx cx) (hx _ _ _ _ _ (by rfl) (by rfl) (by rfl)) ?_)
          have hmx : ∀ v : Value, v = .int .i64 m1 ∨ v = .int .i64 m2 ∨ v = .int .i64 method → ∃ z, v = .int .i64 z := by
            rintro v (rfl | rfl | rfl) <;> exact ⟨_, rfl⟩
          have HMX := Lib.hid hmx
          obtain ⟨wk, rfl⟩ : ∃ wk : World, wk = wr := ⟨_, rfl⟩
          clear hmx hx
          go_loopw [94] (fun i wr => ∃ k : Nat, k ≤ 3 ∧ i = .int .i64 k ∧ Lat W7 wr) (fun i _ => 3 - (intOf i).toNat)
          case atStart => exact ⟨0, by omega, rfl, hlr⟩
          case round =>
            obtain ⟨k2, hk2, rfl, hlr2⟩ := hrel
            by_cases hlt2 : k2 < 3
            · obtain ⟨yv, hyv, hy⟩ := idx49 (.int .i64 m1) (.int .i64 m2) (.int .i64 method) k2 hlt2
              obtain ⟨mm, rfl⟩ := HMX.out yv hyv
              have hk23 : (k2 : Int) < 3 := by omega
              clear hyv
              go_wp2_with (refine wpList_val rfl (.int .i64 mm) (hy _ _ _ _ _ (by rfl) (by rfl) (by rfl)) ?_)
              have hsx : ∀ v : Value, v = .int .i64 h6 ∨ v = .int .i64 sv → ∃ z, v = .int .i64 z := by
                rintro v (rfl | rfl) <;> exact ⟨_, rfl⟩
              have HSX := Lib.hid hsx
              obtain ⟨wk2, rfl⟩ : ∃ wk : World, wk = wr := ⟨_, rfl⟩
              clear hsx hy
              go_loopw [100] (fun i wr => ∃ k : Nat, k ≤ 2 ∧ i = .int .i64 k ∧ Lat W7 wr) (fun i _ => 2 - (intOf i).toNat)
              case atStart => exact ⟨0, by omega, rfl, hlr2⟩
              case round =>
                obtain ⟨k3, hk3', rfl, hlr3⟩ := hrel
                by_cases hlt3 : k3 < 2
                · obtain ⟨zv, hzv, hz⟩ := idx50 (.int .i64 h6) (.int .i64 sv) k3 hlt3
                  obtain ⟨ss, rfl⟩ := HSX.out zv hzv
                  have hk33 : (k3 : Int) < 2 := by omega
                  clear hzv
                  go_wp2_with (refine wpList_val rfl (.int .i64 ss) (hz _ _ _ _ _ (by rfl) (by rfl) (by rfl)) ?_)
                  obtain ⟨wk3, rfl⟩ : ∃ wk : World, wk = wr := ⟨_, rfl⟩
                  clear hz
                  go_loopw [111] (fun i wr => ∃ k : Nat, k ≤ 4 ∧ i = .int .i64 k ∧ Lat W7 wr) (fun i _ => 4 - (intOf i).toNat)
                  case atStart => exact ⟨0, by omega, rfl, hlr3⟩
                  case round =>
                    obtain ⟨k4, hk4, rfl, hlr4⟩ := hrel
                    by_cases hlt4 : k4 < 4
                    · obtain ⟨lv, hlv, hli⟩ := idx51 (.slice none 0 0) (.slice Am C.length cm) (.slice (some ⟨gm, 0, none⟩) C.length cm2) (.slice Ae me ce) k4 hlt4
                      obtain ⟨Ay, ny, cy, Y, rfl, sy, hny⟩ := HLN.out lv hlv
                      have hk44 : (k4 : Int) < 4 := by omega
                      clear hlv
                      have F1 := fun w (h : Lat W7 w) => dGive_any Ax nx cx X Ay ny cy Y ss mm w (sx.later h) (sy.later h) (by omega) (by omega)
                      have F2 := fun w (h : Lat W7 w) => rGive_any Ax nx cx X Ay ny cy Y ss mm w (sx.later h) (sy.later h) hnx hny
                      have F3 := fun w (h : Lat W7 w) => dOrder_any Ax nx cx X Ay ny cy Y ss mm w (sx.later h) (sy.later h) (by omega) (by omega)
                      have F4 := fun w (h : Lat W7 w) => rOrder7_any Ax nx cx X Ay ny cy Y ss mm w (sx.later h) (sy.later h) hnx hny
                      have hFl := giveF_len X ss mm Y
                      obtain ⟨F, hF⟩ : ∃ F, giveF X ss mm Y = F := ⟨_, rfl⟩
                      obtain ⟨er, her⟩ : ∃ er, giveE X ss mm Y = er := ⟨_, rfl⟩
                      rw [hF, her] at F1 F2 F3 F4
                      rw [hF] at hFl
                      have hFa := hFl.1
                      have hFb : (ints F.tied).length ≤ 60 := by simp only [ints, List.length_map]; exact hFl.2.1
                      have hFc : (ints F.order).length ≤ 1000 := by simp only [ints, List.length_map]; exact hFl.2.2
                      have HFL := Lib.hid (And.intro hFa (And.intro hFb hFc))
                      clear hF her hFl hFa hFb hFc sx sy
                      obtain ⟨wj, rfl⟩ : ∃ wk : World, wk = wr := ⟨_, rfl⟩
                      by_cases hskip : 0 < k ∧ 1 < k4
                      · obtain ⟨g0, g1⟩ := hskip
                        clear F1 F2 F3 F4
                        go_wp2_with (refine wpList_val rfl (.slice Ay ny cy) (hli _ _ _ _ _ (by rfl) (by rfl) (by rfl)) ?_)
                        go_roundw
                        case rel => exact ⟨k4 + 1, by omega, by go_num, hlr4⟩
                        case measure => simp [intOf]; omega
                      · have hsk : Hid ((decide (0 < k) && decide (1 < k4)) = false) := by
                          show _ = _
                          rw [← Bool.not_eq_true]
                          intro h
                          simp at h
                          exact hskip h
                        have hor : ¬ 0 < k ∨ (0 < k ∧ ¬ 1 < k4) := by omega
                        clear hskip
                        rcases hor with g0 | ⟨g0, g1⟩
                        all_goals
                          go_wp2_with (refine wpList_val rfl (.slice Ay ny cy) (hli _ _ _ _ _ (by rfl) (by rfl) (by rfl)) ?_)
                          refine (F1 wj hlr4).mono ?_
                          rintro e v1 ⟨A1, n1, c1, A2, n2, c2, rfl, f1, f2, t1⟩
                          have T1 := hlr4.trans t1
                          clear F1 t1 hlr4 hli
                          go_wp2_with fail
                          refine name1 (Q := fun W => Calls _ _ _ W _) ?_
                          intro v2 t2 hs2 kb1
                          have T2 := T1.trans t2
                          refine (F2 v2 T2).mono ?_
                          rintro e v3 ⟨A3, n3, c3, A4, n4, c4, rfl, f3, f4, t3⟩
                          have T3 := T2.trans t3
                          have kb1 := kb1.later t3
                          have f1 := (f1.later t2).later t3
                          have f2 := (f2.later t2).later t3
                          clear F2 t2 t3 T1 T2 hs2
                          go_wp2_with fail
                          refine name1 (Q := fun W => Calls _ _ _ W _) ?_
                          intro v4 t4 hs4 kb2
                          have T4 := T3.trans t4
                          refine (F3 v4 T4).mono ?_
                          rintro e v5 ⟨A5, n5, c5, rfl, f5, t5⟩
                          have T5 := T4.trans t5
                          have kb1 := (kb1.later t4).later t5
                          have kb2 := kb2.later t5
                          have f1 := (f1.later t4).later t5
                          have f2 := (f2.later t4).later t5
                          have f3 := (f3.later t4).later t5
                          have f4 := (f4.later t4).later t5
                          clear F3 t4 t5 T3 T4 hs4
                          go_wp2_with fail
                          refine (F4 v5 T5).mono ?_
                          rintro e v6 ⟨A6, n6, c6, rfl, f6, t6⟩
                          have T6 := T5.trans t6
                          have kb1 := kb1.later t6
                          have kb2 := kb2.later t6
                          have HS := rSame_any A1 n1 c1 F.seats A2 n2 c2 (ints F.tied) F.left A3 n3 c3 F.seats A4 n4 c4 (ints F.tied) F.left v6 (f1.later t6) (f2.later t6) (f3.later t6) (f4.later t6)
                            (by have := HFL.out; have := f1.1; omega) (by have := HFL.out; have := f2.1; omega) (by have := HFL.out; have := f3.1; omega) (by have := HFL.out; have := f4.1; omega)
                          have HE := fun w h5 h6 => equal_any A5 n5 c5 (ints F.order) A6 n6 c6 (ints F.order) w h5 h6 (by have := HFL.out; have := f5.1; omega) (by have := HFL.out; have := f6.1; omega)
                          rw [sameB_self] at HS
                          rw [show (ints F.order == ints F.order) = true from beq_self_eq_true _] at HE
                          have f5 := f5.later t6
                          clear F4 t6 T5 f1 f2 f3 f4
                          have d1_0 := kb1.cell 0
                          have d1_1 := kb1.cell 1
                          have d1_2 := kb1.cell 2
                          have d2_0 := kb2.cell 0
                          have d2_1 := kb2.cell 1
                          have d2_2 := kb2.cell 2
                          go_wp2_with fail
                          refine HS.mono ?_
                          rintro e v7 ⟨rfl, t7⟩
                          clear d1_0 d1_1 d1_2 d2_0 d2_1 d2_2 kb1 kb2 HS
                          go_wp2_with fail
                          refine (HE v7 (f5.later t7) (f6.later t7)).mono ?_
                          rintro e v8 ⟨rfl, t8⟩
                          have T8 := (T6.trans t7).trans t8
                          clear HE f5 f6 t7 t8 T6
                          go_wp2
                          go_roundw
                          case rel => exact ⟨k4 + 1, by omega, by go_num, T8⟩
                          case measure => simp [intOf]; omega
                    · go_wp2
                      go_roundw
                      case rel => exact ⟨k3 + 1, by omega, by go_num, hlr4⟩
                      case measure => simp [intOf]; omega
                · go_wp2
                  go_roundw
                  case rel => exact ⟨k2 + 1, by omega, by go_num, hlr3⟩
                  case measure => simp [intOf]; omega
            · go_wp2
              go_roundw
              case rel => exact ⟨k + 1, by omega, by go_num, hlr2⟩
              case measure => simp [intOf]; omega
        · go_wp2
          go_ret
          exact ⟨rfl, LW.trans hlr⟩
end Go.Proofs.YtebbhhdnjflmcaaGreat
