
/- Radical: within, Check. -/
import Derived.Deep.DeepCutAuto
import Derived.Test.YtegejfcfoanaoaaRdC
import Derived.Test.YtegejfcfoanaoaaR04
import Derived.Test.YtegejfcfoanaoaaQ02
namespace Go.Proofs.Ytegejfcfoanaoaa
open Go.RowKit
set_option linter.unusedSimpArgs false
set_option linter.unusedVariables false
set_option maxRecDepth 100000

theorem within_any (z : Int) (w : World) : Calls Try.prog 15 #[.int .i64 z] w (fun e w' => e = .returned (.bool (decide (inRT z))) ∧ w' = w) := by
  by_cases h1 : -1000000000000000 ≤ z
  · by_cases h2 : z ≤ 1000000000000000
    · rw [decide_eq_true (show inRT z from ⟨h1, h2⟩)]
      go_enter Try.func15, Try.ntmps15
      go_wp2
      go_ret
      exact ⟨rfl, rfl⟩
    · rw [decide_eq_false (show ¬ inRT z from fun h => h2 h.2)]
      go_enter Try.func15, Try.ntmps15
      go_wp2
      go_ret
      exact ⟨rfl, rfl⟩
  · rw [decide_eq_false (show ¬ inRT z from fun h => h1 h.1)]
    go_enter Try.func15, Try.ntmps15
    go_wp2
    go_ret
    exact ⟨rfl, rfl⟩

/-- The cells of terms. -/
def tRow (x : Int × Int) : List Value := [.int .i64 x.1, .int .i64 x.2]
def tRows (l : List (Int × Int)) : List (List Value) := l.map tRow
theorem tRows_len (l : List (Int × Int)) : (tRows l).length = l.length := by simp [tRows]
theorem tRows_at {l : List (Int × Int)} {k : Nat} {x : Int × Int} (h : l[k]? = some x) : (tRows l)[k]? = some (tRow x) := by simp [tRows, h]
/-- An element of a slice of terms that came in. -/
theorem row_term {w : World} {A : Option Addr} {n k : Nat} {l : List (Int × Int)} (h : RowM w A 2 n (tRows l)) (hk : k < n) : ∃ g o x, A = some ⟨g, o, none⟩ ∧ g < w.heap.size ∧ l[k]? = some x ∧ w.cell? ⟨g, o + k * 2, none⟩ = some (.int .i64 x.1) ∧ w.cell? ⟨g, o + k * 2 + 1, none⟩ = some (.int .i64 x.2) := by
  obtain ⟨g, o, y, hA, hg, hy, _, hc⟩ := h.at hk
  have hl : k < l.length := by have := h.1; rw [tRows_len] at this; omega
  rw [tRows_at (List.getElem?_eq_getElem hl)] at hy
  cases hy
  exact ⟨g, o, l[k], hA, hg, List.getElem?_eq_getElem hl, hc 0 _ rfl, hc 1 _ rfl⟩
/-- The number under the root of the term before. -/
def lastU (l : List (Int × Int)) : Nat → Int
  | 0 => 0
  | k + 1 => ((l[k]?).map (·.2)).getD 0
def okAt (last : Int) (x : Int × Int) : Prop := last < x.2 ∧ x.2 ≤ 10000000000000 ∧ x.1 ≠ 0 ∧ inRT x.1 ∧ sqOf x.2.toNat ≤ 1
theorem lastU_succ {l : List (Int × Int)} {k : Nat} {x : Int × Int} (h : l[k]? = some x) : lastU l (k + 1) = x.2 := by simp [lastU, h]
theorem ValidR.okAt {l : List (Int × Int)} (h : ValidR l) {k : Nat} {x : Int × Int} (hx : l[k]? = some x) : okAt (lastU l k) x := by
  obtain ⟨h1, h2, h3, h4, h5⟩ := h.term x (List.mem_of_getElem? hx)
  refine ⟨?_, h2, h3, h4, h5⟩
  cases k with
  | zero => exact h1
  | succ j =>
    obtain ⟨hl, rfl⟩ := List.getElem?_eq_some_iff.1 hx
    have hj : l[j]? = some l[j] := List.getElem?_eq_getElem (by omega)
    rw [lastU_succ hj]
    exact List.pairwise_iff_getElem.1 h.asc j (j + 1) (by omega) hl (by omega)
theorem valid_of {l : List (Int × Int)} (hn : l.length ≤ 200) (h : ∀ (k : Nat) (x : Int × Int), l[k]? = some x → okAt (lastU l k) x) : ValidR l := by
  have hadj : ∀ k (hk : k + 1 < l.length), l[k].2 < l[k + 1].2 := fun k hk => by
    have := (h (k + 1) _ (List.getElem?_eq_getElem hk)).1
    rwa [lastU_succ (List.getElem?_eq_getElem (by omega))] at this
  have hasc : ∀ i d (hk : i + d + 1 < l.length), l[i].2 < l[i + d + 1].2 := by
    intro i d
    induction d with
    | zero => intro hk; exact hadj i hk
    | succ d ih =>
      intro hk
      have h1 := ih (by omega)
      have h2 := hadj (i + d + 1) (by omega)
      simp only [Nat.add_assoc] at h1 h2 ⊢
      omega
  have hpos : ∀ (k : Nat) (x : Int × Int), l[k]? = some x → 0 < x.2 := fun k x hx => by
    have h1 := (h k x hx).1
    cases k with
    | zero => exact h1
    | succ j =>
      obtain ⟨hl, rfl⟩ := List.getElem?_eq_some_iff.1 hx
      have h0 := (h 0 l[0] (List.getElem?_eq_getElem (by omega))).1
      have h2 := hasc 0 j (by omega)
      simp only [Nat.zero_add] at h2
      simp only [lastU] at h0
      omega
  refine ⟨hn, List.pairwise_iff_getElem.2 fun i j hi hj hij => ?_, fun x hx => ?_⟩
  · have := hasc i (j - i - 1) (by omega)
    have e : i + (j - i - 1) + 1 = j := by omega
    simp only [e] at this
    exact this
  · obtain ⟨k, hk, rfl⟩ := List.mem_iff_getElem.1 hx
    have hx' : l[k]? = some l[k] := List.getElem?_eq_getElem hk
    obtain ⟨_, h2, h3, h4, h5⟩ := h k _ hx'
    exact ⟨hpos k _ hx', h2, h3, h4, h5⟩
/-- Check's answer. -/
noncomputable def ckE (l : List (Int × Int)) : Int := @ite _ (ValidR l) (Classical.propDecidable _) 0 30
theorem ckE_yes {l : List (Int × Int)} (h : ValidR l) : ckE l = 0 := by unfold ckE; exact if_pos h
theorem ckE_no {l : List (Int × Int)} (h : ¬ ValidR l) : ckE l = 30 := by unfold ckE; exact if_neg h

set_option maxHeartbeats 8000000 in
theorem check_any (A : Option Addr) (n c : Nat) (l : List (Int × Int)) (w : World) (hs : RowM w A 2 n (tRows l)) (hn : n ≤ 1000000) :
    Calls Try.prog 9 #[.slice A n c] w (fun e w' => e = .returned (.int .i64 (ckE l)) ∧ Lat w w') := by
  have hlen := hs.1
  rw [tRows_len] at hlen
  by_cases hbig : 200 < n
  · have hE : ckE l = 30 := ckE_no fun h => by have := h.len; omega
    have hbI : (200 : Int) < (n : Int) := by omega
    clear hs hbig
    go_enter Try.func9, Try.ntmps9
    go_wp2
    go_ret
    exact ⟨by first | rfl | (rw [hE]; rfl), Lat.refl _⟩
  have HLEN := Lib.hid hlen
  have HS := Lib.hid hs
  have hbI : ¬ (200 : Int) < (n : Int) := by omega
  have HB := Lib.hid hbig
  clear hlen hs hn hbig
  go_enter Try.func9, Try.ntmps9
  go_wp2
  go_loopw [3, 13] (fun last iv wr => ∃ k : Nat, k ≤ n ∧ iv = .int .i64 (k : Nat) ∧ last = .int .i64 (lastU l k) ∧ Hid (∀ j x, j < k → l[j]? = some x → okAt (lastU l j) x) ∧ Hid (0 ≤ lastU l k) ∧ Lat w wr) (fun _ iv _ => n - (intOf iv).toNat)
  case atStart => exact ⟨0, Nat.zero_le _, rfl, rfl, fun j x h => absurd h (by omega), (by show (0 : Int) ≤ 0; omega), Lat.refl _⟩
  case round =>
    obtain ⟨k, hk, rfl, rfl, hI, hP, hl⟩ := hrel
    by_cases hkn : k < n
    · obtain ⟨g, o, x, rfl, hg, hx, c0, c1⟩ := row_term (HS.out.later hl) hkn
      obtain ⟨t, u⟩ := x
      simp only at c0 c1
      obtain ⟨la, hla⟩ : ∃ z, lastU l k = z := ⟨_, rfl⟩
      have hok : ckE l = 30 ∨ okAt la (t, u) := by
        by_cases h : ValidR l
        · exact .inr (hla ▸ h.okAt hx)
        · exact .inl (ckE_no h)
      have hbad : ¬ okAt la (t, u) → ckE l = 30 := fun h => hok.resolve_right h
      have hsu := lastU_succ hx
      have hI2 : Hid (okAt la (t, u) → ∀ j x, j < k + 1 → l[j]? = some x → okAt (lastU l j) x) := fun h j y hj hy => by
        rcases Nat.lt_or_ge j k with h1 | h1
        · exact hI.out j y h1 hy
        · obtain rfl : j = k := by omega
          rw [hx] at hy; cases hy
          rw [hla]; exact h
      simp only at hsu
      rw [hla] at hP
      rw [hla]
      have hkI : (k : Int) < (n : Int) := by omega
      have hk0 : (0 : Int) ≤ (k : Int) := by omega
      have wk : wrap64 ((k : Int) + 1) = (k : Int) + 1 := IntWalk.wrap64_in _ (by have := HB.out; omega)
      have HBAD := Lib.hid hbad
      have HSU := Lib.hid hsu
      have HKN := Lib.hid hkn
      have HW := Lib.hid (within_any t)
      clear hok hbad hsu hla hI hx hg hk hkn
      go_upto_region 7 with (fail)
      refine name1 (Q := fun W => Code.wp _ _ _ _ W) ?_
      intro W5 l5 s5 k5
      have L5 := hl.trans l5
      have d0 := k5.cell 0
      have d1 := k5.cell 1
      clear c0 c1 hl l5 s5
      by_cases h1 : u ≤ la
      · have hE := HBAD.out (fun h => by have := h.1; simp only at this; omega)
        clear HBAD HSU hI2
        go_wp2
        go_ret
        exact ⟨by first | rfl | (rw [hE]; rfl), L5⟩
      by_cases h2 : 10000000000000 < u
      · have hE := HBAD.out (fun h => by have := h.2.1; simp only at this; omega)
        clear HBAD HSU hI2
        go_wp2
        go_ret
        exact ⟨by first | rfl | (rw [hE]; rfl), L5⟩
      by_cases h3 : t = 0
      · have hE := HBAD.out (fun h => h.2.2.1 h3)
        have h3' : ((t : Int) == 0) = true := by simp [h3]
        clear HBAD HSU hI2
        go_wp2
        go_ret
        exact ⟨by first | rfl | (rw [hE]; rfl), L5⟩
      have h3' : ((t : Int) == 0) = false := by simp [h3]
      by_cases h4 : inRT t
      · have HW1 := HW.out
        rw [decide_eq_true h4] at HW1
        have hu0 : 0 < u := by have := hP.out; omega
        obtain ⟨N, rfl⟩ := Int.eq_ofNat_of_zero_le (Int.le_of_lt hu0)
        have HPA := fun w => parted_any N w (by omega) (by omega)
        obtain ⟨s, hs⟩ : ∃ z, sqOf N = z := ⟨_, rfl⟩
        obtain ⟨q, hq⟩ : ∃ z, unOf N = z := ⟨_, rfl⟩
        rw [hs, hq] at HPA
        have HH1 := Lib.hid h1
        have HH2 := Lib.hid h2
        clear hq
        go_wp2_with fail
        refine (HW1 W5).mono ?_
        rintro e w' ⟨rfl, rfl⟩
        clear HW1 HW
        go_wp2_with fail
        refine (HPA _).mono ?_
        rintro e w' ⟨rfl, rfl⟩
        clear HPA
        by_cases h5 : s ≤ 1
        · have h5I : ¬ (1 : Int) < (s : Int) := by omega
          have HOK : Hid (okAt la (t, (N : Int))) := ⟨by have := HH1.out; omega, by have := HH2.out; omega, h3, h4, by rw [Int.toNat_natCast, hs]; exact h5⟩
          clear h5 hs h3 h4 h1 h2
          go_wp2
          go_roundw
          case rel => exact ⟨k + 1, HKN.out, me_succ k, by rw [HSU.out], hI2.out HOK.out, by show 0 ≤ lastU l (k + 1); rw [HSU.out]; omega, L5⟩
          case measure => exact me_up HKN.out
        · have h5I : (1 : Int) < (s : Int) := by omega
          have hE := HBAD.out (fun h => by have := h.2.2.2.2; rw [Int.toNat_natCast, hs] at this; exact h5 this)
          clear HBAD HSU hI2 hs h5
          go_wp2
          go_ret
          exact ⟨by first | rfl | (rw [hE]; rfl), L5⟩
      · have hE := HBAD.out (fun h => h4 h.2.2.2.1)
        have HW1 := HW.out
        rw [decide_eq_false h4] at HW1
        clear HBAD HSU hI2 HW
        go_wp2_with fail
        refine (HW1 W5).mono ?_
        rintro e w' ⟨rfl, rfl⟩
        go_wp2
        go_ret
        exact ⟨by first | rfl | (rw [hE]; rfl), L5⟩
    · obtain rfl : k = n := by omega
      have hE : ckE l = 0 := ckE_yes (valid_of (by have := HLEN.out; have := HB.out; omega) (fun j x hx => hI.out j x (by have := (List.getElem?_eq_some_iff.1 hx).1; have := HLEN.out; omega) hx))
      have hge : ¬ (k : Int) < (k : Int) := by omega
      clear hI hkn
      go_wp2
      go_ret
      exact ⟨by first | rfl | (rw [hE]; rfl), hl⟩
end Go.Proofs.Ytegejfcfoanaoaa
