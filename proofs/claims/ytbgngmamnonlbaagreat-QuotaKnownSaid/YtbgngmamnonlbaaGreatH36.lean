/- Several texts in one: QuS, QuC, QuT. -/
import Derived.Test.YtbgngmamnonlbaaGreatH25
import Derived.Test.YtbgngmamnonlbaaGreatH33
import Derived.Test.YtbgngmamnonlbaaGreatH29
namespace Go.Proofs.YtbgngmamnonlbaaGreat
open Go.RowKit
set_option linter.unusedSimpArgs false
set_option linter.unusedVariables false
theorem sound1_any (n : Int) (w : World) :
  Calls Tryz.prog 84 #[.int .i64 n] w (fun e w' => e = .returned (.bool (outB 0 1000 n)) ∧ w = w') := by
 by_cases h1 : n < 0
 ·have HO := Lib.hid (outB_lo (hi := 1000) h1)
  go_enter Tryz.func84, Tryz.ntmps84
  go_wp2
  go_ret
  exact ⟨by rw [HO.out]; rfl, rfl⟩
 ·by_cases h2 : 1000 < n
  ·have HO := Lib.hid (outB_hi (lo := 0) h2)
   have h1' : 0 ≤ n := by omega
   clear h1
   go_enter Tryz.func84, Tryz.ntmps84
   go_wp2
   go_ret
   exact ⟨by rw [HO.out]; rfl, rfl⟩
  ·have HO : Hid (outB 0 1000 n = false) := by show _ = _; unfold outB; simp; omega
   have h1' : 0 ≤ n := by omega
   have h2' : n ≤ 1000 := by omega
   clear h1 h2 HO
   go_enter Tryz.func84, Tryz.ntmps84
   go_wp2
   go_ret
   exact ⟨rfl, rfl⟩
def qSndPost (p : Int → Bool) (w : World) (xs : List Int) (e : Ending) (w' : World) : Prop := ∃ r : Int, e = .returned (.int .i64 r) ∧ (xs.any p = true → 0 ≤ r) ∧ (xs.any p = false → r < 0) ∧ w = w'
set_option maxHeartbeats 1000000 in
theorem qSndIdx (p : Int → Bool)  (A : Option Addr) (n c : Nat) (xs : List Int) (w : World) (hs : Sl w .i64 A n xs) (hn : n ≤ 17000000000000)
  (HC : ∀ x ∈ xs, Calls Tryz.prog 84 #[.int .i64 x] w (fun e w' => e = .returned (.bool (p x)) ∧ w = w')) :
  Calls Tryz.prog 63 #[.slice A n c, .func (.func 84) #[] #[]] w (qSndPost p w xs) := by
 have HCH := Lib.hid HC
 clear HC
 go_enter Tryz.func63, Tryz.ntmps63
 go_wp2
 go_loop [8] (fun i => ∃ k : Nat, k ≤ n ∧ i = .int .i64 k ∧ Hid ((xs.take k).any p = false)) (fun i => n - (intOf i).toNat)
 case atStart => exact ⟨0, Nat.zero_le _, rfl, rfl⟩
 case round =>
  obtain ⟨k, hk, rfl, hno⟩ := hrel
  by_cases hlt : k < n
  ·obtain ⟨a, x, rfl, hblk, hx, hcell⟩ := hs.at hlt
   have hxk := hx
   have HM := Lib.hid (List.mem_of_getElem? hxk)
   have HT : Hid ((xs.take (k + 1)).any p = p x) := by
    show _ = _
    have hkl : k < xs.length := (List.getElem?_eq_some_iff.1 hxk).1
    have e : xs[k] = x := (List.getElem?_eq_some_iff.1 hxk).2
    rw [List.take_succ_eq_append_getElem hkl, List.any_append, hno.out, e]
    simp
   have HCx := Lib.hid (HCH.out x HM.out)
   clear hx hxk
   by_cases hp : p x = true
   ·have HA : Hid (xs.any p = true) := by show _ = _; rw [List.any_eq_true]; exact ⟨x, HM.out, hp⟩
    have HP := Lib.hid hp
    clear hp
    go_wp2_with fail
    refine HCx.out.mono ?_
    rintro e w1 ⟨rfl, rfl⟩
    rw [HP.out]
    go_wp2
    go_ret
    exact ⟨k, rfl, (fun _ => by omega), (fun h => by rw [HA.out] at h; cases h), rfl⟩
   ·have hp' : p x = false := by simpa using hp
    have HP := Lib.hid hp'
    clear hp hp'
    go_wp2_with fail
    refine HCx.out.mono ?_
    rintro e w1 ⟨rfl, rfl⟩
    rw [HP.out]
    go_wp2
    go_round
    case rel => exact ⟨k + 1, by omega, by go_num, by rw [HT.out, HP.out]; rfl⟩
    case measure => simp [intOf]; omega
  ·obtain rfl : k = n := by omega
   have HA : Hid (xs.any p = false) := by
    have := hno.out
    rw [List.take_of_length_le (by have := hs.1; omega)] at this
    exact this
   go_wp2
   go_ret
   exact ⟨-1, rfl, (fun h => by rw [HA.out] at h; cases h), (fun _ => by omega), rfl⟩
theorem qSndHas (p : Int → Bool)  (A : Option Addr) (n c : Nat) (xs : List Int) (w : World) (hs : Sl w .i64 A n xs) (hn : n ≤ 17000000000000)
  (HC : ∀ x ∈ xs, Calls Tryz.prog 84 #[.int .i64 x] w (fun e w' => e = .returned (.bool (p x)) ∧ w = w')) :
  Calls Tryz.prog 40 #[.slice A n c, .func (.func 84) #[] #[]] w (fun e w' => e = .returned (.bool (xs.any p)) ∧ w = w') := by
 have HI := qSndIdx p A n c xs w hs hn HC
 clear HC
 go_enter Tryz.func40, Tryz.ntmps40
 go_wp2_with fail
 refine HI.mono ?_
 rintro e w1 ⟨r, rfl, h1, h2, rfl⟩
 cases hb : xs.any p with
 | true =>
   have h0 := h1 hb
   have HB := Lib.hid hb
   clear h1 h2 hb
   go_wp2
   go_ret
   exact ⟨by rw [HB.out]; rfl, rfl⟩
 | false =>
   have h0 := h2 hb
   have h0' : decide (0 ≤ r) = false := by simp; omega
   have HB := Lib.hid hb
   clear h1 h2 hb
   go_wp2
   go_ret
   exact ⟨by rw [HB.out]; rfl, rfl⟩
structure Sound (n : Nat) (S : List Int) (T : List Nat) (o : Int) : Prop where
 n1 : 1 ≤ n
 n60 : n ≤ 60
 inS : ∀ x ∈ S, 0 ≤ x ∧ x ≤ 1000
 asc : T.Pairwise (· < ·)
 lt : ∀ t ∈ T, t < n
 open_ : (T = [] ∧ o = 0) ∨ (1 ≤ o ∧ o < T.length)
def natL (T : List Nat) : List Int := T.map (fun t : Nat => (t : Int))
theorem natL_get {T : List Nat} {k : Nat} {x : Int} (h : (natL T)[k]? = some x) : ∃ t, T[k]? = some t ∧ x = (t : Int) := by
 unfold natL at h
 rw [List.getElem?_map] at h
 cases hx : T[k]? with
 | none => rw [hx] at h; cases h
 | some t => rw [hx] at h; exact ⟨t, rfl, by simpa using h.symm⟩
theorem natL_len (T : List Nat) : (natL T).length = T.length := by simp [natL]
theorem asc_len {T : List Nat} {n : Nat} (h : T.Pairwise (· < ·)) (hl : ∀ t ∈ T, t < n) : T.length ≤ n := by
 have hd : T.Nodup := h.imp (fun h => by omega)
 have := hd.length_le_of_subset (l₂ := List.range n) (fun x hx => List.mem_range.2 (hl x hx))
 rwa [List.length_range] at this
set_option maxRecDepth 100000 in
set_option maxHeartbeats 2000000 in
theorem sound_yes (A1 : Option Addr) (n c1 : Nat) (S : List Int) (A2 : Option Addr) (n2 c2 : Nat) (T : List Nat) (o : Int) (w : World) (h1 : Sl w .i64 A1 n S) (h2 : Sl w .i64 A2 n2 (natL T)) (hs : Sound n S T o) :
  Calls Tryz.prog 57 #[.agg #[.slice A1 n c1, .slice A2 n2 c2, .int .i64 o]] w (fun e w' => e = .returned (.bool true) ∧ Lat w w') := by
 obtain ⟨s1, s2, s3, s4, s5, s6⟩ := hs
 have hT : T.length = n2 := by rw [← natL_len]; exact h2.1
 have hTn : T.length ≤ n := asc_len s4 s5
 have HA : Hid (S.any (outB 0 1000) = false) := by
  show _ = _
  rw [List.any_eq_false]
  intro x hx
  have := s3 x hx
  unfold outB
  simp
  omega
 have S4 := Lib.hid s4
 have S5 := Lib.hid s5
 have hn0 : ¬ n = 0 := by omega
 have hnI : (n : Int) ≤ 60 := by omega
 have hnB : ((n : Int) == 0) = false := by simp; omega
 clear s3 s4 s5
 go_enter Tryz.func57, Tryz.ntmps57
 go_wp2_with fail
 refine name1 (Q := fun W => Calls _ _ _ W _) ?_
 intro W hl hsz k1
 refine (qSndHas (outB 0 1000) A1 n c1 S W (h1.later hl) (by omega) (fun x _ => sound1_any x W)).mono ?_
 rintro e w1 ⟨rfl, rfl⟩
 rw [HA.out]
 have g2 := h2.later hl
 have d0 := k1.cell 0
 have d1 := k1.cell 1
 have d2 := k1.cell 2
 clear hsz HA h1 h2
 go_wp2
 go_loopw [3, 24] (fun l i wr => ∃ k : Nat, k ≤ n2 ∧ i = .int .i64 k ∧ wr = W ∧ ((k = 0 ∧ l = .int .i64 (-1)) ∨ ∃ t, 0 < k ∧ T[k - 1]? = some t ∧ l = .int .i64 (t : Nat))) (fun _ i _ => n2 - (intOf i).toNat)
 case atStart => exact ⟨0, Nat.zero_le _, rfl, rfl, .inl ⟨rfl, rfl⟩⟩
 case round =>
  obtain ⟨k, hk, rfl, rfl, hl0⟩ := hrel
  by_cases hlt : k < n2
  ·obtain ⟨a, x, rfl, hblk, hx, hcell⟩ := g2.at hlt
   obtain ⟨t, ht, rfl⟩ := natL_get hx
   have htn : t < n := S5.out t (List.mem_of_getElem? ht)
   have HT := Lib.hid ht
   have hltI : (k : Int) < (n2 : Int) := by omega
   have ht0 : (0 : Int) ≤ (t : Int) := by omega
   have htI : (t : Int) < (n : Int) := by omega
   rcases hl0 with ⟨hk0, rfl⟩ | ⟨t0, hk0, ht0', rfl⟩
   ·clear hx ht hk0
    go_wp2
    go_roundw
    case rel => exact ⟨k + 1, by omega, by go_num, (by first | rfl | trivial), .inr ⟨t, by omega, by rw [Nat.add_sub_cancel]; exact HT.out, rfl⟩⟩
    case measure => simp [intOf]; omega
   ·have hlt0 : t0 < t := by
     obtain ⟨a1, e1⟩ := List.getElem?_eq_some_iff.1 ht0'
     obtain ⟨a2, e2⟩ := List.getElem?_eq_some_iff.1 ht
     have := List.pairwise_iff_getElem.1 S4.out (k - 1) k a1 a2 (by omega)
     rw [e1, e2] at this
     exact this
    have hltI0 : (t0 : Int) < (t : Int) := by omega
    clear hx ht ht0'
    go_wp2
    go_roundw
    case rel => exact ⟨k + 1, by omega, by go_num, (by first | rfl | trivial), .inr ⟨t, by omega, by rw [Nat.add_sub_cancel]; exact HT.out, rfl⟩⟩
    case measure => simp [intOf]; omega
  ·obtain rfl : k = n2 := by omega
   clear hl0
   rcases s6 with ⟨h0, ho⟩ | ⟨ho1, ho2⟩
   ·subst h0 ho
    have hk0 : k = 0 := by simpa using hT.symm
    subst hk0
    go_wp2
    go_ret
    exact ⟨rfl, hl⟩
   ·have hk0 : ¬ k = 0 := by omega
    have hoI : o < (k : Int) := by omega
    go_wp2
    go_ret
    exact ⟨rfl, hl⟩
end Go.Proofs.YtbgngmamnonlbaaGreat
namespace Go.Proofs.YtbgngmamnonlbaaGreat
open Go.RowKit Go.Shelf
set_option linter.unusedSimpArgs false
set_option linter.unusedVariables false
theorem Sl.plain {w : World} {A : Option Addr} {n : Nat} {xs : List Int} (h : Sl w .i64 A n xs) (hn : 0 < n) : ∃ b o, A = some ⟨b, o, none⟩ ∧ ∀ j, j < xs.length → w.cell? ⟨b, o + j, none⟩ = some (.int .i64 (xs.getD j 0)) := by
 obtain ⟨a, e, hb, hc⟩ := h.2 hn
 obtain ⟨b, o, sp⟩ := a
 have h0 := hc 0 _ (List.getElem?_eq_getElem (by have := h.1; omega))
 have hsp : sp = none := by
  cases sp with
  | none => rfl
  | some x =>
    unfold World.cell? at h0
    simp only [Addr.add, if_true] at h0
    split at h0
    ·simp at h0
    ·cases h0
 subst hsp
 refine ⟨b, o, e, fun j hj => ?_⟩
 have h1 := hc j _ (List.getElem?_eq_getElem hj)
 have ea : (⟨b, o, none⟩ : Addr).add j = ⟨b, o + j, none⟩ := by unfold Addr.add; split <;> simp_all
 rw [ea] at h1
 rw [h1, List.getD_eq_getElem?_getD, List.getElem?_eq_getElem hj]
 rfl
theorem cloneOwn_any (A : Option Addr) (n c : Nat) (xs : List Int) (w : World) (hs : Sl w .i64 A n xs) (hn : 0 < n) (hn2 : n ≤ 17000000000000) :
  Calls Tryz.prog 24 #[.slice A n c] w (fun e w' => ∃ v, e = .returned v ∧ Own w' w.heap.size 3 .i64 v xs ∧ Lat w w') := by
 obtain ⟨b, o, rfl, hc⟩ := hs.plain hn
 have hl := hs.1
 refine (Tryz.slices_Clone_int b o n c xs w (by omega) (by omega) hc).mono ?_
 rintro e w' ⟨v, rfl, h1, _, hb⟩
 rw [List.take_of_length_le (by omega)] at h1
 rw [← hl] at h1
 exact ⟨v, rfl, h1, hb⟩
theorem clone_all (A : Option Addr) (n c : Nat) (xs : List Int) (w : World) (hs : Sl w .i64 A n xs) (hn2 : n ≤ 17000000000000) :
  Calls Tryz.prog 24 #[.slice A n c] w (fun e w' => ∃ v, e = .returned v ∧ Own w' w.heap.size 3 .i64 v xs ∧ Lat w w') := by
 rcases Nat.eq_zero_or_pos n with h0 | h0
 ·subst h0
  obtain rfl : xs = [] := List.eq_nil_of_length_eq_zero hs.1
  cases A with
  | none =>
    refine (Tryz.slices_Clone_int_nil 0 c w).mono ?_
    rintro e w' ⟨rfl, rfl⟩
    exact ⟨_, rfl, Own.nil _ _ _ _, Lat.refl _⟩
  | some a =>
    refine (Tryz.slices_Clone_int_zero a c w).mono ?_
    rintro e w' ⟨v, rfl, h1, _, hb⟩
    exact ⟨v, rfl, h1, hb⟩
 ·exact cloneOwn_any A n c xs w hs h0 hn2
theorem index_any (A : Option Addr) (n c : Nat) (xs : List Int) (x : Int) (w : World) (hs : Sl w .i64 A n xs) (hn : n ≤ 9223372036854775807) :
  Calls Tryz.prog 59 #[.slice A n c, .int .i64 x] w (fun e w' => e = .returned (.int .i64 (Lib.idxOf xs x)) ∧ w = w') := by
 rcases Nat.eq_zero_or_pos n with h0 | h0
 ·subst h0
  obtain rfl : xs = [] := List.eq_nil_of_length_eq_zero hs.1
  refine (Tryz.slices_Index_int_empty A c x w).mono ?_
  rintro e w' ⟨rfl, rfl⟩
  exact ⟨rfl, rfl⟩
 ·obtain ⟨b, o, rfl, hc⟩ := hs.plain h0
  refine (Tryz.slices_Index_int b o n c xs x w (by rw [hs.1]; exact Nat.le_refl _) hn hc).mono ?_
  rintro e w' ⟨rfl, rfl⟩
  refine ⟨?_, rfl⟩
  rw [List.take_of_length_le (by rw [hs.1]; exact Nat.le_refl _)]
theorem RowN.take {W : World} {g n : Nat} {xs : List Int} (h : RowN W g n xs) {k : Nat} (hk : k ≤ n) : RowN W g k (xs.take k) := by
 obtain ⟨cur, h1, h2, h3, h4⟩ := h
 refine ⟨cur, h1, ?_, by rw [List.length_take]; omega, by omega⟩
 rw [List.map_take, ← h2, List.take_take, Nat.min_eq_left hk]
theorem idx_from : ∀ (T : List Nat) (t s : Nat), t ∈ T → ∃ i : Nat, Lib.idxFrom (T.map fun t : Nat => (t : Int)) t s = ((s + i : Nat) : Int) ∧ T[i]? = some t ∧ T.erase t = T.eraseIdx i
 | [], _, _, h => by simp at h
 | x :: r, t, s, h => by
   by_cases e : x = t
   ·subst e
    exact ⟨0, by simp [Lib.idxFrom], rfl, by simp⟩
   ·have hr : t ∈ r := by
     rcases List.mem_cons.1 h with h1 | h1
     ·exact absurd h1.symm e
     ·exact h1
    obtain ⟨i, h1, h2, h3⟩ := idx_from r t (s + 1) hr
    have e2 : ¬ (x : Int) = (t : Int) := by omega
    refine ⟨i + 1, ?_, by simpa using h2, ?_⟩
    ·rw [List.map_cons, Lib.idxFrom, if_neg e2, h1, Nat.add_assoc, Nat.add_comm 1 i]
    ·rw [List.erase_cons_tail (by simpa using e), h3, List.eraseIdx_cons_succ]
theorem idx_yes {T : List Nat} {t : Nat} (h : t ∈ T) : ∃ i : Nat, Lib.idxOf (T.map fun t : Nat => (t : Int)) t = (i : Int) ∧ T[i]? = some t ∧ T.erase t = T.eraseIdx i := by
 obtain ⟨i, h1, h2, h3⟩ := idx_from T t 0 h
 exact ⟨i, by rw [Lib.idxOf, h1, Nat.zero_add], h2, h3⟩
theorem idx_no {T : List Nat} {t : Nat} (h : t ∉ T) : ¬ 0 ≤ Lib.idxOf (T.map fun t : Nat => (t : Int)) t := by
 rw [Lib.idxOf_nonneg_iff, List.contains_iff_mem]
 intro hm
 obtain ⟨x, hx, e⟩ := List.mem_map.1 hm
 have : x = t := by omega
 exact h (this ▸ hx)
section
open Go.Sort
theorem delete_row {w : World} {g n c i : Nat} {xs : List Int} (h : RowN w g n xs) (hi : i < n) (hc : n ≤ c) (hm : c ≤ 9223372036854775807) :
  Calls Tryz.prog 60 #[.slice (some ⟨g, 0, none⟩) n c, .int .i64 i, .int .i64 ((i + 1 : Nat) : Int)] w (fun e w' => e = .returned (.slice (some ⟨g, 0, none⟩) (n - 1) c) ∧ RowN w' g (n - 1) (xs.eraseIdx i) ∧ LatP (· = g) w w') := by
 have hl : xs.length = n := h.sl.1
 have := Tryz.slices_Delete_int g 0 c i (i + 1) xs w (rowN_holds h) (by omega) hm (by omega) (by omega)
 rw [hl] at this
 refine this.mono ?_
 rintro e w' ⟨rfl, q, hw⟩
 have e1 : i + 1 - i = 1 := by omega
 rw [e1] at hw ⊢
 have hlen : (xs.take i ++ xs.drop (i + 1) ++ List.replicate 1 0).length = n := by simp; omega
 obtain ⟨h1, h2⟩ := putRow_rowN (os := #[]) h hlen (by simpa using hw)
 refine ⟨rfl, ?_, h2⟩
 have h3 := h1.take (k := n - 1) (by omega)
 rw [List.take_append_of_le_length (by rw [List.length_append, List.length_take, List.length_drop]; omega), List.take_of_length_le (by rw [List.length_append, List.length_take, List.length_drop]; omega), ← List.eraseIdx_eq_take_drop_succ] at h3
 exact h3
end
end Go.Proofs.YtbgngmamnonlbaaGreat
namespace Go.Proofs.YtbgngmamnonlbaaGreat
open Go.RowKit
set_option linter.unusedSimpArgs false
set_option linter.unusedVariables false
def outP (n : Nat) (x : Int) : Bool := decide (x < 0) || decide ((n : Int) ≤ x)
theorem settle1_in (A1 : Option Addr) (n c1 b2 : Nat) (x : Int) (w : World) (hx : 0 ≤ x) (hxn : x < (n : Int)) (hc : w.cell? ⟨b2, 0, none⟩ = some (.slice A1 n c1)) :
  Calls Tryz.prog 58 #[.int .i64 x, .pointer (some ⟨b2, 0, none⟩)] w (fun e w' => e = .returned (.bool (outP n x)) ∧ w = w') := by
 have HO : Hid (outP n x = false) := by show _ = _; unfold outP; simp; omega
 have h1 : ¬ x < 0 := by omega
 have h2 : ¬ (n : Int) ≤ x := by omega
 go_enter Tryz.func58, Tryz.ntmps58
 go_wp2
 go_ret
 exact ⟨by rw [HO.out]; first | rfl | simp [h1, h2] | (simp; omega), rfl⟩
def qStPost (p : Int → Bool) (w : World) (xs : List Int) (e : Ending) (w' : World) : Prop := ∃ r : Int, e = .returned (.int .i64 r) ∧ (xs.any p = true → 0 ≤ r) ∧ (xs.any p = false → r < 0) ∧ w = w'
set_option maxHeartbeats 1000000 in
theorem qStIdx (p : Int → Bool) (b2 : Nat) (A : Option Addr) (n c : Nat) (xs : List Int) (w : World) (hs : Sl w .i64 A n xs) (hn : n ≤ 17000000000000)
  (HC : ∀ x ∈ xs, Calls Tryz.prog 58 #[.int .i64 x, .pointer (some ⟨b2, 0, none⟩)] w (fun e w' => e = .returned (.bool (p x)) ∧ w = w')) :
  Calls Tryz.prog 63 #[.slice A n c, .func (.func 58) #[] #[.pointer (some ⟨b2, 0, none⟩)]] w (qStPost p w xs) := by
 have HCH := Lib.hid HC
 clear HC
 go_enter Tryz.func63, Tryz.ntmps63
 go_wp2
 go_loop [8] (fun i => ∃ k : Nat, k ≤ n ∧ i = .int .i64 k ∧ Hid ((xs.take k).any p = false)) (fun i => n - (intOf i).toNat)
 case atStart => exact ⟨0, Nat.zero_le _, rfl, rfl⟩
 case round =>
  obtain ⟨k, hk, rfl, hno⟩ := hrel
  by_cases hlt : k < n
  ·obtain ⟨a, x, rfl, hblk, hx, hcell⟩ := hs.at hlt
   have hxk := hx
   have HM := Lib.hid (List.mem_of_getElem? hxk)
   have HT : Hid ((xs.take (k + 1)).any p = p x) := by
    show _ = _
    have hkl : k < xs.length := (List.getElem?_eq_some_iff.1 hxk).1
    have e : xs[k] = x := (List.getElem?_eq_some_iff.1 hxk).2
    rw [List.take_succ_eq_append_getElem hkl, List.any_append, hno.out, e]
    simp
   have HCx := Lib.hid (HCH.out x HM.out)
   clear hx hxk
   by_cases hp : p x = true
   ·have HA : Hid (xs.any p = true) := by show _ = _; rw [List.any_eq_true]; exact ⟨x, HM.out, hp⟩
    have HP := Lib.hid hp
    clear hp
    go_wp2_with fail
    refine HCx.out.mono ?_
    rintro e w1 ⟨rfl, rfl⟩
    rw [HP.out]
    go_wp2
    go_ret
    exact ⟨k, rfl, (fun _ => by omega), (fun h => by rw [HA.out] at h; cases h), rfl⟩
   ·have hp' : p x = false := by simpa using hp
    have HP := Lib.hid hp'
    clear hp hp'
    go_wp2_with fail
    refine HCx.out.mono ?_
    rintro e w1 ⟨rfl, rfl⟩
    rw [HP.out]
    go_wp2
    go_round
    case rel => exact ⟨k + 1, by omega, by go_num, by rw [HT.out, HP.out]; rfl⟩
    case measure => simp [intOf]; omega
  ·obtain rfl : k = n := by omega
   have HA : Hid (xs.any p = false) := by
    have := hno.out
    rw [List.take_of_length_le (by have := hs.1; omega)] at this
    exact this
   go_wp2
   go_ret
   exact ⟨-1, rfl, (fun h => by rw [HA.out] at h; cases h), (fun _ => by omega), rfl⟩
theorem qStHas (p : Int → Bool) (b2 : Nat) (A : Option Addr) (n c : Nat) (xs : List Int) (w : World) (hs : Sl w .i64 A n xs) (hn : n ≤ 17000000000000)
  (HC : ∀ x ∈ xs, Calls Tryz.prog 58 #[.int .i64 x, .pointer (some ⟨b2, 0, none⟩)] w (fun e w' => e = .returned (.bool (p x)) ∧ w = w')) :
  Calls Tryz.prog 40 #[.slice A n c, .func (.func 58) #[] #[.pointer (some ⟨b2, 0, none⟩)]] w (fun e w' => e = .returned (.bool (xs.any p)) ∧ w = w') := by
 have HI := qStIdx p b2 A n c xs w hs hn HC
 clear HC
 go_enter Tryz.func40, Tryz.ntmps40
 go_wp2_with fail
 refine HI.mono ?_
 rintro e w1 ⟨r, rfl, h1, h2, rfl⟩
 cases hb : xs.any p with
 | true =>
   have h0 := h1 hb
   have HB := Lib.hid hb
   clear h1 h2 hb
   go_wp2
   go_ret
   exact ⟨by rw [HB.out]; rfl, rfl⟩
 | false =>
   have h0 := h2 hb
   have h0' : decide (0 ≤ r) = false := by simp; omega
   have HB := Lib.hid hb
   clear h1 h2 hb
   go_wp2
   go_ret
   exact ⟨by rw [HB.out]; rfl, rfl⟩
theorem Own.rowC {w : World} {B : Nat} {v : Value} {xs : List Int} (h : Own w B 3 .i64 v xs) (hn : 0 < xs.length) : ∃ g c, v = .slice (some ⟨g, 0, none⟩) xs.length c ∧ RowN w g xs.length xs ∧ B ≤ g ∧ g < w.heap.size ∧ xs.length ≤ c ∧ c ≤ 9223372036854775807 := by
 obtain ⟨h1, h2⟩ := h
 rcases h2 with ⟨_, h0⟩ | ⟨g, cap, cur, hv, hb, hg, hnc, hm, hcs, ht⟩
 ·omega
 ·have hB : Blk w g 3 cur := hg
  exact ⟨g, cap, hv, ⟨cur, hB, by rw [Nat.mul_one] at ht; exact ht, rfl, by omega⟩, hb, hB.lt, hnc, by unfold maxLen at hm; omega⟩
theorem LatP.lat' {w W X : World} {g : Nat} (h : LatP (· = g) W X) (l : Lat w W) (hg : w.heap.size ≤ g) : Lat w X := LatP.lat (M := (· = g)) l h (fun q e => by subst e; exact hg)
theorem latP_setT (w : World) (g i : Nat) (v : Value) : LatP (· = g) w (w.setCell ⟨g, i, none⟩ v) := ⟨rfl, rfl, rfl, by simp [World.setCell], fun k _ hk => Below.heap_setCell w ⟨g, i, none⟩ v k hk⟩
theorem natL_erase (T : List Nat) : ∀ i : Nat, (natL T).eraseIdx i = natL (T.eraseIdx i) := by
 induction T with
 | nil => intro i; cases i <;> rfl
 | cons a T ih =>
   intro i
   cases i with
   | zero => rfl
   | succ i => show _ :: (natL T).eraseIdx i = _ :: natL (T.eraseIdx i); rw [ih]
theorem bump_small (l : List Nat) : ∀ {S : List Int} {M : Int}, 0 ≤ M → (∀ x ∈ S, 0 ≤ x ∧ x ≤ M) → ∀ x ∈ bump S l, 0 ≤ x ∧ x ≤ M + l.length := by
 induction l with
 | nil => intro S M h0 h x hx; have := h x hx; simp; exact this
 | cons a l ih =>
   intro S M h0 h x hx
   have ha : 0 ≤ atI S a ∧ atI S a ≤ M := by
    cases hc : S[a]? with
    | none => rw [atI, hc]; exact ⟨Int.le_refl 0, h0⟩
    | some y => rw [atI_of hc]; exact h y (List.mem_of_getElem? hc)
   have h2 : ∀ x ∈ S.set a (atI S a + 1), 0 ≤ x ∧ x ≤ M + 1 := by
    intro y hy
    rcases List.mem_or_eq_of_mem_set hy with h9 | h9
    ·have := h y h9; omega
    ·omega
   have := ih (S := S.set a (atI S a + 1)) (M := M + 1) (by omega) h2 x hx
   simp only [List.length_cons]
   omega
def LeftIs (wr : World) (B g7 c7 : Nat) (T' : List Nat) (lv : Value) : Prop := (T' = [] ∧ ∃ A c, lv = .slice A 0 c) ∨ (lv = .slice (some ⟨g7, 0, none⟩) T'.length c7 ∧ RowN wr g7 T'.length (natL T') ∧ T'.length ≤ c7 ∧ c7 ≤ 9223372036854775807 ∧ B ≤ g7)
def SetPost (w : World) (n : Nat) (S : List Int) (q : List Nat × Nat) (e : Ending) (w' : World) : Prop :=
 Lat w w' ∧ ((q.2 = 0 ∧ ∃ g c, e = .returned (.tuple #[.slice (some ⟨g, 0, none⟩) n c, .int .i64 0]) ∧ RowN w' g n (bump S q.1) ∧ w.heap.size ≤ g ∧ n ≤ c) ∨ (q.2 ≠ 0 ∧ e = .returned (.tuple #[.slice none 0 0, .int .i64 4])))
set_option maxRecDepth 100000 in
set_option maxHeartbeats 4000000 in
theorem settle_yes (A1 : Option Addr) (n c1 : Nat) (S : List Int) (A2 : Option Addr) (n2 c2 : Nat) (T : List Nat) (o : Nat) (A3 : Option Addr) (n3 c3 : Nat) (R : List Nat) (w : World) (h1 : Sl w .i64 A1 n S) (h2 : Sl w .i64 A2 n2 (natL T)) (h3 : Sl w .i64 A3 n3 (natL R))
  (hs : Sound n S T (o : Int)) (hR : ∀ r ∈ R, r < n) (hn3 : n3 ≤ 100000) :
  Calls Tryz.prog 29 #[.agg #[.slice A1 n c1, .slice A2 n2 c2, .int .i64 (o : Int)], .slice A3 n3 c3] w (SetPost w n S (setl R T o)) := by
 have HS := Lib.hid hs
 have hRl : R.length = n3 := by rw [← natL_len]; exact h3.1
 have HR := Lib.hid hR
 have H1 := Lib.hid h1
 have H2 := Lib.hid h2
 have H3 := Lib.hid h3
 have hany : (natL R).any (outP n) = false := by
  rw [List.any_eq_false]
  intro x hx
  obtain ⟨t, ht, rfl⟩ := List.mem_map.1 hx
  have := hR t ht
  unfold outP
  simp
  omega
 have HA := Lib.hid hany
 have hTn : T.length = n2 := by rw [← natL_len]; exact h2.1
 have hT60 : T.length ≤ 60 := Nat.le_trans (asc_len hs.asc hs.lt) hs.n60
 have hn1 := hs.n1
 have hn60 := hs.n60
 have hSl : S.length = n := h1.1
 clear hs hR hany h1 h2 h3
 go_enter Tryz.func29, Tryz.ntmps29
 go_wp2_with fail
 refine name1 (Q := fun W => Calls _ _ _ W _) ?_
 intro W hl hsz k2
 refine (sound_yes A1 n c1 S A2 n2 c2 T o W (H1.out.later hl) (H2.out.later hl) HS.out).mono ?_
 rintro e w1 ⟨rfl, l1⟩
 have k2 := k2.later l1
 have L1 := hl.trans l1
 clear hl l1 hsz
 have d0 := k2.cell 0
 go_wp2_with fail
 refine (qStHas (outP n) w.heap.size A3 n3 c3 (natL R) w1 (H3.out.later L1) (by omega) (fun x hx => by
  obtain ⟨t, ht, rfl⟩ := List.mem_map.1 hx
  have := HR.out t ht
  exact settle1_in A1 n c1 w.heap.size t w1 (by omega) (by omega) d0)).mono ?_
 rintro e w2 ⟨rfl, rfl⟩
 rw [HA.out]
 go_upto_region 3 with (fail)
 have HC1 : ∀ w', Lat w1 w' → Calls Tryz.prog 24 #[.slice A1 n c1] w' (fun e w'' => ∃ v, e = .returned v ∧ Own w'' w'.heap.size 3 .i64 v S ∧ Lat w' w'') := fun w' h => clone_all A1 n c1 S w' (H1.out.later (L1.trans h)) (by omega)
 have HC2 : ∀ w', Lat w1 w' → Calls Tryz.prog 24 #[.slice A2 n2 c2] w' (fun e w'' => ∃ v, e = .returned v ∧ Own w'' w'.heap.size 3 .i64 v (natL T) ∧ Lat w' w'') := fun w' h => clone_all A2 n2 c2 (natL T) w' (H2.out.later (L1.trans h)) (by omega)
 have e0 := k2.ever (i := 0) rfl
 have e1 := k2.ever (i := 1) rfl
 have L0 := Lat.drew w1
 clear d0
 go_region_held3 (fun w' => Lat w1 w') (first | (with_reducible assumption))
  (first
    | (have _h := HC1; go_at_call 24; (with_reducible refine (HC1 _ ?_).mono ?_); (with_reducible assumption); rintro e x2 ⟨v1, rfl, o1, q1⟩; have L2 := L0.trans q1; clear HC1 _h)
    | (have _h := HC2; go_at_call 24; (with_reducible refine (HC2 _ ?_).mono ?_); (with_reducible assumption); rintro e x3 ⟨v2, rfl, o2, q2⟩; have L3 := L2.trans q2; clear HC2 _h))
 have hx1 := L0.size
 have hx2 := q1.size
 have hx0 := L1.size
 obtain ⟨g6, c6, rfl, RS0, hB6, hg6, hc6, _⟩ := Own.rowC o1 (by omega)
 have RS := RS0.later q2
 rw [hSl] at RS hc6 ⊢
 have hlv : ∃ g7 c7, LeftIs x3 (g6 + 1) g7 c7 T v2 := by
  rcases Nat.eq_zero_or_pos T.length with h0 | h0
  ·obtain rfl := List.eq_nil_of_length_eq_zero h0
   obtain ⟨A, c, hv, _⟩ := o2.form
   exact ⟨0, 0, .inl ⟨rfl, A, c, hv⟩⟩
  ·obtain ⟨g7, c7, hv, R7, hB7, _, hc7, hc72⟩ := Own.rowC o2 (by rw [natL_len]; exact h0)
   rw [natL_len] at hv R7 hc7
   exact ⟨g7, c7, .inr ⟨hv, R7, hc7, hc72, by omega⟩⟩
 obtain ⟨g7, c7, hlv⟩ := hlv
 have hw6 : w.heap.size ≤ g6 := by omega
 have Lx := L1.trans L3
 have k2 := k2.later L3
 have e2 := k2.cell 2
 clear e0 e1 L0 L2 L3 q1 q2 o1 o2 RS0 hx0 hx1 hx2 hB6 hg6 H1 H2 HA L1
 go_upto_region 6 with (fail)
 clear e2
 go_loopw [7, 8, 30] (fun lf op i wr => ∃ (j : Nat) (C T' : List Nat) (oj : Nat), j ≤ n3 ∧ i = .int .i64 j ∧ LeftIs wr (g6 + 1) g7 c7 T' lf ∧ op = .int .i64 (oj : Int) ∧ oj ≤ 100 ∧ setlGoes R T o C T' oj j ∧ (∀ t ∈ T', t < n) ∧ T'.Sublist T ∧ C.length + oj ≤ 100 ∧ RowN wr g6 n (bump S C) ∧ Lat w wr) (fun _ _ i _ => n3 - (intOf i).toNat)
 case atStart =>
  have ho : o ≤ 100 := by rcases HS.out.open_ with ⟨_, h⟩ | ⟨_, h⟩ <;> omega
  exact ⟨0, [], T, o, Nat.zero_le _, rfl, hlv, rfl, ho, setlGoes.start R T o, HS.out.lt, List.Sublist.refl _, by simpa using ho, by simpa [bump] using RS, Lx⟩
 case round =>
  clear RS hlv Lx k2
  obtain ⟨j, C, T', oj, hj, rfl, hlf, rfl, hoj, hgo, hTn', hsub, hCo, RS, Lx⟩ := hrel
  have hT' : T'.length ≤ 60 := Nat.le_trans hsub.length_le hT60
  by_cases hjl : j < n3
  ·obtain ⟨a, x, rfl, hblk, hx, hcell⟩ := (H3.out.later Lx).at hjl
   obtain ⟨r, hr, rfl⟩ := natL_get hx
   have hrn := HR.out r (List.mem_of_getElem? hr)
   have hrn0 : (0 : Int) ≤ (r : Int) := by omega
   have hrnI : (r : Int) < (n : Int) := by omega
   have hjlI : (j : Int) < (n3 : Int) := by omega
   have HGO := Lib.hid hgo
   have HRJ := Lib.hid hr
   have hsl : ∃ A c, u7 = .slice A T'.length c ∧ Sl wr .i64 A T'.length (natL T') := by
    rcases hlf with ⟨rfl, A, c, h⟩ | ⟨h, h2, _⟩
    ·exact ⟨A, c, h, Sl.nil _ _ _⟩
    ·exact ⟨_, _, h, h2.sl⟩
   obtain ⟨A7, cc7, rfl, sl7⟩ := hsl
   have HLF := Lib.hid hlf
   clear hgo hr hx hlf
   go_wp2_with fail
   refine (index_any A7 T'.length cc7 (natL T') r wr sl7 (by omega)).mono ?_
   rintro e w6 ⟨rfl, rfl⟩
   clear hcell hblk
   by_cases hm : r ∈ T'
   ·obtain ⟨i, hi, hir, hie⟩ := idx_yes hm
    have hi' : Lib.idxOf (natL T') (r : Int) = (i : Int) := hi
    rw [hi']
    have hiT : i < T'.length := (List.getElem?_eq_some_iff.1 hir).1
    have hi0 : (0 : Int) ≤ (i : Int) := by omega
    rcases HLF.out with ⟨h0, _⟩ | ⟨hv, R7, h72, h73, h7B⟩
    ·rw [h0] at hm; cases hm
    obtain ⟨rfl, _, rfl⟩ : A7 = some ⟨g7, 0, none⟩ ∧ True ∧ cc7 = c7 := by have h9 := Value.slice.inj hv; exact ⟨h9.1, trivial, h9.2.2⟩
    by_cases hop : 0 < oj
    ·have hopI : (0 : Int) < (oj : Int) := by omega
     have HY := Lib.hid (HGO.out.yes HRJ.out hm hop)
     have hw1 : wrap64 ((i : Int) + 1) = ((i + 1 : Nat) : Int) := by rw [IntWalk.wrap64_in _ (by omega)]; omega
     have hw1' : IntKind.i64.wrap ((i : Int) + 1) = ((i + 1 : Nat) : Int) := by rw [IntWalk.i64_left]; exact hw1
     clear hi hi' sl7 hv
     go_wp2_with fail
     refine (delete_row R7 hiT h72 h73).mono ?_
     rintro e w7 ⟨rfl, R8, lp⟩
     have hel : (T'.erase r).length = T'.length - 1 := by rw [List.length_erase_of_mem hm]
     have hne : (natL T').eraseIdx i = natL (T'.erase r) := by rw [hie]; exact natL_erase _ _
     rw [hne] at R8
     have RS7 := RS.keepP lp (by omega)
     have Lx7 : Lat w w7 := lp.lat' Lx (by omega)
     clear R7 RS Lx lp hne hw1 hw1' hie hir hi0 HLF
     obtain ⟨x0, hx0, s1, s2⟩ := RS7.slot (i := r) (by rw [bump_length]; omega)
     have HX := Lib.hid (atI_of hx0)
     have hb9 := bump_small C (by omega : (0:Int) ≤ 1000) HS.out.inS x0 (List.mem_of_getElem? hx0)
     have hx1 : wrap64 (x0 + 1) = x0 + 1 := IntWalk.wrap64_in _ (by omega)
     have hx1' : IntKind.i64.wrap (x0 + 1) = x0 + 1 := IntWalk.i64_in _ (by omega)
     have ho1 : wrap64 ((oj : Int) - 1) = ((oj - 1 : Nat) : Int) := by rw [IntWalk.wrap64_in _ (by omega)]; omega
     have ho1' : IntKind.i64.wrap ((oj : Int) - 1) = ((oj - 1 : Nat) : Int) := by rw [IntWalk.i64_left]; exact ho1
     have hTl : (T'.erase r).length = T'.length - 1 := hel
     clear hb9 hx0 hel
     go_upto_region 11 with (fail)
     go_upto_region 12 with (fail)
     have RS9 := RS7.set (i := r) (by rw [bump_length]; omega) (x0 + 1)
     have R9 := R8.keepP (latP_setT w7 g6 r (.int .i64 (x0 + 1))) (by omega)
     have Lx9 := (latP_setT w7 g6 r (.int .i64 (x0 + 1))).lat' Lx7 hw6
     obtain ⟨W2, hW2⟩ : ∃ Z, w7.setCell ⟨g6, r, none⟩ (.int .i64 (x0 + 1)) = Z := ⟨_, rfl⟩
     rw [hW2] at RS9 R9 Lx9 ⊢
     rw [← HX.out, ← bump_snoc] at RS9
     clear s1 s2 hW2 RS7 R8 Lx7
     go_wp2
     go_roundw
     case rel =>
      have HRel : ∃ (j' : Nat) (C' T1 : List Nat) (oj' : Nat), j' ≤ n3 ∧ Value.int .i64 ((j : Int) + 1) = .int .i64 (j' : Nat) ∧ LeftIs W2 (g6 + 1) g7 cc7 T1 (.slice (some ⟨g7, 0, none⟩) (T'.length - 1) cc7) ∧ Value.int .i64 (((oj - 1 : Nat) : Nat) : Int) = .int .i64 (oj' : Int) ∧ oj' ≤ 100 ∧ setlGoes R T o C' T1 oj' j' ∧ (∀ t ∈ T1, t < n) ∧ T1.Sublist T ∧ C'.length + oj' ≤ 100 ∧ RowN W2 g6 n (bump S C') ∧ Lat w W2 := ⟨j + 1, C ++ [r], T'.erase r, oj - 1, by omega, by go_num, .inr ⟨by rw [hTl], by rw [hTl]; exact R9, by omega, h73, h7B⟩, rfl, by omega, HY.out, fun t ht => hTn' t (List.mem_of_mem_erase ht), (List.erase_sublist (a := r) (l := T')).trans hsub, by simp; omega, RS9, Lx9⟩
      first | exact HRel | exact ⟨_, HRel, rfl⟩ | exact ⟨_, _, HRel, rfl⟩ | exact ⟨_, _, _, HRel, rfl⟩ | exact ⟨_, _, _, _, HRel, rfl⟩ | exact ⟨_, _, _, _, _, HRel, rfl⟩
     case measure => simp [intOf]; omega
    ·have hopI : ¬ (0 : Int) < (oj : Int) := by omega
     clear hi hi' sl7
     go_wp2
     go_roundw
     case rel =>
      have HRel : ∃ (j' : Nat) (C' T1 : List Nat) (oj' : Nat), j' ≤ n3 ∧ Value.int .i64 ((j : Int) + 1) = .int .i64 (j' : Nat) ∧ LeftIs wr (g6 + 1) g7 cc7 T1 (.slice (some ⟨g7, 0, none⟩) T'.length cc7) ∧ Value.int .i64 (oj : Int) = .int .i64 (oj' : Int) ∧ oj' ≤ 100 ∧ setlGoes R T o C' T1 oj' j' ∧ (∀ t ∈ T1, t < n) ∧ T1.Sublist T ∧ C'.length + oj' ≤ 100 ∧ RowN wr g6 n (bump S C') ∧ Lat w wr := ⟨j + 1, C, T', oj, by omega, by go_num, HLF.out, rfl, hoj, HGO.out.no HRJ.out (by intro h9; exact hop h9.2), hTn', hsub, hCo, RS, Lx⟩
      first | exact HRel | exact ⟨j + 1, C, T', oj, by omega, by go_num, HLF.out, rfl, hoj, HGO.out.no HRJ.out (by intro h9; exact hop h9.2), hTn', hsub, hCo, RS, Lx⟩ | exact ⟨_, HRel, rfl⟩ | exact ⟨_, _, HRel, rfl⟩ | exact ⟨_, _, _, HRel, rfl⟩ | exact ⟨_, _, _, _, HRel, rfl⟩ | exact ⟨_, _, _, _, _, HRel, rfl⟩
     case measure => simp [intOf]; omega
   ·have hz := idx_no hm
    obtain ⟨z, hzz⟩ : ∃ z, Lib.idxOf (natL T') (r : Int) = z := ⟨_, rfl⟩
    have hz0 : ¬ (0 : Int) ≤ z := by rw [← hzz]; exact hz
    rw [hzz]
    clear hz hzz sl7
    go_wp2
    go_roundw
    case rel =>
     have HRel : ∃ (j' : Nat) (C' T1 : List Nat) (oj' : Nat), j' ≤ n3 ∧ Value.int .i64 ((j : Int) + 1) = .int .i64 (j' : Nat) ∧ LeftIs wr (g6 + 1) g7 c7 T1 (.slice A7 T'.length cc7) ∧ Value.int .i64 (oj : Int) = .int .i64 (oj' : Int) ∧ oj' ≤ 100 ∧ setlGoes R T o C' T1 oj' j' ∧ (∀ t ∈ T1, t < n) ∧ T1.Sublist T ∧ C'.length + oj' ≤ 100 ∧ RowN wr g6 n (bump S C') ∧ Lat w wr := ⟨j + 1, C, T', oj, by omega, by go_num, HLF.out, rfl, hoj, HGO.out.no HRJ.out (by intro h9; exact hm h9.1), hTn', hsub, hCo, RS, Lx⟩
     first | exact HRel | exact ⟨j + 1, C, T', oj, by omega, by go_num, HLF.out, rfl, hoj, HGO.out.no HRJ.out (by intro h9; exact hm h9.1), hTn', hsub, hCo, RS, Lx⟩ | exact ⟨_, HRel, rfl⟩ | exact ⟨_, _, HRel, rfl⟩ | exact ⟨_, _, _, HRel, rfl⟩ | exact ⟨_, _, _, _, HRel, rfl⟩ | exact ⟨_, _, _, _, _, HRel, rfl⟩
    case measure => simp [intOf]; omega
  ·obtain rfl : j = n3 := by omega
   have HD : Hid (setl R T o = (C, oj)) := Lib.hid (hgo.done (by omega))
   have hjlI : ¬ (j : Int) < (j : Int) := by omega
   clear hgo hlf hsub hTn' hT'
   rcases Nat.eq_zero_or_pos oj with ho0 | ho0
   ·have ho3 : ¬ (0 : Int) < (oj : Int) := by omega
    go_wp2
    refine bodyPost_ret (v := .tuple #[.slice (some ⟨g6, 0, none⟩) n c6, .int .i64 0]) (by simp [results, Tryz.results29, go_sem]) rfl ?_
    exact ⟨Lx, .inl ⟨by rw [HD.out]; exact ho0, g6, c6, rfl, by rw [HD.out]; exact RS, hw6, hc6⟩⟩
   ·have ho3 : (0 : Int) < (oj : Int) := by omega
    go_wp2
    refine bodyPost_ret (v := .tuple #[.slice none 0 0, .int .i64 4]) (by simp [results, Tryz.results29, go_sem]) rfl ?_
    exact ⟨Lx, .inr ⟨by rw [HD.out]; exact Nat.ne_of_gt ho0, rfl⟩⟩
end Go.Proofs.YtbgngmamnonlbaaGreat
