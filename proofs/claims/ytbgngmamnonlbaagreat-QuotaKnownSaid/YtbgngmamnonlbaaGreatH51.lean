/- Several texts in one: QuU, QuV, QuW, KqA. -/
import Derived.Test.YtbgngmamnonlbaaGreatH36
import Derived.Test.YtbgngmamnonlbaaGreatH50
import Derived.Test.YtbgngmamnonlbaaGreatH49
namespace Go.Proofs.YtbgngmamnonlbaaGreat
open Go.RowKit
set_option linter.unusedSimpArgs false
set_option linter.unusedVariables false
theorem settle1_low (A1 : Option Addr) (n c1 b2 : Nat) (x : Int) (w : World) (hx : x < 0) (hc : w.cell? ⟨b2, 0, none⟩ = some (.slice A1 n c1)) :
  Calls Tryz.prog 58 #[.int .i64 x, .pointer (some ⟨b2, 0, none⟩)] w (fun e w' => e = .returned (.bool (outP n x)) ∧ w = w') := by
 have HO : Hid (outP n x = true) := by show _ = _; unfold outP; simp; omega
 go_enter Tryz.func58, Tryz.ntmps58
 go_wp2
 go_ret
 exact ⟨by rw [HO.out]; first | rfl | simp [hx], rfl⟩
theorem settle1_high (A1 : Option Addr) (n c1 b2 : Nat) (x : Int) (w : World) (hx : 0 ≤ x) (hxn : (n : Int) ≤ x) (hc : w.cell? ⟨b2, 0, none⟩ = some (.slice A1 n c1)) :
  Calls Tryz.prog 58 #[.int .i64 x, .pointer (some ⟨b2, 0, none⟩)] w (fun e w' => e = .returned (.bool (outP n x)) ∧ w = w') := by
 have HO : Hid (outP n x = true) := by show _ = _; unfold outP; simp; omega
 have h1 : ¬ x < 0 := by omega
 go_enter Tryz.func58, Tryz.ntmps58
 go_wp2
 go_ret
 exact ⟨by rw [HO.out]; first | rfl | simp [hxn], rfl⟩
theorem settle1_any (A1 : Option Addr) (n c1 b2 : Nat) (x : Int) (w : World) (hc : w.cell? ⟨b2, 0, none⟩ = some (.slice A1 n c1)) :
  Calls Tryz.prog 58 #[.int .i64 x, .pointer (some ⟨b2, 0, none⟩)] w (fun e w' => e = .returned (.bool (outP n x)) ∧ w = w') := by
 rcases Int.lt_or_le x 0 with h | h
 ·exact settle1_low A1 n c1 b2 x w h hc
 ·rcases Int.lt_or_le x (n : Int) with h2 | h2
  ·exact settle1_in A1 n c1 b2 x w h h2 hc
  ·exact settle1_high A1 n c1 b2 x w h h2 hc
set_option maxRecDepth 100000 in
set_option maxHeartbeats 4000000 in
theorem settle_out (A1 : Option Addr) (n c1 : Nat) (S : List Int) (A2 : Option Addr) (n2 c2 : Nat) (T : List Nat) (o : Nat) (A3 : Option Addr) (n3 c3 : Nat) (R : List Int) (w : World) (h1 : Sl w .i64 A1 n S) (h2 : Sl w .i64 A2 n2 (natL T)) (h3 : Sl w .i64 A3 n3 R)
  (hs : Sound n S T (o : Int)) (hR : R.any (outP n) = true) (hn3 : n3 ≤ 100000) :
  Calls Tryz.prog 29 #[.agg #[.slice A1 n c1, .slice A2 n2 c2, .int .i64 (o : Int)], .slice A3 n3 c3] w (fun e w' => e = .returned (.tuple #[.slice none 0 0, .int .i64 2]) ∧ Lat w w') := by
 have HS := Lib.hid hs
 have H1 := Lib.hid h1
 have H2 := Lib.hid h2
 have H3 := Lib.hid h3
 have HA := Lib.hid hR
 have hSl : S.length = n := h1.1
 clear hs hR h1 h2 h3
 go_enter Tryz.func29, Tryz.ntmps29
 go_wp2_with fail
 refine name1 (Q := fun W => Calls _ _ _ W _) ?_
 intro W hl hsz k2
 refine (sound_yes A1 n c1 S A2 n2 c2 T o W (H1.out.later hl) (H2.out.later hl) HS.out).mono ?_
 rintro e w1 ⟨rfl, l1⟩
 have k2 := k2.later l1
 have L1 := hl.trans l1
 clear hl l1 hsz
 have d0 := k2.cell 0
 go_wp2_with fail
 refine (qStHas (outP n) w.heap.size A3 n3 c3 R w1 (H3.out.later L1) (by omega) (fun x hx => settle1_any A1 n c1 w.heap.size x w1 d0)).mono ?_
 rintro e w2 ⟨rfl, rfl⟩
 rw [HA.out]
 go_wp2
 refine bodyPost_ret (v := .tuple #[.slice none 0 0, .int .i64 2]) (by simp [results, Tryz.results29, go_sem]) rfl ?_
 exact ⟨rfl, L1⟩
end Go.Proofs.YtbgngmamnonlbaaGreat
namespace Go.Proofs.YtbgngmamnonlbaaGreat
open Go.RowKit
set_option linter.unusedSimpArgs false
set_option linter.unusedVariables false
def upB (n : Nat) : Int → List Int → Bool
 | _, [] => true
 | l, t :: ts => decide (l < t) && decide (t < (n : Int)) && upB n t ts
def soundB (n : Nat) (S T : List Int) (o : Int) : Bool :=
 decide (1 ≤ n) && decide (n ≤ 60) && !(S.any (outB 0 1000)) && upB n (-1) T && (if T.length = 0 then decide (o = 0) else decide (1 ≤ o) && decide (o < (T.length : Int)))
theorem upB_drop {n : Nat} {l t : Int} {T : List Int} {k : Nat} (h : T[k]? = some t) : upB n l (T.drop k) = (decide (l < t) && decide (t < (n : Int)) && upB n t (T.drop (k + 1))) := by
 obtain ⟨a, e⟩ := List.getElem?_eq_some_iff.1 h
 rw [List.drop_eq_getElem_cons a, e, upB]
set_option maxRecDepth 100000 in
set_option maxHeartbeats 2000000 in
theorem sound_any (A1 : Option Addr) (n c1 : Nat) (S : List Int) (A2 : Option Addr) (n2 c2 : Nat) (T : List Int) (o : Int) (w : World) (h1 : Sl w .i64 A1 n S) (h2 : Sl w .i64 A2 n2 T) (hn : n ≤ 1000000) (hn2 : n2 ≤ 1000000) :
  Calls Tryz.prog 57 #[.agg #[.slice A1 n c1, .slice A2 n2 c2, .int .i64 o]] w (fun e w' => e = .returned (.bool (soundB n S T o)) ∧ Lat w w') := by
 have hT : T.length = n2 := h2.1
 rcases Nat.eq_zero_or_pos n with hn0 | hn0
 ·have HB : Hid (soundB n S T o = false) := by show _ = _; unfold soundB; rw [show decide (1 ≤ n) = false by simp; omega]; rfl
  have hnB : ((n : Int) == 0) = true := by simp; omega
  subst hn0
  clear h1 h2
  go_enter Tryz.func57, Tryz.ntmps57
  go_wp2
  go_ret
  exact ⟨by rw [HB.out]; rfl, Lat.alloc _ _⟩
 have hn0' : ¬ n = 0 := by omega
 have hnB : ((n : Int) == 0) = false := by simp; omega
 by_cases h60 : n ≤ 60
 rotate_left
 ·have HB : Hid (soundB n S T o = false) := by show _ = _; unfold soundB; rw [show decide (n ≤ 60) = false by simp; omega]; simp
  have hnI : ¬ (n : Int) ≤ 60 := by omega
  have hnI2 : (60 : Int) < (n : Int) := by omega
  clear h1 h2 hn0
  go_enter Tryz.func57, Tryz.ntmps57
  go_wp2
  go_ret
  exact ⟨by rw [HB.out]; rfl, Lat.alloc _ _⟩
 have hnI : (n : Int) ≤ 60 := by omega
 by_cases hS : S.any (outB 0 1000) = true
 ·have HB : Hid (soundB n S T o = false) := by show _ = _; unfold soundB; rw [hS]; simp
  have HA := Lib.hid hS
  have H1 := Lib.hid h1
  clear h1 h2 hn0 hS
  go_enter Tryz.func57, Tryz.ntmps57
  go_wp2_with fail
  refine name1 (Q := fun W => Calls _ _ _ W _) ?_
  intro W hl hsz k1
  refine (qSndHas (outB 0 1000) A1 n c1 S W (H1.out.later hl) (by omega) (fun x _ => sound1_any x W)).mono ?_
  rintro e w1 ⟨rfl, rfl⟩
  rw [HA.out]
  go_wp2
  go_ret
  exact ⟨by rw [HB.out]; rfl, hl⟩
 have hS' : S.any (outB 0 1000) = false := by simpa using hS
 have HQ : Hid (soundB n S T o = (upB n (-1) T && (if T.length = 0 then decide (o = 0) else decide (1 ≤ o) && decide (o < (T.length : Int))))) := by
  show _ = _
  unfold soundB
  rw [hS', show decide (1 ≤ n) = true by simp; omega, show decide (n ≤ 60) = true by simp; omega]
  rfl
 have HA := Lib.hid hS'
 have H1 := Lib.hid h1
 have HTl := Lib.hid hT
 clear hS hS' h1 hT
 go_enter Tryz.func57, Tryz.ntmps57
 go_wp2_with fail
 refine name1 (Q := fun W => Calls _ _ _ W _) ?_
 intro W hl hsz k1
 refine (qSndHas (outB 0 1000) A1 n c1 S W (H1.out.later hl) (by omega) (fun x _ => sound1_any x W)).mono ?_
 rintro e w1 ⟨rfl, rfl⟩
 rw [HA.out]
 have g2 := h2.later hl
 have d0 := k1.cell 0
 have d1 := k1.cell 1
 have d2 := k1.cell 2
 clear hsz HA h2 H1 hn0
 go_wp2
 go_loopw [3, 24] (fun l i wr => ∃ (k : Nat) (z : Int), k ≤ n2 ∧ i = .int .i64 k ∧ wr = W ∧ l = .int .i64 z ∧ upB n (-1) T = upB n z (T.drop k)) (fun _ i _ => n2 - (intOf i).toNat)
 case atStart => exact ⟨0, -1, Nat.zero_le _, rfl, rfl, rfl, rfl⟩
 case round =>
  obtain ⟨k, z, hk, rfl, rfl, rfl, hup⟩ := hrel
  have HU := Lib.hid hup
  clear hup
  by_cases hlt : k < n2
  ·obtain ⟨a, t, rfl, hblk, hx, hcell⟩ := g2.at hlt
   have HX := Lib.hid hx
   have hltI : (k : Int) < (n2 : Int) := by omega
   clear hx
   by_cases h9 : t ≤ z
   ·have HB : Hid (soundB n S T o = false) := by show _ = _; rw [HQ.out, HU.out, upB_drop HX.out, show decide (z < t) = false by simp; omega]; simp
    go_wp2
    go_ret
    exact ⟨by rw [HB.out]; rfl, hl⟩
   ·by_cases h8 : (n : Int) ≤ t
    ·have HB : Hid (soundB n S T o = false) := by show _ = _; rw [HQ.out, HU.out, upB_drop HX.out, show decide (t < (n : Int)) = false by simp; omega]; simp
     go_wp2
     go_ret
     exact ⟨by rw [HB.out]; rfl, hl⟩
    ·have HN : Hid (upB n (-1) T = upB n t (T.drop (k + 1))) := by show _ = _; rw [HU.out, upB_drop HX.out, show decide (z < t) = true by simp; omega, show decide (t < (n : Int)) = true by simp; omega]; simp
     go_wp2
     go_roundw
     case rel => exact ⟨k + 1, t, by omega, by go_num, (by first | rfl | trivial), rfl, HN.out⟩
     case measure => simp [intOf]; omega
  ·obtain rfl : k = n2 := by omega
   have HN : Hid (soundB n S T o = (if k = 0 then decide (o = 0) else decide (1 ≤ o) && decide (o < (k : Int)))) := by
    show _ = _
    rw [HQ.out, HU.out, List.drop_of_length_le (by have := HTl.out; omega), HTl.out]
    rfl
   clear HQ HU
   rcases Nat.eq_zero_or_pos k with h0 | h0
   ·subst h0
    by_cases ho : o = 0
    ·have HB : Hid (soundB n S T o = true) := by show _ = _; rw [HN.out]; simp [ho]
     subst ho
     go_wp2
     go_ret
     exact ⟨by rw [HB.out]; rfl, hl⟩
    ·have HB : Hid (soundB n S T o = false) := by show _ = _; rw [HN.out]; simp [ho]
     have hoB : (o == 0) = false := by simp; omega
     go_wp2
     go_ret
     exact ⟨by rw [HB.out]; first | rfl | simp [ho], hl⟩
   ·have hk0 : ¬ k = 0 := by omega
    have hkB : ((k : Int) == 0) = false := by simp; omega
    by_cases ho1 : 1 ≤ o
    ·have HB : Hid (soundB n S T o = decide (o < (k : Int))) := by show _ = _; rw [HN.out, if_neg hk0]; simp [ho1]
     by_cases ho2 : o < (k : Int)
     ·have HC : Hid (soundB n S T o = true) := by show _ = _; rw [HB.out]; simp [ho2]
      go_wp2
      go_ret
      exact ⟨by rw [HC.out]; first | rfl | simp [ho2], hl⟩
     ·have HC : Hid (soundB n S T o = false) := by show _ = _; rw [HB.out]; simp [ho2]
      go_wp2
      go_ret
      exact ⟨by rw [HC.out]; first | rfl | simp [ho2], hl⟩
    ·have HB : Hid (soundB n S T o = false) := by show _ = _; rw [HN.out, if_neg hk0]; simp [ho1]
     go_wp2
     go_ret
     exact ⟨by rw [HB.out]; first | rfl | simp [ho1], hl⟩
set_option maxRecDepth 100000 in
set_option maxHeartbeats 4000000 in
theorem settle_no (A1 : Option Addr) (n c1 : Nat) (S : List Int) (A2 : Option Addr) (n2 c2 : Nat) (T : List Int) (o : Int) (A3 : Option Addr) (n3 c3 : Nat) (w : World) (h1 : Sl w .i64 A1 n S) (h2 : Sl w .i64 A2 n2 T) (hn : n ≤ 1000000) (hn2 : n2 ≤ 1000000)
  (hs : soundB n S T o = false) :
  Calls Tryz.prog 29 #[.agg #[.slice A1 n c1, .slice A2 n2 c2, .int .i64 o], .slice A3 n3 c3] w (fun e w' => e = .returned (.tuple #[.slice none 0 0, .int .i64 2]) ∧ Lat w w') := by
 have HS := Lib.hid hs
 have H1 := Lib.hid h1
 have H2 := Lib.hid h2
 clear hs h1 h2
 go_enter Tryz.func29, Tryz.ntmps29
 go_wp2_with fail
 refine name1 (Q := fun W => Calls _ _ _ W _) ?_
 intro W hl hsz k2
 refine (sound_any A1 n c1 S A2 n2 c2 T o W (H1.out.later hl) (H2.out.later hl) hn hn2).mono ?_
 rintro e w1 ⟨rfl, l1⟩
 rw [HS.out]
 have L1 := hl.trans l1
 clear hl l1 hsz k2
 go_wp2
 refine bodyPost_ret (v := .tuple #[.slice none 0 0, .int .i64 2]) (by simp [results, Tryz.results29, go_sem]) rfl ?_
 exact ⟨rfl, L1⟩
theorem upB_sound {n : Nat} : ∀ {T : List Int} {l : Int}, -1 ≤ l → upB n l T = true → ∃ R : List Nat, T = natL R ∧ R.Pairwise (· < ·) ∧ (∀ t ∈ R, t < n) ∧ ∀ t ∈ R, l < (t : Int) := by
 intro T
 induction T with
 | nil => intro l _ _; exact ⟨[], rfl, List.Pairwise.nil, (fun t h => by cases h), (fun t h => by cases h)⟩
 | cons x T ih =>
   intro l hl h
   rw [upB] at h
   simp only [Bool.and_eq_true, decide_eq_true_eq] at h
   obtain ⟨⟨h1, h2⟩, h3⟩ := h
   obtain ⟨R, e, p, q, r⟩ := ih (by omega) h3
   refine ⟨x.toNat :: R, ?_, List.Pairwise.cons (fun t ht => ?_) p, ?_, ?_⟩
   ·rw [e]; unfold natL; simp; omega
   ·have := r t ht; omega
   ·intro t ht
    rcases List.mem_cons.1 ht with rfl | ht
    ·omega
    ·exact q t ht
   ·intro t ht
    rcases List.mem_cons.1 ht with rfl | ht
    ·omega
    ·have := r t ht; omega
theorem soundB_yes {n : Nat} {S T : List Int} {o : Int} (h : soundB n S T o = true) : ∃ R : List Nat, T = natL R ∧ Sound n S R o := by
 unfold soundB at h
 simp only [Bool.and_eq_true, decide_eq_true_eq, Bool.not_eq_true'] at h
 obtain ⟨⟨⟨⟨h1, h2⟩, h3⟩, h4⟩, h5⟩ := h
 obtain ⟨R, e, p, q, r⟩ := upB_sound (by omega) h4
 refine ⟨R, e, h1, h2, ?_, p, q, ?_⟩
 ·intro x hx
  have := List.any_eq_false.1 h3 x hx
  unfold outB at this
  simp at this
  omega
 ·rw [e, natL_len] at h5
  by_cases h0 : R.length = 0
  ·rw [if_pos h0] at h5
   exact .inl ⟨List.eq_nil_of_length_eq_zero h0, by simpa using h5⟩
  ·rw [if_neg h0] at h5
   simp at h5
   exact .inr h5
end Go.Proofs.YtbgngmamnonlbaaGreat
namespace Go.Proofs.YtbgngmamnonlbaaGreat
open Go.RowKit
set_option linter.unusedSimpArgs false
set_option linter.unusedVariables false
def setR (n : Nat) (S T : List Int) (o : Int) (R : List Int) : Option (List Int) × Nat :=
 if soundB n S T o = false then (none, 2) else if R.any (outP n) = true then (none, 2) else
 if (setl (R.map Int.toNat) (T.map Int.toNat) o.toNat).2 = 0 then (some (bump S (setl (R.map Int.toNat) (T.map Int.toNat) o.toNat).1), 0) else (none, 4)
def SetRes (w : World) (n : Nat) (q : Option (List Int) × Nat) (e : Ending) (w' : World) : Prop :=
 Lat w w' ∧ ((∃ L g c, q = (some L, 0) ∧ e = .returned (.tuple #[.slice (some ⟨g, 0, none⟩) n c, .int .i64 0]) ∧ RowN w' g n L ∧ w.heap.size ≤ g ∧ n ≤ c) ∨ (∃ x : Nat, q = (none, x) ∧ x ≠ 0 ∧ e = .returned (.tuple #[.slice none 0 0, .int .i64 (x : Int)])))
theorem natL_back (R : List Nat) : (natL R).map Int.toNat = R := by
 induction R with
 | nil => rfl
 | cons x R ih => show ((x : Int).toNat) :: (natL R).map Int.toNat = _; rw [ih, Int.toNat_natCast]
theorem natL_of {R : List Int} {n : Nat} (h : R.any (outP n) = false) : R = natL (R.map Int.toNat) ∧ ∀ r ∈ R.map Int.toNat, r < n := by
 have h2 : ∀ x ∈ R, 0 ≤ x ∧ x < (n : Int) := by
  intro x hx
  have := List.any_eq_false.1 h x hx
  unfold outP at this
  simp at this
  omega
 constructor
 ·clear h
  induction R with
  | nil => rfl
  | cons x R ih =>
    have e := ih (fun y hy => h2 y (List.mem_cons_of_mem _ hy))
    have := h2 x List.mem_cons_self
    show x :: R = ((x.toNat : Nat) : Int) :: natL (R.map Int.toNat)
    rw [← e]
    congr 1
    omega
 ·intro r hr
  obtain ⟨x, hx, rfl⟩ := List.mem_map.1 hr
  have := h2 x hx
  omega
theorem settle_any (A1 : Option Addr) (n c1 : Nat) (S : List Int) (A2 : Option Addr) (n2 c2 : Nat) (T : List Int) (o : Int) (A3 : Option Addr) (n3 c3 : Nat) (R : List Int) (w : World) (h1 : Sl w .i64 A1 n S) (h2 : Sl w .i64 A2 n2 T) (h3 : Sl w .i64 A3 n3 R) (hn : n ≤ 1000000) (hn2 : n2 ≤ 1000000) (hn3 : n3 ≤ 100000) :
  Calls Tryz.prog 29 #[.agg #[.slice A1 n c1, .slice A2 n2 c2, .int .i64 o], .slice A3 n3 c3] w (SetRes w n (setR n S T o R)) := by
 cases hs : soundB n S T o with
 | false =>
   refine (settle_no A1 n c1 S A2 n2 c2 T o A3 n3 c3 w h1 h2 hn hn2 hs).mono ?_
   rintro e w1 ⟨rfl, l⟩
   exact ⟨l, .inr ⟨2, by rw [setR, if_pos hs], by decide, rfl⟩⟩
 | true =>
   obtain ⟨T', rfl, hS⟩ := soundB_yes hs
   have hs' : ¬ soundB n S (natL T') o = false := by rw [hs]; decide
   have ho : o = (o.toNat : Int) := by rcases hS.open_ with ⟨_, h⟩ | ⟨h, _⟩ <;> omega
   generalize o.toNat = o' at ho
   subst ho
   cases hR : R.any (outP n) with
   | true =>
     refine (settle_out A1 n c1 S A2 n2 c2 T' o' A3 n3 c3 R w h1 h2 h3 hS hR hn3).mono ?_
     rintro e w1 ⟨rfl, l⟩
     exact ⟨l, .inr ⟨2, by rw [setR, if_neg hs', if_pos hR], by decide, rfl⟩⟩
   | false =>
     obtain ⟨hRn, hRl⟩ := natL_of hR
     have hR' : ¬ R.any (outP n) = true := by rw [hR]; decide
     have h3' : Sl w .i64 A3 n3 (natL (R.map Int.toNat)) := hRn ▸ h3
     refine (settle_yes A1 n c1 S A2 n2 c2 T' o' A3 n3 c3 (R.map Int.toNat) w h1 h2 h3' hS hRl hn3).mono ?_
     rintro e w1 ⟨l, h⟩
     refine ⟨l, ?_⟩
     have e0 : setR n S (natL T') (o' : Int) R = if (setl (R.map Int.toNat) T' o').2 = 0 then (some (bump S (setl (R.map Int.toNat) T' o').1), 0) else (none, 4) := by
      rw [setR, if_neg hs', if_neg hR', natL_back, Int.toNat_natCast]
     rcases h with ⟨h0, g, c, h4, h5, h6, h7⟩ | ⟨h0, h4⟩
     ·exact .inl ⟨_, g, c, by rw [e0, if_pos h0], h4, h5, h6, h7⟩
     ·exact .inr ⟨4, by rw [e0, if_neg h0], by decide, h4⟩
end Go.Proofs.YtbgngmamnonlbaaGreat
namespace Go.Proofs.YtbgngmamnonlbaaGreat
open Go.RowKit
set_option linter.unusedSimpArgs false
set_option linter.unusedVariables false
theorem kq1 : giveQ 1 [1, 10, 39] [2, 2, 0] 10 = some ⟨[2, 2, 6], [], 0, []⟩ := by rfl
theorem kq2 : giveQ 2 [2, 2] [0, 0] 9 = none := by rfl
theorem kq3 : giveQ 2 [10, 0] [8, 0] 9 = none := by rfl
theorem kq4 : giveQ 1 [1000000000, 1000000000] [0, 0] 1000 = some ⟨[500, 500], [], 0, []⟩ := by rfl
theorem kq5 : giveQ 1 [1] [1000] 1000 = some ⟨[1000], [], 0, []⟩ := by rfl
theorem ks1 : setR 0 [] [] 0 [] = (none, 2) := by decide
theorem ks2 : setR 1 [1] [] 1 [0] = (none, 2) := by decide
theorem ks3 : setR 2 [1, 1] [0, 1] 2 [0, 1] = (none, 2) := by decide
theorem ks4 : setR 2 [1, 1] [1, 0] 1 [0, 1] = (none, 2) := by decide
theorem ks5 : setR 2 [1, 1] [0, 1] 1 [0, 2] = (none, 2) := by decide
theorem ks6 : setR 3 [1, 1, 0] [0, 1] 1 [2] = (none, 4) := by decide
theorem ks7 : setR 3 [1, 1, 0] [0, 1, 2] 2 [2, 2, 1, 0] = (some [1, 2, 1], 0) := by decide
theorem ks8 : setR 2 [1000, 0] [] 0 [] = (some [1000, 0], 0) := by decide
theorem settle_litE (A1 : Option Addr) (n c1 : Nat) (S : List Int) (A2 : Option Addr) (n2 c2 : Nat) (T : List Int) (o : Int) (A3 : Option Addr) (n3 c3 : Nat) (R : List Int) (x : Nat) (w : World) (h1 : Sl w .i64 A1 n S) (h2 : Sl w .i64 A2 n2 T) (h3 : Sl w .i64 A3 n3 R) (hn : n ≤ 1000) (hn2 : n2 ≤ 1000) (hn3 : n3 ≤ 1000)
  (hq : setR n S T o R = (none, x)) :
  Calls Tryz.prog 29 #[.agg #[.slice A1 n c1, .slice A2 n2 c2, .int .i64 o], .slice A3 n3 c3] w (fun e w' => e = .returned (.tuple #[.slice none 0 0, .int .i64 (x : Int)]) ∧ Lat w w') := by
 refine (settle_any A1 n c1 S A2 n2 c2 T o A3 n3 c3 R w h1 h2 h3 (by omega) (by omega) (by omega)).mono ?_
 rintro e w' ⟨hl, h⟩
 rw [hq] at h
 rcases h with ⟨L, g, c, h, _⟩ | ⟨y, h, _, he⟩
 ·cases h
 ·cases h
  exact ⟨he, hl⟩
theorem settle_litS (A1 : Option Addr) (n c1 : Nat) (S : List Int) (A2 : Option Addr) (n2 c2 : Nat) (T : List Int) (o : Int) (A3 : Option Addr) (n3 c3 : Nat) (R L : List Int) (w : World) (h1 : Sl w .i64 A1 n S) (h2 : Sl w .i64 A2 n2 T) (h3 : Sl w .i64 A3 n3 R) (hn : n ≤ 1000) (hn2 : n2 ≤ 1000) (hn3 : n3 ≤ 1000)
  (hq : setR n S T o R = (some L, 0)) :
  Calls Tryz.prog 29 #[.agg #[.slice A1 n c1, .slice A2 n2 c2, .int .i64 o], .slice A3 n3 c3] w (fun e w' => ∃ g c, e = .returned (.tuple #[.slice (some ⟨g, 0, none⟩) n c, .int .i64 0]) ∧ Sl w' .i64 (some ⟨g, 0, none⟩) n L ∧ Lat w w') := by
 refine (settle_any A1 n c1 S A2 n2 c2 T o A3 n3 c3 R w h1 h2 h3 (by omega) (by omega) (by omega)).mono ?_
 rintro e w' ⟨hl, h⟩
 rw [hq] at h
 rcases h with ⟨L', g, c, h, he, hr, _⟩ | ⟨y, h, _, he⟩
 ·cases h
  exact ⟨g, c, he, hr.sl, hl⟩
 ·cases h
theorem give_bad (A1 : Option Addr) (n c1 : Nat) (P : List Int) (Al : Option Addr) (nl cl : Nat) (L : List Int) (s k : Int) (w : World) (hP : Sl w .i64 A1 n P) (hL : Sl w .i64 Al nl L) (hn : n ≤ 1000) (hnl : nl ≤ 1000) (hnl0 : 0 < nl) (h : askE P s k = 0) (hbad : nl ≠ n ∨ (nl = n ∧ L.any (outS s) = true)) :
  Calls Tryz.prog 25 #[.slice A1 n c1, .int .i64 s, .int .i64 k, .slice Al nl cl] w (fun e w' => e = .returned (.tuple #[.agg #[.slice none 0 0, .slice none 0 0, .int .i64 0], .int .i64 2]) ∧ Lat w w') := by
 rcases hbad with hb | ⟨hb, ha⟩
 ·exact give_len A1 n c1 P Al nl cl L s k w hP hL hn hnl hnl0 h hb
 ·exact give_out A1 n c1 P Al nl cl L s k w hP hL hn hnl hnl0 h hb ha
def BadL (v : Value) (w : World) : Prop := ∃ g cs, v = .slice (some ⟨g, 0, none⟩) 7 7 ∧ Blk w g 27 cs ∧ ∀ j, j < 7 → ∃ A n c xs, cs[j]? = some (.slice A n c) ∧ Sl w .i64 A n xs ∧ n ≤ 61 ∧ censusB xs = false
theorem BadL.later {v : Value} {w w' : World} (h : BadL v w) (hl : Lat w w') : BadL v w' := by
 obtain ⟨g, cs, h1, h2, h3⟩ := h
 refine ⟨g, cs, h1, h2.later hl, fun j hj => ?_⟩
 obtain ⟨A, n, c, xs, a, b, d⟩ := h3 j hj
 exact ⟨A, n, c, xs, a, b.later hl, d⟩
theorem cz60 : censusB (List.replicate 60 0) = false := by decide
theorem cz61 : censusB (List.replicate 60 0 ++ [1]) = false := by decide
theorem bad_pair {w : World} {g : Nat} {cs : Array Value} (h : ∀ i, w.cell? ⟨g, i, none⟩ = cs[i]?) (hc : cs = #[.int .i64 0, .int .i64 1, .int .i64 1001, .int .i64 1, .int .i64 (-1), .int .i64 1, .int .i64 1, .int .i64 0, .int .i64 1, .int .i64 5, .int .i64 1, .int .i64 11]) {j : Nat} (hj : j < 6) :
  ∃ a b : Int, w.cell? ⟨g, j * 2, none⟩ = some (.int .i64 a) ∧ w.cell? ⟨g, j * 2 + 1, none⟩ = some (.int .i64 b) ∧ askE [1] a b = 2 := by
 subst hc
 have hq : j = 0 ∨ j = 1 ∨ j = 2 ∨ j = 3 ∨ j = 4 ∨ j = 5 := by omega
 rcases hq with rfl | rfl | rfl | rfl | rfl | rfl
 ·exact ⟨0, 1, h 0, h 1, by decide⟩
 ·exact ⟨1001, 1, h 2, h 3, by decide⟩
 ·exact ⟨-1, 1, h 4, h 5, by decide⟩
 ·exact ⟨1, 0, h 6, h 7, by decide⟩
 ·exact ⟨1, 5, h 8, h 9, by decide⟩
 ·exact ⟨1, 11, h 10, h 11, by decide⟩
theorem bad_four {w : World} {g g1 g2 g3 g4 : Nat} {cs : Array Value} (h : ∀ i, w.cell? ⟨g, i, none⟩ = cs[i]?) (hc : cs = #[.slice (some ⟨g1, 0, none⟩) 2 2, .slice (some ⟨g2, 0, none⟩) 1 1, .slice (some ⟨g3, 0, none⟩) 1 1, .slice (some ⟨g4, 0, none⟩) 1 1])
  (b1 : Blk w g1 3 #[.int .i64 0, .int .i64 0]) (b2 : Blk w g2 3 #[.int .i64 (-1)]) (b3 : Blk w g3 3 #[.int .i64 3]) (b4 : Blk w g4 3 #[.int .i64 4611686018427387904]) {j : Nat} (hj : j < 4) :
  ∃ A n c L, w.cell? ⟨g, j, none⟩ = some (.slice A n c) ∧ Sl w .i64 A n L ∧ 0 < n ∧ n ≤ 2 ∧ (n ≠ 1 ∨ (n = 1 ∧ L.any (outS 2) = true)) := by
 subst hc
 have hq : j = 0 ∨ j = 1 ∨ j = 2 ∨ j = 3 := by omega
 rcases hq with rfl | rfl | rfl | rfl
 ·exact ⟨_, _, _, [0, 0], h 0, Sl.lit (xs := [0, 0]) b1, by decide, by decide, .inl (by decide)⟩
 ·exact ⟨_, _, _, [-1], h 1, Sl.lit (xs := [-1]) b2, by decide, by decide, .inr ⟨rfl, by decide⟩⟩
 ·exact ⟨_, _, _, [3], h 2, Sl.lit (xs := [3]) b3, by decide, by decide, .inr ⟨rfl, by decide⟩⟩
 ·exact ⟨_, _, _, [4611686018427387904], h 3, Sl.lit (xs := [4611686018427387904]) b4, by decide, by decide, .inr ⟨rfl, by decide⟩⟩
end Go.Proofs.YtbgngmamnonlbaaGreat
