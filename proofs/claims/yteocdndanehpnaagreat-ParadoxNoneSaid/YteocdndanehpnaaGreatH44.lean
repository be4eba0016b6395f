/- Several texts in one: QgA, QgB, QuNa. -/
import Derived.Test.YteocdndanehpnaaGreatH43
import Derived.Test.YteocdndanehpnaaGreatH38
import Derived.Test.YteocdndanehpnaaGreatH34
import Derived.Test.YteocdndanehpnaaGreatH36
import Derived.Deep.DeepCutAuto
import Derived.Scope
namespace Go.Proofs.YteocdndanehpnaaGreat
open Go.RowKit
set_option linter.unusedSimpArgs false
set_option linter.unusedVariables false
theorem spell141 (T : Array Value) (h : T.size = 141) : ∃ f : Nat → Value, (∀ k, f k = T.getD k undef) ∧ T = #[f 0, f 1, f 2, f 3, f 4, f 5, f 6, f 7, f 8, f 9, f 10, f 11, f 12, f 13, f 14, f 15, f 16, f 17, f 18, f 19, f 20, f 21, f 22, f 23, f 24, f 25, f 26, f 27, f 28, f 29, f 30, f 31, f 32, f 33, f 34, f 35, f 36, f 37, f 38, f 39, f 40, f 41, f 42, f 43, f 44, f 45, f 46, f 47, f 48, f 49, f 50, f 51, f 52, f 53, f 54, f 55, f 56, f 57, f 58, f 59, f 60, f 61, f 62, f 63, f 64, f 65, f 66, f 67, f 68, f 69, f 70, f 71, f 72, f 73, f 74, f 75, f 76, f 77, f 78, f 79, f 80, f 81, f 82, f 83, f 84, f 85, f 86, f 87, f 88, f 89, f 90, f 91, f 92, f 93, f 94, f 95, f 96, f 97, f 98, f 99, f 100, f 101, f 102, f 103, f 104, f 105, f 106, f 107, f 108, f 109, f 110, f 111, f 112, f 113, f 114, f 115, f 116, f 117, f 118, f 119, f 120, f 121, f 122, f 123, f 124, f 125, f 126, f 127, f 128, f 129, f 130, f 131, f 132, f 133, f 134, f 135, f 136, f 137, f 138, f 139, f 140] := ⟨fun k => T.getD k undef, fun _ => rfl, (spell 141 T h).trans (by kernel_rfl)⟩
def outS (s : Int) (x : Int) : Bool := decide (x < 0) || decide (s < x)
theorem give1_in (s : Int) (b2 : Nat) (x : Int) (w : World) (hx : 0 ≤ x) (hxn : x ≤ s) (hc : w.cell? ⟨b2, 0, none⟩ = some (.int .i64 s)) :
  Calls Tryz.prog 44 #[.int .i64 x, .pointer (some ⟨b2, 0, none⟩)] w (fun e w' => e = .returned (.bool (outS s x)) ∧ w = w') := by
 have HO : Hid (outS s x = false) := by show _ = _; unfold outS; simp; omega
 have h1 : ¬ x < 0 := by omega
 have h2 : ¬ s < x := by omega
 go_enter Tryz.func44, Tryz.ntmps44
 go_wp2
 go_ret
 exact ⟨by rw [HO.out]; first | rfl | simp [h1, h2] | (simp; omega), rfl⟩
def qGvPost (p : Int → Bool) (w : World) (xs : List Int) (e : Ending) (w' : World) : Prop := ∃ r : Int, e = .returned (.int .i64 r) ∧ (xs.any p = true → 0 ≤ r) ∧ (xs.any p = false → r < 0) ∧ w = w'
set_option maxHeartbeats 1000000 in
theorem qGvIdx (p : Int → Bool) (b2 : Nat) (A : Option Addr) (n c : Nat) (xs : List Int) (w : World) (hs : Sl w .i64 A n xs) (hn : n ≤ 17000000000000)
  (HC : ∀ x ∈ xs, Calls Tryz.prog 44 #[.int .i64 x, .pointer (some ⟨b2, 0, none⟩)] w (fun e w' => e = .returned (.bool (p x)) ∧ w = w')) :
  Calls Tryz.prog 54 #[.slice A n c, .func (.func 44) #[] #[.pointer (some ⟨b2, 0, none⟩)]] w (qGvPost p w xs) := by
 have HCH := Lib.hid HC
 clear HC
 go_enter Tryz.func54, Tryz.ntmps54
 go_wp2
 go_loop [8] (fun i => ∃ k : Nat, k ≤ n ∧ i = .int .i64 k ∧ Hid ((xs.take k).any p = false)) (fun i => n - (intOf i).toNat)
 case atStart => exact ⟨0, Nat.zero_le _, rfl, rfl⟩
 case round =>
  obtain ⟨k, hk, rfl, hno⟩ := hrel
  by_cases hlt : k < n
  ·obtain ⟨a, x, rfl, hblk, hx, hcell⟩ := hs.at hlt
   have hxk := hx
   have HM := Lib.hid (List.mem_of_getElem? hxk)
   have HT : Hid ((xs.take (k + 1)).any p = p x) := by
    show _ = _
    have hkl : k < xs.length := (List.getElem?_eq_some_iff.1 hxk).1
    have e : xs[k] = x := (List.getElem?_eq_some_iff.1 hxk).2
    rw [List.take_succ_eq_append_getElem hkl, List.any_append, hno.out, e]
    simp
   have HCx := Lib.hid (HCH.out x HM.out)
   clear hx hxk
   by_cases hp : p x = true
   ·have HA : Hid (xs.any p = true) := by show _ = _; rw [List.any_eq_true]; exact ⟨x, HM.out, hp⟩
    have HP := Lib.hid hp
    clear hp
    go_wp2_with fail
    refine HCx.out.mono ?_
    rintro e w1 ⟨rfl, rfl⟩
    rw [HP.out]
    go_wp2
    go_ret
    exact ⟨k, rfl, (fun _ => by omega), (fun h => by rw [HA.out] at h; cases h), rfl⟩
   ·have hp' : p x = false := by simpa using hp
    have HP := Lib.hid hp'
    clear hp hp'
    go_wp2_with fail
    refine HCx.out.mono ?_
    rintro e w1 ⟨rfl, rfl⟩
    rw [HP.out]
    go_wp2
    go_round
    case rel => exact ⟨k + 1, by omega, by go_num, by rw [HT.out, HP.out]; rfl⟩
    case measure => simp [intOf]; omega
  ·obtain rfl : k = n := by omega
   have HA : Hid (xs.any p = false) := by
    have := hno.out
    rw [List.take_of_length_le (by have := hs.1; omega)] at this
    exact this
   go_wp2
   go_ret
   exact ⟨-1, rfl, (fun h => by rw [HA.out] at h; cases h), (fun _ => by omega), rfl⟩
theorem qGvHas (p : Int → Bool) (b2 : Nat) (A : Option Addr) (n c : Nat) (xs : List Int) (w : World) (hs : Sl w .i64 A n xs) (hn : n ≤ 17000000000000)
  (HC : ∀ x ∈ xs, Calls Tryz.prog 44 #[.int .i64 x, .pointer (some ⟨b2, 0, none⟩)] w (fun e w' => e = .returned (.bool (p x)) ∧ w = w')) :
  Calls Tryz.prog 30 #[.slice A n c, .func (.func 44) #[] #[.pointer (some ⟨b2, 0, none⟩)]] w (fun e w' => e = .returned (.bool (xs.any p)) ∧ w = w') := by
 have HI := qGvIdx p b2 A n c xs w hs hn HC
 clear HC
 go_enter Tryz.func30, Tryz.ntmps30
 go_wp2_with fail
 refine HI.mono ?_
 rintro e w1 ⟨r, rfl, h1, h2, rfl⟩
 cases hb : xs.any p with
 | true =>
   have h0 := h1 hb
   have HB := Lib.hid hb
   clear h1 h2 hb
   go_wp2
   go_ret
   exact ⟨by rw [HB.out]; rfl, rfl⟩
 | false =>
   have h0 := h2 hb
   have h0' : decide (0 ≤ r) = false := by simp; omega
   have HB := Lib.hid hb
   clear h1 h2 hb
   go_wp2
   go_ret
   exact ⟨by rw [HB.out]; rfl, rfl⟩
theorem sl_cell {w : World} {b o n : Nat} {xs : List Int} (h : Sl w .i64 (some ⟨b, o, none⟩) n xs) {j : Nat} {x : Int} (hx : xs[j]? = some x) : w.cell? ⟨b, o + j, none⟩ = some (.int .i64 x) := by
 obtain ⟨hl, h2⟩ := h
 have hj := (List.getElem?_eq_some_iff.1 hx).1
 obtain ⟨a, e, _, hc⟩ := h2 (by omega)
 cases e
 have := hc j x hx
 have e : (⟨b, o, none⟩ : Addr).add j = ⟨b, o + j, none⟩ := by unfold Addr.add; split <;> simp_all
 rw [e] at this
 exact this
theorem rep_snoc (j : Nat) : bls (List.replicate (j + 1) true) = bls (List.replicate j true) ++ [[.bool true]] := by
 rw [List.replicate_succ']
 simp [bls]
theorem race_start {w7 w9 : World} {r : Nat} {x1 x2 : Value} {xs bs : List (List Value)} {y : List Value} {a : Act} (hr : w7.heap.size ≤ r) (hb : Blk w9 r 88 #[x1, x2]) (h1 : OwnM w9 w7.heap.size 90 2 x1 xs) (h2 : OwnM w9 w7.heap.size 4 1 x2 bs) (hl : Lat w7 w9) :
  G12 w7 r x1 x2 xs bs y 0 a w9.drew := by
 have hd := Lat.drew w9
 unfold G12
 rw [Nat.zero_testBit, Nat.zero_testBit, Nat.zero_testBit, Nat.zero_testBit, Nat.zero_testBit, Nat.zero_testBit]
 exact ⟨hl.trans hd, hr, ⟨x1, x2, hb.later hd, fun h => (by cases h), fun _ => rfl, fun h => (by cases h), fun _ => rfl⟩, fun h => (by cases h), fun h => (by cases h), fun _ => h1.later hd, fun h => (by cases h), fun _ => h2.later hd, fun h => (by cases h)⟩
set_option maxRecDepth 100000 in
set_option maxHeartbeats 8000000 in
theorem give_from (A1 : Option Addr) (n c1 : Nat) (P : List Int) (Al : Option Addr) (nl cl : Nat) (L M : List Int) (s k : Int) (w : World) (R : Option Aw)
  (hP : Sl w .i64 A1 n P) (hL : Sl w .i64 Al nl L) (hn1 : 0 < n) (hn : n < 20) (hc : censusB P = true) (hs1 : 1 ≤ s) (hs2 : s ≤ 1000) (hk1 : 1 ≤ k) (hk4 : k ≤ 4)
  (hM : M.length = n) (hM0 : ∀ x ∈ M, 0 ≤ x ∧ x ≤ s) (hMs : M.sum ≤ s) (hLM : (nl = 0 ∧ M = List.replicate n 0) ∨ (nl = n ∧ L = M))
  (hR : quoGo k (pX (P.zip M)) (lX (P.zip M)) (n + 1) (List.range n) (List.replicate n 0) s = R) :
  Calls Tryz.prog 19 #[.slice A1 n c1, .int .i64 s, .int .i64 k, .slice Al nl cl] w (GivP w n R) := by
 have HP := Lib.hid hP
 have HL := Lib.hid hL
 have HC := Lib.hid hc
 have HR := Lib.hid hR
 have HM0 := Lib.hid hM0
 have HLM := Lib.hid hLM
 have HASK := fun w h => asked_yes A1 n c1 P s k w h (by omega) hc hs1 hs2 hk1 hk4
 have hPn : P.length = n := hP.1
 have hany : M.any (outS s) = false := by
  rw [List.any_eq_false]
  intro x hx
  have := hM0 x hx
  unfold outS
  simp
  omega
 have HA := Lib.hid hany
 have hMs0 := hMs
 clear hany hR hLM hc
 go_enter Tryz.func19, Tryz.ntmps19
 go_wp2_with fail
 refine wp_scope_straight ?_
 go_upto_region 1 with (fail)
 refine name2 (Q := fun W => Code.wp _ _ _ _ W) ?_
 intro W hl hsz k5 k8
 have d0 := k5.cell 0
 go_wp2_with fail
 refine (HASK W (HP.out.later hl)).mono ?_
 rintro e w4 ⟨rfl, l4⟩
 have K5 := k5.later l4
 have K8 := k8.later l4
 have L4 := hl.trans l4
 clear d0 k5 k8 hl hsz l4 HASK
 go_upto_if 30 with (fail)
 go_cut [3] from 31 to 33 (fun v wx => ∃ A3 c3, v = .slice A3 n c3 ∧ Sl wx .i64 A3 n M ∧ Lat w4 wx)
 case first =>
  as_aux_lemma =>
   rcases HLM.out with ⟨h0, hm0⟩ | ⟨h0, hm0⟩
   ·subst h0
    have HZ := Lib.hid hm0
    have hmk := run_make_nums (P := Tryz.prog) (t := 29) (e := 3) (k := .i64) (by_ := 8) Tryz.underlying29 (by kernel_rfl) (n : Int) n rfl (by omega) (by omega)
    clear hm0
    go_wp2_with fail
    go_meet
    refine ⟨some ⟨w4.heap.size, 0, none⟩, n, rfl, ?_, Lat.alloc _ _⟩
    rw [HZ.out]
    exact Sl.of_blk' (t := 3) (Blk.new _ _ _) (by simp)
   ·have HZ := Lib.hid hm0
    have HN := Lib.hid h0
    have h0' : ((nl : Int) == 0) = false := by simp; omega
    clear h0 hm0
    go_wp2_with fail
    go_meet
    have hnn := HN.out
    subst hnn
    exact ⟨Al, cl, rfl, by rw [← HZ.out]; exact HL.out.later L4, Lat.refl _⟩
 case rest =>
  obtain ⟨A3, cl3, rfl, hl3, l5⟩ := hcut
  obtain ⟨bl, ol, rfl, _⟩ := hl3.plain hn1
  have K5 := K5.later l5
  have K8 := K8.later l5
  have L5 := L4.trans l5
  clear l5 L4
  have hEQ : ((n : Int) != n) = false := by simp
  have hMb : ∀ x ∈ M, 0 ≤ x ∧ x ≤ 1000000000 := fun x hx => by have := HM0.out x hx; omega
  have hMs' : ¬ s < M.sum := by omega
  obtain ⟨sm, hsm⟩ : ∃ sm, M.sum = sm := ⟨_, rfl⟩
  have HH : ∀ w', Lat wc w' → Calls Tryz.prog 30 #[.slice (some ⟨bl, ol, none⟩) n cl3, .func (.func 44) #[] #[.pointer (some ⟨w.heap.size, 0, none⟩)]] w' (fun e w'' => e = .returned (.bool false) ∧ w' = w'') := fun w' h => by
   have := qGvHas (outS s) w.heap.size (some ⟨bl, ol, none⟩) n cl3 M w' (hl3.later h) (by omega) (fun x hx => give1_in s w.heap.size x w' (HM0.out x hx).1 (HM0.out x hx).2 ((K5.later h).cell 0))
   rw [HA.out] at this
   exact this
  have HS : ∀ w', Lat wc w' → Calls Tryz.prog 31 #[.slice (some ⟨bl, ol, none⟩) n cl3] w' (fun e w'' => e = .returned (.int .i64 sm) ∧ w' = w'') := fun w' h => by
   have := qSum_any (some ⟨bl, ol, none⟩) n cl3 M w' (hl3.later h) (by omega) hMb
   rw [hsm] at this
   exact this
  rw [hsm] at hMs'
  have e5 := K5.ever (i := 0) rfl
  have L0 := Lat.drew wc
  clear hMb
  go_upto_region 6 with (fail)
  go_region_held3 (fun w' => Lat wc w') (first | (with_reducible assumption))
   (first
     | (have _h := HH; go_at_call 30; (with_reducible refine (HH _ ?_).mono ?_); (with_reducible assumption); rintro e x2 ⟨rfl, rfl⟩; clear HH _h)
     | (have _h := HS; go_at_call 31; (with_reducible refine (HS _ ?_).mono ?_); (with_reducible assumption); rintro e x3 ⟨rfl, rfl⟩; clear HS _h))
  obtain ⟨w7, hw7⟩ : ∃ Z, wc.drew = Z := ⟨_, rfl⟩
  have l7 : Lat wc w7 := hw7 ▸ Lat.drew wc
  rw [hw7]
  have L7 := L5.trans l7
  have K5 := K5.later l7
  have K8 := K8.later l7
  have hl3 := hl3.later l7
  clear hw7 L5 l7 L0
  clear hEQ hMs' e5
  go_upto_region 9 with (fail)
  refine name1 (Q := fun W => Code.wp _ _ _ _ W) ?_
  intro w8 l8 hs8 kr
  obtain ⟨r, hr⟩ : ∃ z, w7.heap.size = z := ⟨_, rfl⟩
  have hrw : w7.heap.size ≤ r := by omega
  rw [hr] at kr ⊢
  clear hs8 hr
  go_wp2
  go_loopw [55] (fun i wr => ∃ (j : Nat) (x1 x2 : Value), j ≤ n ∧ i = .int .i64 (j : Nat) ∧ Blk wr r 88 #[x1, x2] ∧ OwnM wr w7.heap.size 90 2 x1 (prs ((P.zip M).take j)) ∧ OwnM wr w7.heap.size 4 1 x2 (bls (List.replicate j true)) ∧ Lat w7 wr) (fun i _ => n - (intOf i).toNat)
  case atStart => exact ⟨0, .slice none 0 0, .slice none 0 0, Nat.zero_le _, rfl, kr, OwnM.nil _ _ _ _, OwnM.nil _ _ _ _, l8⟩
  case round =>
   obtain ⟨j, x1, x2, hj, rfl, hb, ho1, ho2, hlr⟩ := hrel
   by_cases hjn : j < n
   ·as_aux_lemma =>
    have hjI : (j : Int) < (n : Int) := by omega
    obtain ⟨a0, a, rfl, hblk, ha, hcell⟩ := (HP.out.later (L7.trans hlr)).at hjn
    obtain ⟨mi, hmi⟩ : ∃ mi, M[j]? = some mi := ⟨_, List.getElem?_eq_getElem (by omega)⟩
    have HLM : ∀ w', Lat w7 w' → w'.cell? ⟨bl, ol + j, none⟩ = some (.int .i64 mi) := fun w' h => sl_cell (hl3.later h) hmi
    have HZT : Hid (prs ((P.zip M).take (j + 1)) = prs ((P.zip M).take j) ++ [[.int .i64 a, .int .i64 mi]]) := by show _ = _; rw [zip_take ha hmi]; simp [prs]
    have HST : Hid (∀ a9, G12 w7 r x1 x2 (prs ((P.zip M).take j)) (bls (List.replicate j true)) [.int .i64 a, .int .i64 mi] 0 a9 wr.drew) := fun a9 => race_start hrw hb ho1 ho2 hlr
    clear hmi ha hblk hb ho1 ho2
    go_upto_region 12 with (fail)
    rename_i KN hKN
    refine wp_region_ghost (qg12_rows r x1 x2 bl ol n cl3 j a mi) (qg12_base r x1 x2 bl ol n cl3 j a mi _ _ _ _ _ _ _ _ _ _ _ _ _ _ _ _ _ _ _ _ _ _ _ _ _ _ _ _ _ _ _ _ _ _ _ _ _ _ _ _ _ _ _ _ _ _ _ _ _ _ _ _ _ _ _ _ _ _ _ _ _ _ _ _ _ _ _ _ _ _ _ _ _ _ _ _ _ _ _ _ _ _ _ _ _ _ _ _ _ _ _ _ _ _ _ _ _ _ _ _ _ _ _ _ _ _ _ _ _ _ _ _ _) 141 26 qg12_tbl (G12 w7 r x1 x2 (prs ((P.zip M).take j)) (bls (List.replicate j true)) [.int .i64 a, .int .i64 mi]) (by kernel_rfl) (by kernel_rfl) (by kernel_rfl) (by kernel_rfl) (by kernel_rfl) (by kernel_rfl) (by rfl) rfl (base_of (by repeat (first | exact base_nil _ | refine base_consL rfl ?_))) ?_ (qg12_steps w7 r x1 x2 bl ol n cl3 j a mi _ _ _ _ _ _ _ _ _ _ _ _ _ _ _ _ _ _ _ _ _ _ _ _ _ _ _ _ _ _ _ _ _ _ _ _ _ _ _ _ _ _ _ _ _ _ _ _ _ _ _ _ _ _ _ _ _ _ _ _ _ _ _ _ _ _ _ _ _ _ _ _ _ _ _ _ _ _ _ _ _ _ _ _ _ _ _ _ _ _ _ _ _ _ _ _ _ _ _ _ _ _ _ _ _ _ _ _ _ _ _ _ _ (prs ((P.zip M).take j)) (bls (List.replicate j true)) (by simp [prs]; omega) (by simp [bls]; omega) hjI HLM) ?_
    ·exact HST.out _
    ·intro m9 a9 W9 hall9 hsz9 hdf9 hG9 hbs hsl
     refine hKN _ _ ?_
     obtain ⟨T9, df9⟩ := a9
     obtain rfl : df9 = [] := hdf9
     obtain ⟨f, hf, rfl⟩ := spell141 T9 hsz9
     have X9 := fun k v h => (hf k).trans (slot_getD (hbs k v h))
     clear hbs hsl hf hsz9 hKN
     simp only [X9 3 _ rfl, X9 11 _ rfl, X9 12 _ rfl, X9 13 _ rfl, X9 0 _ rfl, X9 1 _ rfl, X9 2 _ rfl, X9 4 _ rfl, X9 5 _ rfl, X9 6 _ rfl, X9 7 _ rfl, X9 8 _ rfl, X9 9 _ rfl, X9 10 _ rfl, X9 14 _ rfl, X9 15 _ rfl, X9 16 _ rfl, X9 17 _ rfl, X9 18 _ rfl, X9 19 _ rfl, X9 20 _ rfl, X9 21 _ rfl, X9 22 _ rfl, X9 23 _ rfl, X9 24 _ rfl, X9 25 _ rfl, X9 26 _ rfl, X9 27 _ rfl, X9 28 _ rfl, X9 29 _ rfl, X9 30 _ rfl, X9 31 _ rfl, X9 32 _ rfl, X9 33 _ rfl, X9 34 _ rfl, X9 35 _ rfl, X9 36 _ rfl, X9 37 _ rfl, X9 38 _ rfl, X9 39 _ rfl, X9 40 _ rfl, X9 41 _ rfl, X9 42 _ rfl, X9 43 _ rfl, X9 44 _ rfl, X9 45 _ rfl, X9 46 _ rfl, X9 47 _ rfl, X9 48 _ rfl, X9 49 _ rfl, X9 50 _ rfl, X9 51 _ rfl, X9 52 _ rfl, X9 53 _ rfl, X9 54 _ rfl, X9 55 _ rfl, X9 56 _ rfl, X9 57 _ rfl, X9 58 _ rfl, X9 59 _ rfl, X9 84 _ rfl, X9 85 _ rfl, X9 86 _ rfl, X9 87 _ rfl, X9 88 _ rfl, X9 89 _ rfl, X9 90 _ rfl, X9 91 _ rfl, X9 92 _ rfl, X9 93 _ rfl, X9 94 _ rfl, X9 95 _ rfl, X9 96 _ rfl, X9 97 _ rfl, X9 98 _ rfl, X9 99 _ rfl, X9 100 _ rfl, X9 101 _ rfl, X9 102 _ rfl, X9 103 _ rfl, X9 104 _ rfl, X9 105 _ rfl, X9 106 _ rfl, X9 107 _ rfl, X9 108 _ rfl, X9 109 _ rfl, X9 110 _ rfl, X9 111 _ rfl, X9 112 _ rfl, X9 113 _ rfl, X9 114 _ rfl, X9 115 _ rfl, X9 116 _ rfl, X9 117 _ rfl, X9 118 _ rfl, X9 119 _ rfl, X9 120 _ rfl, X9 121 _ rfl, X9 122 _ rfl, X9 123 _ rfl, X9 124 _ rfl, X9 125 _ rfl, X9 126 _ rfl, X9 127 _ rfl, X9 128 _ rfl, X9 129 _ rfl, X9 130 _ rfl, X9 131 _ rfl, X9 132 _ rfl, X9 133 _ rfl, X9 134 _ rfl, X9 135 _ rfl, X9 136 _ rfl, X9 137 _ rfl, X9 138 _ rfl, X9 139 _ rfl, X9 140 _ rfl]
     clear X9
     obtain ⟨W9', hW9⟩ : ∃ Z, W9 = Z := ⟨_, rfl⟩
     subst hW9
     have hE := RaceG.blk hG9
     obtain ⟨y1, y2, hby, t1, _, t2, _⟩ := hE
     obtain ⟨v', hv1, hv2⟩ := RaceG.p1 hG9 (hall9 13 (by decide))
     obtain rfl : y1 = v' := Option.some.inj ((t1 (hall9 22 (by decide))).symm.trans hv1)
     obtain ⟨v'', hv3, hv4⟩ := RaceG.q1 hG9 (hall9 19 (by decide))
     obtain rfl : y2 = v'' := Option.some.inj ((t2 (hall9 25 (by decide))).symm.trans hv3)
     have hl9 := RaceG.lat hG9
     clear hG9 hall9 t1 t2 hv1 hv3 HST HLM
     go_wp2
     go_roundw
     case rel =>
      have HRel : ∃ (j' : Nat) (x1' x2' : Value), j' ≤ n ∧ Value.int .i64 ((j : Int) + 1) = .int .i64 (j' : Nat) ∧ Blk W9 r 88 #[x1', x2'] ∧ OwnM W9 w7.heap.size 90 2 x1' (prs ((P.zip M).take j')) ∧ OwnM W9 w7.heap.size 4 1 x2' (bls (List.replicate j' true)) ∧ Lat w7 W9 :=
       ⟨j + 1, y1, y2, by omega, by go_num, hby, by rw [HZT.out]; exact hv2, by rw [rep_snoc]; exact hv4, hl9⟩
      first | exact HRel | ((repeat apply Exists.intro); (refine ⟨HRel, ?_⟩); (repeat' apply And.intro) <;> rfl)
     case measure => simp [intOf]; omega
   ·as_aux_lemma =>
    obtain rfl : n = j := by omega
    clear hl3 hrw kr l8
    rw [List.take_of_length_le (by rw [List.length_zip]; omega)] at ho1
    have hGO := Lib.hid (goes_start hPn hM hMs0 HR.out)
    have hXl : (P.zip M).length = n := by rw [List.length_zip]; omega
    have hXb : ∀ y ∈ P.zip M, 0 ≤ y.1 ∧ y.1 ≤ 1000000000 := fun y hy => (census_iff.1 HC.out).2.1 y.1 (List.of_mem_zip hy).1
    have hXm : ∀ i, 0 ≤ lX (P.zip M) i := fun i => by
     rw [(pX_zip (by omega) i).2]
     unfold atI
     cases hq : M[i]? with
     | none => exact Int.le_refl _
     | some y => exact (HM0.out y (List.mem_of_getElem? hq)).1
    revert hGO ho1 hXl hXb hXm
    generalize P.zip M = XS
    intro ho1 hGO hXl hXb hXm
    obtain ⟨gR, cR, rfl, hBR, hwR, hcR⟩ := own_one ho1 (by simp [prs]; omega) (prs_one _)
    obtain ⟨gB, cB, rfl, hBB, hwB, hcB⟩ := own_one ho2 (by simp [bls]; omega) (bls_one _)
    have e1 : (prs XS).length = n := by simp [prs]; omega
    have e2 : (bls (List.replicate n true)).length = n := by simp [bls]
    rw [e1] at hb hcR
    rw [e2] at hb hcB
    have hSET : SetIs wr r gR gB n cR cB XS (List.replicate n true) := ⟨hb, hBR, hBB, hXl, by simp⟩
    have K5w := K5
    have K8w := K8
    have K5 := K5.later (hlr.trans (Lat.refl _))
    have hmk := run_make_nums (P := Tryz.prog) (t := 29) (e := 3) (k := .i64) (by_ := 8) Tryz.underlying29 (by kernel_rfl) (n : Int) n rfl (by omega) (by omega)
    clear hb ho1 ho2 hBR hBB hcR hcB e1 e2 hM hMs0 hPn HM0 HC HR HL HA
    go_wp2_with fail
    refine name2 (Q := fun W => Code.wp _ _ _ _ W) ?_
    intro wA lA hsA kS kA
    obtain ⟨gS, hgS⟩ : ∃ z, wr.heap.size = z := ⟨_, rfl⟩
    rw [hgS] at kS kA ⊢
    have hS0 : RowN wA gS n (List.replicate n 0) := by
     have h9 := RowN.of_blk (W := wA) (g := gS) (xs := List.replicate n 0) kS
     rw [List.length_replicate] at h9
     exact h9
    replace hSET := hSET.later lA
    have LA := hlr.trans lA
    have K5 := K5.later lA
    have hwS : w7.heap.size ≤ gS := by rw [← hgS]; exact hlr.size
    have h58 : w.heap.size + 1 < w7.heap.size := K8w.lt
    clear hgS hsA lA hmk kS hlr
    go_step3
    have d5 := K5.cell 0
    clear K5
    have K5 := K5w
    have K8 := K8w
    go_wp2
    clear d5
    go_loopw [15] (fun t wr => ∃ (bs : List Bool) (S : List Int) (o : Int), t = .int .i64 o ∧ GoesQ k (pX XS) (lX XS) R s n bs S o ∧ SetIs wr r gR gB n cR cB XS bs ∧ Blk wr (gS + 1) 47 #[.slice (some ⟨gS, 0, none⟩) n n, .slice none 0 0, .int .i64 0] ∧ RowN wr gS n S ∧ Lat w7 wr) (fun t _ => (intOf t).toNat)
    case atStart => exact ⟨_, _, s, rfl, hGO.out, hSET, kA, hS0, LA⟩
    case round =>
     clear hGO hSET kA hS0 LA
     obtain ⟨bs, S, o, rfl, hg, hset, haw, hS, hl2⟩ := hrel
     have hos := hg.o1
     have hwr := hl2.size
     have K5r := K5.later hl2
     have K8r := K8.later hl2
     have Lr := L7.trans hl2
     have HGQ := Lib.hid hg
     clear hg
     by_cases ho : 0 < o
     ·by_cases hz : ((memL bs n).map (pX XS)).sum = 0
      ·as_aux_lemma =>
       have HRN : Hid (R = none) := by show _ = _; rw [← HGQ.out.rest]; exact quoGo_none ho hz
       have HCF := claims_first XS bs r gR gB n cR cB o k wr hset (by omega) hXb hz
       clear hz hset
       go_wp2_with fail
       refine HCF.mono ?_
       rintro e wf ⟨rfl, lf⟩
       have K8f := K8r.later lf
       have Lf := Lr.trans lf
       clear HCF lf K8r Lr
       go_wp2_with (refine wpList_put rfl 47 (.tmp 8) (.tmp 101) (by rfl) (by rfl) (w.heap.size + 1) (by rfl) #[.slice none 0 0, .slice none 0 0, .int .i64 0] (by rfl) K8f (by rfl) awInfo3 (by simp [Value.oneCell']) ?_; intro wp hput; have KS := hput.blk; have LP := hput.lat w Lf (by omega))
       have e0 := KS.cell 0
       have e1 := KS.cell 1
       have e2 := KS.cell 2
       rw [Exit.noGoto_ret]
       refine bodyPost_ret (v := .tuple #[.agg #[.slice none 0 0, .slice none 0 0, .int .i64 0], .int .i64 9]) (by simp [results, Tryz.results19, go_sem, e0, e1, e2]) rfl ?_
       rw [HRN.out]
       exact ⟨LP, rfl⟩
      ·have hz0 := sumM_in hXb bs (show n ≤ 60 by omega)
       have hz' : 0 < ((memL bs n).map (pX XS)).sum := by omega
       have hz1 := hz0.2
       have HCS := claims_some XS bs r gR gB n cR cB o k wr hset (by omega) hXb hk1 hk4 (by omega) (by omega) hz'
       obtain ⟨r1, r2, r3, r4⟩ := qnd_range (k := k) hz' (by omega) (show 1 ≤ o by omega) (by omega)
       have hmlen := memL_len bs n
       have hmne : 0 < (memL bs n).length := by
        rcases Nat.eq_zero_or_pos (memL bs n).length with h9 | h9
        ·rw [List.eq_nil_of_length_eq_zero h9] at hz'; simp at hz'
        ·exact h9
       obtain ⟨N, hN⟩ : ∃ N, quoN k ((memL bs n).map (pX XS)).sum o = N := ⟨_, rfl⟩
       obtain ⟨D, hD⟩ : ∃ D, quoD k o = D := ⟨_, rfl⟩
       rw [hN] at HCS r1 r2
       rw [hD] at HCS r3 r4
       have HN := Lib.hid hN
       have HD := Lib.hid hD
       have HZ := Lib.hid hz
       clear hz hz0 hz' hz1 hN hD
       go_wp2_with fail
       refine HCS.mono ?_
       rintro e w2 ⟨v, rfl, hown, l2⟩
       obtain ⟨gC, cC, rfl, hRC, hwC, hcC⟩ := own_one hown (by rw [clR_len]; exact hmne) (clR_one _ _ _ _ _)
       rw [clR_len] at hcC ⊢
       clear HCS hown
       go_wp2_with fail
       refine (qBHas_any lowV gC (memL bs n).length cC _ w2 hRC (clR_len _ _ _ _ _) (by omega) (lowV_call _ _ _ _ _)).mono ?_
       rintro e w3 ⟨rfl, l3⟩
       rw [lowV_any (by omega)]
       replace hRC := hRC.later l3
       have l23 := l2.trans l3
       replace hset := hset.later l23
       replace haw := haw.later l23
       replace hS := hS.later l23
       have hl3 := hl2.trans l23
       replace K8r := K8r.later l23
       replace Lr := Lr.trans l23
       clear l2 l3 l23 hl2 K5r
       by_cases hq : quoLow (pX XS) (lX XS) (memL bs n) N D = []
       ·as_aux_lemma =>
        rw [decide_eq_true hq]
        have hok : EndOk (pX XS) (memL bs n) n o N D := ⟨memL_asc _ _, fun i hi => (mem_memL.1 hi).1, by omega, fun i _ => pX_in hXb i, r1, r2, r3, r4, by omega, by omega⟩
        have HE := end_any (pX XS) (lX XS) (memL bs n) n o N D S gS n gC cC hok w3 hS hRC hcC
        have HRQ : Hid (quoEnd (pX XS) (memL bs n) S o N D = R) := by show _ = _; rw [← HGQ.out.rest]; exact (quoGo_end ho HZ.out HN.out HD.out hq).symm
        have hsC := hRC.lt
        rw [HRQ.out] at HE
        clear hok hq hset
        go_wp2_with (refine wpList_get rfl 47 (.tmp 14) (by rfl) (gS + 1) (by rfl) haw _ Tryz.underlying47 rfl awInfo3 ?_)
        refine HE.mono ?_
        rintro e w4 ⟨hl4, hpost⟩
        have K8f := K8r.keepP hl4 (by omega)
        have Lf : Lat w w4 := LatP.lat (M := fun q => q = gS ∨ q = gC) Lr hl4 (fun q e => by have := Lr.size; omega)
        clear HE haw hRC hS K8r
        cases R with
        | none =>
          subst hpost
          go_wp2_with (refine wpList_put rfl 47 (.tmp 8) (.tmp 109) (by rfl) (by rfl) (w.heap.size + 1) (by rfl) #[.slice none 0 0, .slice none 0 0, .int .i64 0] (by rfl) K8f (by rfl) awInfo3 (by simp [Value.oneCell']) ?_; intro wp hput; have KS := hput.blk; have LP := hput.lat w Lf (by omega))
          have e0 := KS.cell 0
          have e1 := KS.cell 1
          have e2 := KS.cell 2
          rw [Exit.noGoto_ret]
          refine bodyPost_ret (v := .tuple #[.agg #[.slice none 0 0, .slice none 0 0, .int .i64 0], .int .i64 9]) (by simp [results, Tryz.results19, go_sem, e0, e1, e2]) rfl ?_
          exact ⟨LP, rfl⟩
        | some A =>
          obtain ⟨At, ct, rfl, q1, q2, q3, q4⟩ := hpost
          obtain ⟨mt, hmt⟩ : ∃ z, A.tied.length = z := ⟨_, rfl⟩
          obtain ⟨lf, hlf⟩ : ∃ z, A.left = z := ⟨_, rfl⟩
          rw [hmt] at q2 q3
          rw [hmt, hlf]
          have HMT := Lib.hid hmt
          have HLF := Lib.hid hlf
          have Q1 := Lib.hid q1
          have Q2 := Lib.hid q2
          have Q4 := Lib.hid q4
          clear hmt hlf q1 q2 q4
          go_wp2_with (refine wpList_put rfl 47 (.tmp 8) (.tmp 109) (by rfl) (by rfl) (w.heap.size + 1) (by rfl) #[.slice (some ⟨gS, 0, none⟩) n n, .slice At mt ct, .int .i64 lf] (by rfl) K8f (by rfl) awInfo3 (by simp [Value.oneCell']) ?_; intro wp hput; have KS := hput.blk; have LP := hput.lat w Lf (by omega); have RS := hput.rowN Q1.out (by omega); have ST := hput.slk Q2.out (fun a e => by have h1 := Q4.out a e; have := Lr.size; omega))
          have e0 := KS.cell 0
          have e1 := KS.cell 1
          have e2 := KS.cell 2
          rw [Exit.noGoto_ret]
          refine bodyPost_ret (v := .tuple #[.agg #[.slice (some ⟨gS, 0, none⟩) n n, .slice At mt ct, .int .i64 lf], .int .i64 0]) (by simp [results, Tryz.results19, go_sem, e0, e1, e2]) rfl ?_
          have em1 := HMT.out
          have em2 := HLF.out
          subst em1 em2
          exact ⟨LP, gS, n, At, ct, rfl, RS, ST, q3, by omega, fun a e => by have h1 := Q4.out a e; have := Lr.size; omega⟩
       ·as_aux_lemma =>
        rw [decide_eq_false hq]
        have hlp := lowq_pos (fun i => (pX_in hXb i).1) hXm (show 0 ≤ D by omega) hq
        obtain ⟨hg2, _⟩ := HGQ.out.next hXm ho HZ.out HN.out HD.out hq
        have HG2 := Lib.hid hg2
        have hlow := HGQ.out.low
        have hLS := fun j => lowT_sum (q := fun i => decide (pX XS i * D < lX XS i * N)) (c := memL bs n) (f := lX XS) (fun i _ => hXm i) j
        have HLS := Lib.hid hLS
        have HLT : Hid (∀ i ∈ memL bs n, i < n) := fun i hi => (mem_memL.1 hi).1
        have HXm := Lib.hid hXm
        obtain ⟨c, hc⟩ : ∃ c, memL bs n = c := ⟨_, rfl⟩
        have HC := Lib.hid hc
        obtain ⟨m, hm⟩ : ∃ m, c.length = m := ⟨_, rfl⟩
        rw [hc] at hRC hcC hlow hlp HG2 HLT HLS hmlen ⊢
        rw [hm] at hcC hmlen ⊢
        have HM := Lib.hid hm
        clear hg2 hmne hc hm hLS hXm hq HGQ
        obtain ⟨WO, rfl⟩ : ∃ W1, W1 = wr := ⟨wr, rfl⟩
        go_wp2
        go_loopw [113, 15] (fun it tt wx => ∃ j : Nat, j ≤ m ∧ it = .int .i64 (j : Nat) ∧ tt = .int .i64 (o - ((lowT (fun i => decide (pX XS i * D < lX XS i * N)) c j).map (lX XS)).sum) ∧ SetIs wx r gR gB n cR cB XS (clearB bs (lowT (fun i => decide (pX XS i * D < lX XS i * N)) c j)) ∧ Blk wx (gS + 1) 47 #[.slice (some ⟨gS, 0, none⟩) n n, .slice none 0 0, .int .i64 0] ∧ RowN wx gS n (putAt S (lowT (fun i => decide (pX XS i * D < lX XS i * N)) c j) (lX XS)) ∧ RowB wx gC 101 20 (clR (pX XS) (lX XS) D N c) ∧ Lat w7 wx) (fun it _ _ => m - (intOf it).toNat)
        case atStart => exact ⟨0, Nat.zero_le _, rfl, by simp [lowT], by simpa [lowT, clearB] using hset, haw, by simpa [lowT, putAt] using hS, hRC, hl3⟩
        case round =>
         clear hset haw hS hRC hl3 K8r Lr
         obtain ⟨wx, rfl⟩ : ∃ W1, W1 = wr := ⟨wr, rfl⟩
         obtain ⟨j, hj, rfl, rfl, hset, haw, hS, hRC, hl3⟩ := hrel
         by_cases hjm : j < m
         ·as_aux_lemma =>
          obtain ⟨i, hi⟩ : ∃ i, c[j]? = some i := ⟨_, List.getElem?_eq_getElem (by rw [HM.out]; exact hjm)⟩
          have hin := HLT.out i (List.mem_of_getElem? hi)
          have hinI : (i : Int) < (n : Int) := by omega
          have hi0 : (0 : Int) ≤ (i : Int) := by omega
          have hjI : (j : Int) < (m : Int) := by omega
          have hli := HXm.out i
          have hs0 := (HLS.out j).1
          have hs1 := HLS.out (j + 1)
          have HI := Lib.hid hi
          have hrg := hRC.range (clR_at (p := pX XS) (l := lX XS) (d := D) (n := N) hi)
          obtain ⟨X, hX⟩ : ∃ X, clV (pX XS) (lX XS) D N i = X := ⟨_, rfl⟩
          obtain ⟨li, hlie⟩ : ∃ z, lX XS i = z := ⟨_, rfl⟩
          have HLI := Lib.hid hlie
          rw [hlie] at hli
          have hx1 : X.toArray[1]? = some (.int .i64 li) := by rw [← hX, ← hlie]; rfl
          have hx2 : X.toArray[2]? = some (.int .i64 (i : Nat)) := by rw [← hX]; rfl
          have hx3 : X.toArray[3]? = some (.int .i64 (pX XS i * D / N)) := by rw [← hX]; rfl
          have hxs : (Tryz.prog.info? 101).map (·.size) = some X.length := by rw [← hX]; exact claimSize
          have HXa : Hid ((Tryz.prog.info? 101).map (·.size) = some X.toArray.size) := by show _ = _; rw [← hX]; exact claimSize
          have HXz : Hid (20 = X.toArray.size) := by show _ = _; rw [← hX]; rfl
          have HXo : Hid (X.toArray.all (·.oneCell') = true) := by show _ = _; rw [← hX]; exact clV_all _ _ _ _ _
          rw [hX] at hrg
          have HX1 := Lib.hid hx1
          have HX2 := Lib.hid hx2
          have HX3 := Lib.hid hx3
          obtain ⟨g9, hg9⟩ : ∃ z, wx.heap.size = z := ⟨_, rfl⟩
          have hS9 : gS + 1 < g9 := by rw [← hg9]; exact haw.lt
          have hB9 : gB < g9 := by rw [← hg9]; exact hset.isin.lt
          have K0 : Blk (wx.alloc (.cells #[.int .i64 0, .int .i64 0, .int .i64 0, .int .i64 0, .int .u64 0, .int .u64 0, .int .u64 0, .int .u64 0, .int .u64 0, .int .u64 0, .int .u64 0, .int .u64 0, .int .u64 0, .int .u64 0, .int .u64 0, .int .u64 0, .int .u64 0, .int .u64 0, .int .u64 0, .int .u64 0] 101)) g9 101 #[.int .i64 0, .int .i64 0, .int .i64 0, .int .i64 0, .int .u64 0, .int .u64 0, .int .u64 0, .int .u64 0, .int .u64 0, .int .u64 0, .int .u64 0, .int .u64 0, .int .u64 0, .int .u64 0, .int .u64 0, .int .u64 0, .int .u64 0, .int .u64 0, .int .u64 0, .int .u64 0] := by rw [← hg9]; exact Blk.new _ _ _
          clear hX hx1 hx2 hx3 hi hlie
          go_upto_region 25 with (first
           | (refine wpList_load_mid (by rfl) 101 (.tmp 115) (by rfl) gC (j * 20) (by rfl) X _ hrg Tryz.underlying101 rfl hxs ?_)
           | (refine wpList_put rfl 101 (.tmp 19) (.tmp 116) (by rfl) (by rfl) g9 (by rw [← hg9]; rfl) X.toArray (by rfl) K0 HXz.out HXa.out HXo.out ?_; intro W1 hput; have k9 := hput.blk; have la := hput.lat wx (Lat.alloc _ _) (by rw [hg9]; exact Nat.le_refl _)))
          try rw [hg9]
          replace hset := hset.later la
          replace haw := haw.later la
          replace hS := hS.later la
          replace hRC := hRC.later la
          replace hl3 := hl3.trans la
          clear hrg hxs hg9 la hput K0 HXz HXo
          go_wp2_with (refine wpList_get rfl 101 (.tmp 19) (by rfl) g9 (by rfl) k9 _ Tryz.underlying101 rfl HXa.out ?_)
          refine (below_gen X.toArray li (pX XS i * D / N) HX1.out HX3.out HXa W1).mono ?_
          rintro e W2 ⟨rfl, la⟩
          replace hset := hset.later la
          replace haw := haw.later la
          replace hS := hS.later la
          replace hRC := hRC.later la
          replace hl3 := hl3.trans la
          replace k9 := k9.later la
          clear la
          by_cases hlw : pX XS i * D < lX XS i * N
          ·as_aux_lemma =>
           have hb9 : decide (pX XS i * D / N < li) = true := by rw [← HLI.out]; exact decide_eq_true ((whole_below (by omega)).2 hlw)
           rw [hb9]
           have HLN := Lib.hid (lowT_yes (q := fun i => decide (pX XS i * D < lX XS i * N)) HI.out (decide_eq_true hlw))
           have hsn : ((lowT (fun i => decide (pX XS i * D < lX XS i * N)) c (j + 1)).map (lX XS)).sum = ((lowT (fun i => decide (pX XS i * D < lX XS i * N)) c j).map (lX XS)).sum + li := by rw [HLN.out, List.map_append, List.sum_append, ← HLI.out]; simp
           have HSN := Lib.hid hsn
           rw [hsn] at hs1
           obtain ⟨sj, hsj⟩ : ∃ z, ((lowT (fun i => decide (pX XS i * D < lX XS i * N)) c j).map (lX XS)).sum = z := ⟨_, rfl⟩
           rw [hsj] at hs0 hs1 HSN ⊢
           obtain ⟨oj, hoj⟩ : ∃ z, o - sj = z := ⟨_, rfl⟩
           rw [hoj]
           have w1 : wrap64 (oj - li) = oj - li := IntWalk.wrap64_in _ (by omega)
           have w2 : IntKind.i64.wrap (oj - li) = oj - li := IntWalk.i64_in _ (by omega)
           have HOJ : Hid (oj - li = o - (sj + li)) := by show _ = _; omega
           have hgSB : gS ≠ gB := by
            obtain ⟨_, hb1, _⟩ := hS
            obtain ⟨_, _, hb2, _⟩ := hset.isin
            exact blk_apart hb1 hb2 (by decide)
           have hAB : gS + 1 ≠ gB := by
            obtain ⟨_, _, hb2, _⟩ := hset.isin
            exact blk_apart haw hb2 (by decide)
           have hrS : r ≠ gS := by
            obtain ⟨_, hb1, _⟩ := hS
            exact blk_apart hset.blk hb1 (by decide)
           have hrB : r ≠ gB := by
            obtain ⟨_, _, hb2, _⟩ := hset.isin
            exact blk_apart hset.blk hb2 (by decide)
           have hCS : gC ≠ gS := by
            obtain ⟨_, hb1, _⟩ := hS
            obtain ⟨_, _, hb2, _⟩ := hRC
            exact blk_apart hb2 hb1 (by decide)
           have hCB : gC ≠ gB := rows_apart hRC hset.isin (by decide)
           have c14 : ∀ w', LatP (fun q => q = gS ∨ q = gB) W2 w' → w'.cell? ⟨gS + 1, 0, none⟩ = some (.slice (some ⟨gS, 0, none⟩) n n) := fun w' h => (haw.keepP h (by omega)).cell 0
           have c91 : ∀ w', LatP (fun q => q = gS ∨ q = gB) W2 w' → w'.cell? ⟨g9, 1, none⟩ = some (.int .i64 li) := fun w' h => ((k9.keepP h (by omega)).cell 1).trans HX1.out
           have c92 : ∀ w', LatP (fun q => q = gS ∨ q = gB) W2 w' → w'.cell? ⟨g9, 2, none⟩ = some (.int .i64 (i : Int)) := fun w' h => ((k9.keepP h (by omega)).cell 2).trans HX2.out
           have cr1 : ∀ w', LatP (fun q => q = gS ∨ q = gB) W2 w' → w'.cell? ⟨r, 1, none⟩ = some (.slice (some ⟨gB, 0, none⟩) n cB) := fun w' h => (hset.blk.keepP h (by omega)).cell 1
           have hpl : i < (putAt S (lowT (fun i => decide (pX XS i * D < lX XS i * N)) c j) (lX XS)).length := by
            have := HG2.out.lenS
            rw [putAt_length] at this
            rw [putAt_length]
            omega
           obtain ⟨x0, _, s1S, s2S⟩ := (hS.later (Lat.drew W2)).slot (i := i) hpl
           obtain ⟨bv, hbv⟩ : ∃ z, (clearB bs (lowT (fun i => decide (pX XS i * D < lX XS i * N)) c j))[i]? = some z := ⟨_, List.getElem?_eq_getElem (by rw [hset.lenb]; exact hin)⟩
           have s1B : W2.drew.cell? ⟨gB, i, none⟩ = some (.bool bv) := by
            have h := (hset.later (Lat.drew W2)).isin.range (bls_at hbv) 0 (.bool bv) rfl
            rw [Nat.mul_one, Nat.add_zero] at h
            exact h
           have s2B : W2.drew.frozen? ⟨gB, i, none⟩ = false := by
            obtain ⟨_, _, hb2, _⟩ := (hset.later (Lat.drew W2)).isin
            exact hb2.frozen i
           have hlS : LatP (fun q => q = gS ∨ q = gB) W2 (W2.drew.setCell ⟨gS, i, none⟩ (.int .i64 li)) := ((Lat.drew W2).p _).trans ((latP_setQ _ _ _ _).wider (fun q h => .inl h))
           have hlB : LatP (fun q => q = gS ∨ q = gB) W2 ((W2.drew.setCell ⟨gS, i, none⟩ (.int .i64 li)).setCell ⟨gB, i, none⟩ (.bool false)) := hlS.trans ((latP_setQ _ _ _ _).wider (fun q h => .inr h))
           have hlD : LatP (fun q => q = gS ∨ q = gB) W2 W2.drew := (Lat.drew W2).p _
           have hd1 := hS.later (Lat.drew W2)
           have hd2 := hd1.set (i := i) hpl li
           have hd3 := hd2.keepP (latP_setQ (W2.drew.setCell ⟨gS, i, none⟩ (.int .i64 li)) gB i (.bool false)) hgSB
           have he1 := (hset.later (Lat.drew W2)).row hd1 (latP_setQ W2.drew gS i (.int .i64 li))
           have d3a : (W2.setCell ⟨gS, i, none⟩ (.int .i64 li)).drew.cell? ⟨gB, i, none⟩ = some (.bool bv) := by
            have h := he1.isin.range (bls_at hbv) 0 (.bool bv) rfl
            rw [Nat.mul_one, Nat.add_zero] at h
            exact h
           have d3b : (W2.setCell ⟨gS, i, none⟩ (.int .i64 li)).cell? ⟨gB, i, none⟩ = some (.bool bv) := d3a
           have f3a : (W2.setCell ⟨gS, i, none⟩ (.int .i64 li)).drew.frozen? ⟨gB, i, none⟩ = false := by
            obtain ⟨_, _, hb2, _⟩ := he1.isin
            exact hb2.frozen i
           have f3b : (W2.setCell ⟨gS, i, none⟩ (.int .i64 li)).frozen? ⟨gB, i, none⟩ = false := f3a
           have hgBS : gB ≠ gS := hgSB.symm
           have he2 := he1.clear hin
           rw [← HLI.out, ← putAt_snoc, ← HLN.out, HLI.out] at hd3
           rw [← clearB_snoc, ← HLN.out] at he2
           have haw2 := haw.keepP hlB (by omega)
           have hRC2 := hRC.kept (hlB.block _ hRC.lt (by omega))
           have k92 := k9.keepP hlB (by omega)
           have hl4 : Lat w7 ((W2.drew.setCell ⟨gS, i, none⟩ (.int .i64 li)).setCell ⟨gB, i, none⟩ (.bool false)) := LatP.lat (M := fun q => q = gS ∨ q = gB) hl3 hlB (fun q e => by omega)
           clear hset haw hS hRC hl3 k9 hd1 hd2 he1 hsn hsj hoj hbv hpl
           go_upto_region 26 with (fail)
           refine wp_region_held_drew (S := fun w' => LatP (fun q => q = gS ∨ q = gB) W2 w') (by kernel_rfl) hlD (fun hHeld => ?_)
           refine wpAnyH_take (i := 0) (v := .pointer (some ⟨gS + 1, 0, none⟩)) rfl (by kernel_rfl) (by kernel_rfl) (by kernel_rfl) (fun _ _ _ h => h) (Or.inl ⟨by rfl, by intro w' hS; go_simp⟩) hHeld ?_
           simp only [Act.put, List.getElem_toArray, List.getElem_cons_succ, List.getElem_cons_zero, List.setIfInBounds_toArray, List.set_cons_zero, List.set_cons_succ]
           refine wpAnyH_take (i := 1) (v := .slice (some ⟨gS, 0, none⟩) n n) rfl (by kernel_rfl) (by kernel_rfl) (by kernel_rfl) (fun _ _ _ h => h) (Or.inl ⟨by rfl, by intro w' hS; have hc := c14 w' hS; go_simp⟩) hHeld ?_
           simp only [Act.put, List.getElem_toArray, List.getElem_cons_succ, List.getElem_cons_zero, List.setIfInBounds_toArray, List.set_cons_zero, List.set_cons_succ]
           refine wpAnyH_take (i := 2) (v := .pointer (some ⟨g9, 2, none⟩)) rfl (by kernel_rfl) (by kernel_rfl) (by kernel_rfl) (fun _ _ _ h => h) (Or.inl ⟨by rfl, by intro w' hS; go_simp⟩) hHeld ?_
           simp only [Act.put, List.getElem_toArray, List.getElem_cons_succ, List.getElem_cons_zero, List.setIfInBounds_toArray, List.set_cons_zero, List.set_cons_succ]
           refine wpAnyH_take (i := 3) (v := .int .i64 (i : Int)) rfl (by kernel_rfl) (by kernel_rfl) (by kernel_rfl) (fun _ _ _ h => h) (Or.inl ⟨by rfl, by intro w' hS; have hc := c92 w' hS; go_simp⟩) hHeld ?_
           simp only [Act.put, List.getElem_toArray, List.getElem_cons_succ, List.getElem_cons_zero, List.setIfInBounds_toArray, List.set_cons_zero, List.set_cons_succ]
           refine wpAnyH_take (i := 4) (v := .pointer (some ⟨r, 0, none⟩)) rfl (by kernel_rfl) (by kernel_rfl) (by kernel_rfl) (fun _ _ _ h => h) (Or.inl ⟨by rfl, by intro w' hS; go_simp⟩) hHeld ?_
           simp only [Act.put, List.getElem_toArray, List.getElem_cons_succ, List.getElem_cons_zero, List.setIfInBounds_toArray, List.set_cons_zero, List.set_cons_succ]
           refine wpAnyH_take (i := 5) (v := .pointer (some ⟨r, 0, none⟩)) rfl (by kernel_rfl) (by kernel_rfl) (by kernel_rfl) (fun _ _ _ h => h) (Or.inl ⟨by rfl, by intro w' hS; go_simp⟩) hHeld ?_
           simp only [Act.put, List.getElem_toArray, List.getElem_cons_succ, List.getElem_cons_zero, List.setIfInBounds_toArray, List.set_cons_zero, List.set_cons_succ]
           refine wpAnyH_take (i := 6) (v := .pointer (some ⟨r, 1, none⟩)) rfl (by kernel_rfl) (by kernel_rfl) (by kernel_rfl) (fun _ _ _ h => h) (Or.inl ⟨by rfl, by intro w' hS; go_simp⟩) hHeld ?_
           simp only [Act.put, List.getElem_toArray, List.getElem_cons_succ, List.getElem_cons_zero, List.setIfInBounds_toArray, List.set_cons_zero, List.set_cons_succ]
           refine wpAnyH_take (i := 7) (v := .slice (some ⟨gB, 0, none⟩) n cB) rfl (by kernel_rfl) (by kernel_rfl) (by kernel_rfl) (fun _ _ _ h => h) (Or.inl ⟨by rfl, by intro w' hS; have hc := cr1 w' hS; go_simp⟩) hHeld ?_
           simp only [Act.put, List.getElem_toArray, List.getElem_cons_succ, List.getElem_cons_zero, List.setIfInBounds_toArray, List.set_cons_zero, List.set_cons_succ]
           refine wpAnyH_take (i := 8) (v := .pointer (some ⟨g9, 2, none⟩)) rfl (by kernel_rfl) (by kernel_rfl) (by kernel_rfl) (fun _ _ _ h => h) (Or.inl ⟨by rfl, by intro w' hS; go_simp⟩) hHeld ?_
           simp only [Act.put, List.getElem_toArray, List.getElem_cons_succ, List.getElem_cons_zero, List.setIfInBounds_toArray, List.set_cons_zero, List.set_cons_succ]
           refine wpAnyH_take (i := 9) (v := .int .i64 (i : Int)) rfl (by kernel_rfl) (by kernel_rfl) (by kernel_rfl) (fun _ _ _ h => h) (Or.inl ⟨by rfl, by intro w' hS; have hc := c92 w' hS; go_simp⟩) hHeld ?_
           simp only [Act.put, List.getElem_toArray, List.getElem_cons_succ, List.getElem_cons_zero, List.setIfInBounds_toArray, List.set_cons_zero, List.set_cons_succ]
           refine wpAnyH_take (i := 10) (v := .pointer (some ⟨g9, 0, none⟩)) rfl (by kernel_rfl) (by kernel_rfl) (by kernel_rfl) (fun _ _ _ h => h) (Or.inl ⟨by rfl, by intro w' hS; go_simp⟩) hHeld ?_
           simp only [Act.put, List.getElem_toArray, List.getElem_cons_succ, List.getElem_cons_zero, List.setIfInBounds_toArray, List.set_cons_zero, List.set_cons_succ]
           refine wpAnyH_take (i := 11) (v := .pointer (some ⟨g9, 1, none⟩)) rfl (by kernel_rfl) (by kernel_rfl) (by kernel_rfl) (fun _ _ _ h => h) (Or.inl ⟨by rfl, by intro w' hS; go_simp⟩) hHeld ?_
           simp only [Act.put, List.getElem_toArray, List.getElem_cons_succ, List.getElem_cons_zero, List.setIfInBounds_toArray, List.set_cons_zero, List.set_cons_succ]
           refine wpAnyH_take (i := 12) (v := .int .i64 li) rfl (by kernel_rfl) (by kernel_rfl) (by kernel_rfl) (fun _ _ _ h => h) (Or.inl ⟨by rfl, by intro w' hS; have hc := c91 w' hS; go_simp⟩) hHeld ?_
           simp only [Act.put, List.getElem_toArray, List.getElem_cons_succ, List.getElem_cons_zero, List.setIfInBounds_toArray, List.set_cons_zero, List.set_cons_succ]
           refine wpAnyH_take (i := 13) (v := .pointer (some ⟨gS, i, none⟩)) rfl (by kernel_rfl) (by kernel_rfl) (by kernel_rfl) (fun _ _ _ h => h) (Or.inl ⟨by rfl, by intro w' hS; go_simp⟩) hHeld ?_
           simp only [Act.put, List.getElem_toArray, List.getElem_cons_succ, List.getElem_cons_zero, List.setIfInBounds_toArray, List.set_cons_zero, List.set_cons_succ]
           refine wpAnyH_ready (rs := [14]) (by kernel_rfl) (by simp) (AllReadyH.cons rfl (fun K hK => ?_) AllReadyH.nil)
           have d2 := s1S
           have f2 := s2S
           go_simp
           refine hK.out _ _ hlS (fun hHeld1 => ?_)
           clear hK K
           try simp only [Act.put, List.getElem_toArray, List.getElem_cons_succ, List.getElem_cons_zero, List.setIfInBounds_toArray, List.set_cons_zero, List.set_cons_succ]
           refine wpAnyH_take (i := 15) (v := .pointer (some ⟨gB, i, none⟩)) rfl (by kernel_rfl) (by kernel_rfl) (by kernel_rfl) (fun _ _ _ h => h) (Or.inl ⟨by rfl, by intro w' hS; go_simp⟩) hHeld1 ?_
           simp only [Act.put, List.getElem_toArray, List.getElem_cons_succ, List.getElem_cons_zero, List.setIfInBounds_toArray, List.set_cons_zero, List.set_cons_succ]
           refine wpAnyH_ready (rs := [16]) (by kernel_rfl) (by simp) (AllReadyH.cons rfl (fun K hK => ?_) AllReadyH.nil)
           go_simp
           refine hK.out _ _ hlB (fun hHeld2 => ?_)
           clear hK K
           try simp only [Act.put, List.getElem_toArray, List.getElem_cons_succ, List.getElem_cons_zero, List.setIfInBounds_toArray, List.set_cons_zero, List.set_cons_succ]
           refine wpAnyH_done (by kernel_rfl) ?_ _
           obtain ⟨W4, hW4⟩ : ∃ Z, ((W2.setCell ⟨gS, i, none⟩ (.int .i64 li)).setCell ⟨gB, i, none⟩ (.bool false)).drew = Z := ⟨_, rfl⟩
           have q1 : SetIs W4 r gR gB n cR cB XS (clearB bs (lowT (fun i => decide (pX XS i * D < lX XS i * N)) c (j + 1))) := by rw [← hW4]; exact he2
           have q2 : Blk W4 (gS + 1) 47 #[.slice (some ⟨gS, 0, none⟩) n n, .slice none 0 0, .int .i64 0] := by rw [← hW4]; exact haw2
           have q3 : RowN W4 gS n (putAt S (lowT (fun i => decide (pX XS i * D < lX XS i * N)) c (j + 1)) (lX XS)) := by rw [← hW4]; exact hd3
           have q4 : RowB W4 gC 101 20 (clR (pX XS) (lX XS) D N c) := by rw [← hW4]; exact hRC2
           have q5 : Lat w7 W4 := by rw [← hW4]; exact hl4
           have q6 : Blk W4 g9 101 X.toArray := by rw [← hW4]; exact k92
           have c9 := (q6.cell 1).trans HX1.out
           rw [hW4]
           clear hW4 hHeld hHeld1 hHeld2 d2 f2 d3a d3b f3a f3b s1S s2S s1B s2B hlS hlB hlD he2 haw2 hd3 hRC2 hl4 k92 q6 c14 c91 c92 cr1 HG2 HLS HLT HXm
           go_wp2
           go_roundw
           case rel =>
            have HRel : ∃ j' : Nat, j' ≤ m ∧ Value.int .i64 ((j : Int) + 1) = .int .i64 (j' : Nat) ∧ Value.int .i64 (oj - li) = .int .i64 (o - ((lowT (fun i => decide (pX XS i * D < lX XS i * N)) c j').map (lX XS)).sum) ∧ SetIs W4 r gR gB n cR cB XS (clearB bs (lowT (fun i => decide (pX XS i * D < lX XS i * N)) c j')) ∧ Blk W4 (gS + 1) 47 #[.slice (some ⟨gS, 0, none⟩) n n, .slice none 0 0, .int .i64 0] ∧ RowN W4 gS n (putAt S (lowT (fun i => decide (pX XS i * D < lX XS i * N)) c j') (lX XS)) ∧ RowB W4 gC 101 20 (clR (pX XS) (lX XS) D N c) ∧ Lat w7 W4 := ⟨j + 1, by omega, by go_num, by rw [HSN.out, HOJ.out], q1, q2, q3, q4, q5⟩
            first | exact HRel | ((repeat apply Exists.intro); (refine ⟨HRel, ?_⟩); (repeat' apply And.intro) <;> rfl)
           case measure => simp [intOf]; omega
          ·as_aux_lemma =>
           have hb9 : decide (pX XS i * D / N < li) = false := by rw [← HLI.out]; exact decide_eq_false (fun h => hlw ((whole_below (by omega)).1 h))
           rw [hb9]
           have HLN := Lib.hid (lowT_no (q := fun i => decide (pX XS i * D < lX XS i * N)) HI.out (decide_eq_false hlw))
           obtain ⟨oj, hoj⟩ : ∃ z, o - ((lowT (fun i => decide (pX XS i * D < lX XS i * N)) c j).map (lX XS)).sum = z := ⟨_, rfl⟩
           have HOJ : Hid (oj = o - ((lowT (fun i => decide (pX XS i * D < lX XS i * N)) c (j + 1)).map (lX XS)).sum) := by show _ = _; rw [HLN.out]; exact hoj.symm
           rw [hoj]
           clear hoj HG2 HLS HLT HXm k9
           go_wp2
           go_roundw
           case rel =>
            have HRel : ∃ j' : Nat, j' ≤ m ∧ Value.int .i64 ((j : Int) + 1) = .int .i64 (j' : Nat) ∧ Value.int .i64 (oj) = .int .i64 (o - ((lowT (fun i => decide (pX XS i * D < lX XS i * N)) c j').map (lX XS)).sum) ∧ SetIs W2 r gR gB n cR cB XS (clearB bs (lowT (fun i => decide (pX XS i * D < lX XS i * N)) c j')) ∧ Blk W2 (gS + 1) 47 #[.slice (some ⟨gS, 0, none⟩) n n, .slice none 0 0, .int .i64 0] ∧ RowN W2 gS n (putAt S (lowT (fun i => decide (pX XS i * D < lX XS i * N)) c j') (lX XS)) ∧ RowB W2 gC 101 20 (clR (pX XS) (lX XS) D N c) ∧ Lat w7 W2 := ⟨j + 1, by omega, by go_num, by rw [← HOJ.out], by rw [HLN.out]; exact hset, haw, by rw [HLN.out]; exact hS, hRC, hl3⟩
            first | exact HRel | ((repeat apply Exists.intro); (refine ⟨HRel, ?_⟩); (repeat' apply And.intro) <;> rfl)
           case measure => simp [intOf]; omega
         ·as_aux_lemma =>
          obtain rfl : m = j := by omega
          have hla := lowT_all (fun i => decide (pX XS i * D < lX XS i * N)) c (j := m) (by rw [HM.out]; exact Nat.le_refl _)
          rw [hla] at hset hS ⊢
          obtain ⟨o2, ho2⟩ : ∃ z, o - ((c.filter (fun i => decide (pX XS i * D < lX XS i * N))).map (lX XS)).sum = z := ⟨_, rfl⟩
          have hom : o2.toNat < o.toNat := by
           have h9 : 0 < ((c.filter (fun i => decide (pX XS i * D < lX XS i * N))).map (lX XS)).sum := hlp
           omega
          have HG3 : Hid (GoesQ k (pX XS) (lX XS) R s n (clearB bs (c.filter (fun i => decide (pX XS i * D < lX XS i * N)))) (putAt S (c.filter (fun i => decide (pX XS i * D < lX XS i * N))) (lX XS)) o2) := by
           have h9 := HG2.out
           unfold quoLow at h9
           show GoesQ _ _ _ _ _ _ _ _ _
           rw [← ho2]
           exact h9
          rw [ho2]
          clear hla ho2 HG2 HLS HLT HXm hlp hlow hRC
          go_wp2
          go_roundw
          case rel =>
           have HRel : ∃ (bs' : List Bool) (S' : List Int) (o' : Int), Value.int .i64 o2 = .int .i64 o' ∧ GoesQ k (pX XS) (lX XS) R s n bs' S' o' ∧ SetIs wx r gR gB n cR cB XS bs' ∧ Blk wx (gS + 1) 47 #[.slice (some ⟨gS, 0, none⟩) n n, .slice none 0 0, .int .i64 0] ∧ RowN wx gS n S' ∧ Lat w7 wx := ⟨_, _, o2, rfl, HG3.out, hset, haw, hS, hl3⟩
           first | exact HRel | ((repeat apply Exists.intro); (refine ⟨HRel, ?_⟩); (repeat' apply And.intro) <;> rfl)
          case measure => simp [intOf]; omega
     ·as_aux_lemma =>
      have HRN : Hid (R = some ⟨S, [], 0, []⟩) := by show _ = _; rw [← HGQ.out.rest]; exact quoGo_stop (by omega)
      clear hset
      go_wp2_with (first
       | (refine wpList_get rfl 47 (.tmp 14) (by rfl) (gS + 1) (by rfl) haw _ Tryz.underlying47 rfl awInfo3 ?_)
       | (refine wpList_put rfl 47 (.tmp 8) (.tmp 140) (by rfl) (by rfl) (w.heap.size + 1) (by rfl) #[.slice (some ⟨gS, 0, none⟩) n n, .slice none 0 0, .int .i64 0] (by rfl) K8r (by rfl) awInfo3 (by simp [Value.oneCell']) ?_; intro wp hput; have KS := hput.blk; have LP := hput.lat w Lr (by omega); have RS := hput.rowN hS (by omega)))
      have e0 := KS.cell 0
      have e1 := KS.cell 1
      have e2 := KS.cell 2
      try rw [Exit.noGoto_ret]
      refine bodyPost_ret (v := .tuple #[.agg #[.slice (some ⟨gS, 0, none⟩) n n, .slice none 0 0, .int .i64 0], .int .i64 0]) (by simp [results, Tryz.results19, go_sem, e0, e1, e2]) rfl ?_
      rw [HRN.out]
      exact ⟨LP, gS, n, none, 0, rfl, RS, Sl.nil _ _ _, Nat.le_refl _, by omega, fun a e => by cases e⟩
end Go.Proofs.YteocdndanehpnaaGreat
namespace Go.Proofs.YteocdndanehpnaaGreat
open Go.RowKit
def giveQ (k : Int) (P M : List Int) (s : Int) : Option Aw := quoGo k (atI P) (atI M) (P.length + 1) (List.range P.length) (List.replicate P.length 0) s
def LowIs (n nl : Nat) (L M : List Int) (s : Int) : Prop := M.length = n ∧ (∀ x ∈ M, 0 ≤ x ∧ x ≤ s) ∧ M.sum ≤ s ∧ ((nl = 0 ∧ M = List.replicate n 0) ∨ (nl = n ∧ L = M))
theorem lowIs_nil {n : Nat} {L : List Int} {s : Int} (hs : 0 ≤ s) : LowIs n 0 L (List.replicate n 0) s := by
 have h0 : (List.replicate n (0 : Int)).sum = 0 := by
  clear hs
  induction n with
  | zero => rfl
  | succ n ih => rw [List.replicate_succ, List.sum_cons, ih]; rfl
 refine ⟨by simp, fun x hx => ?_, by omega, .inl ⟨rfl, rfl⟩⟩
 rw [(List.mem_replicate.1 hx).2]
 omega
theorem give_any (A1 : Option Addr) (n c1 : Nat) (P : List Int) (Al : Option Addr) (nl cl : Nat) (L M : List Int) (s k : Int) (w : World)
  (hP : Sl w .i64 A1 n P) (hL : Sl w .i64 Al nl L) (hn1 : 0 < n) (hn : n < 20) (hc : censusB P = true) (hs1 : 1 ≤ s) (hs2 : s ≤ 1000) (hk1 : 1 ≤ k) (hk4 : k ≤ 4) (hM : LowIs n nl L M s) :
  Calls Tryz.prog 19 #[.slice A1 n c1, .int .i64 s, .int .i64 k, .slice Al nl cl] w (GivP w n (giveQ k P M s)) := by
 obtain ⟨m1, m2, m3, m4⟩ := hM
 have hl := hP.1
 refine give_from A1 n c1 P Al nl cl L M s k w _ hP hL hn1 hn hc hs1 hs2 hk1 hk4 m1 m2 m3 m4 ?_
 have e1 : pX (P.zip M) = atI P := funext fun i => (pX_zip (by omega) i).1
 have e2 : lX (P.zip M) = atI M := funext fun i => (pX_zip (by omega) i).2
 rw [e1, e2, giveQ, hl]
end Go.Proofs.YteocdndanehpnaaGreat
namespace Go.Proofs.YteocdndanehpnaaGreat
open Go.RowKit
set_option linter.unusedSimpArgs false
set_option linter.unusedVariables false
set_option maxRecDepth 100000
def askE (xs : List Int) (s k : Int) : Int := if censusB xs = true then (if 1 ≤ s ∧ s ≤ 1000 ∧ 1 ≤ k ∧ k ≤ 4 then 0 else 2) else 60
theorem askE_cen {xs : List Int} {s k : Int} (h : censusB xs = false) : askE xs s k = 60 := by rw [askE, if_neg (by simp [h])]
theorem askE_arg {xs : List Int} {s k : Int} (h : censusB xs = true) (h2 : ¬ (1 ≤ s ∧ s ≤ 1000 ∧ 1 ≤ k ∧ k ≤ 4)) : askE xs s k = 2 := by rw [askE, if_pos h, if_neg h2]
set_option maxHeartbeats 2000000 in
theorem asked_no (A : Option Addr) (n c : Nat) (xs : List Int) (s k : Int) (w : World) (hs : Sl w .i64 A n xs) (hn : n ≤ 1000) (h : askE xs s k ≠ 0) :
  Calls Tryz.prog 43 #[.slice A n c, .int .i64 s, .int .i64 k] w (fun e w' => e = .returned (.int .i64 (askE xs s k)) ∧ Lat w w') := by
 have HC := qCheck_any A n c xs w hs (by omega)
 cases hc : censusB xs with
 | false =>
   rw [cenE_no hc] at HC
   rw [askE_cen hc]
   clear h hc hs
   go_enter Tryz.func43, Tryz.ntmps43
   go_wp2_with fail
   refine HC.mono ?_
   rintro e w1 ⟨rfl, he⟩
   have l1 : Lat w w1 := he ▸ Lat.refl w
   clear he HC
   go_wp2
   go_ret
   exact ⟨rfl, l1⟩
 | true =>
   rw [cenE_yes hc] at HC
   have h2 : ¬ (1 ≤ s ∧ s ≤ 1000 ∧ 1 ≤ k ∧ k ≤ 4) := fun h9 => h (by rw [askE, if_pos hc, if_pos h9])
   rw [askE_arg hc h2]
   by_cases c1 : s < 1
   ·clear h h2 hc hs
    go_enter Tryz.func43, Tryz.ntmps43
    go_wp2_with fail
    refine HC.mono ?_
    rintro e w1 ⟨rfl, he⟩
    have l1 : Lat w w1 := he ▸ Lat.refl w
    clear he HC
    go_wp2
    go_ret
    exact ⟨rfl, l1⟩
   by_cases c2 : 1000 < s
   ·clear h h2 hc hs
    go_enter Tryz.func43, Tryz.ntmps43
    go_wp2_with fail
    refine HC.mono ?_
    rintro e w1 ⟨rfl, he⟩
    have l1 : Lat w w1 := he ▸ Lat.refl w
    clear he HC
    go_wp2
    go_ret
    exact ⟨rfl, l1⟩
   by_cases c3 : k < 1
   ·clear h h2 hc hs
    go_enter Tryz.func43, Tryz.ntmps43
    go_wp2_with fail
    refine HC.mono ?_
    rintro e w1 ⟨rfl, he⟩
    have l1 : Lat w w1 := he ▸ Lat.refl w
    clear he HC
    go_wp2
    go_ret
    exact ⟨rfl, l1⟩
   ·have c4 : 4 < k := by omega
    clear h h2 hc hs
    go_enter Tryz.func43, Tryz.ntmps43
    go_wp2_with fail
    refine HC.mono ?_
    rintro e w1 ⟨rfl, he⟩
    have l1 : Lat w w1 := he ▸ Lat.refl w
    clear he HC
    go_wp2
    go_ret
    exact ⟨rfl, l1⟩
set_option maxHeartbeats 2000000 in
theorem give_no (A1 : Option Addr) (n c1 : Nat) (P : List Int) (Al : Option Addr) (nl cl : Nat) (s k : Int) (w : World) (hP : Sl w .i64 A1 n P) (hn : n ≤ 1000) (h : askE P s k ≠ 0) :
  Calls Tryz.prog 19 #[.slice A1 n c1, .int .i64 s, .int .i64 k, .slice Al nl cl] w (fun e w' => e = .returned (.tuple #[.agg #[.slice none 0 0, .slice none 0 0, .int .i64 0], .int .i64 (askE P s k)]) ∧ Lat w w') := by
 have HA := fun w h' => asked_no A1 n c1 P s k w h' hn h
 obtain ⟨E, hE⟩ : ∃ E, askE P s k = E := ⟨_, rfl⟩
 rw [hE] at HA h ⊢
 have hne : (E == 0) = false := by simpa using h
 clear h hE
 go_enter Tryz.func19, Tryz.ntmps19
 go_wp2_with fail
 refine wp_scope_straight ?_
 go_upto_region 1 with (fail)
 refine name2 (Q := fun W => Code.wp _ _ _ _ W) ?_
 intro W hl hsz k5 k8
 have d0 := k5.cell 0
 go_wp2_with fail
 refine (HA W (hP.later hl)).mono ?_
 rintro e w4 ⟨rfl, l4⟩
 have K8 := k8.later l4
 have L4 := hl.trans l4
 clear d0 k5 k8 hl hsz l4 HA hP
 have e0 := K8.cell 0
 have e1 := K8.cell 1
 have e2 := K8.cell 2
 have f0 := K8.frozen 0
 have f1 := K8.frozen 1
 have f2 := K8.frozen 2
 go_wp2
 rw [Exit.noGoto_ret]
 refine bodyPost_ret (v := .tuple #[.agg #[.slice none 0 0, .slice none 0 0, .int .i64 0], .int .i64 E]) (by simp [results, Tryz.results19, go_sem, e0, e1, e2]) rfl ?_
 refine ⟨rfl, ?_⟩
 iterate 3 (refine Lat.setCell ?_ (by simp; try omega) _)
 exact L4
end Go.Proofs.YteocdndanehpnaaGreat
