/- Several texts in one: QeT. -/
import Derived.Test.YteocdndanehpnaaGreatH38
import Derived.Test.YteocdndanehpnaaGreatH37
namespace Go.Proofs.YteocdndanehpnaaGreat
open Go.RowKit
set_option linter.unusedSimpArgs false
set_option linter.unusedVariables false
set_option maxRecDepth 100000 in
set_option maxHeartbeats 8000000 in
theorem end_t (p l : Nat → Int) (c : List Nat) (N : Nat) (o n d : Int) (S : List Int) (gS cS gC cc : Nat) (hok : EndOk p c N o n d) (w : World) (hS : RowN w gS N S) (hC : RowB w gC 101 20 (clR p l d n c)) (hcc : c.length ≤ cc)
  (k : Nat) (hkq : o - (c.map (fun i => p i * d / n)).sum = (k : Int)) (hkl : k ≤ (lotM p d n c).length) (h0k : 0 < k) (hklt : k < (lotM p d n c).length) (htie0 : ∀ a b, (lotM p d n c)[k]? = some a → (lotM p d n c)[k - 1]? = some b → p a * d % n = p b * d % n) :
  Calls Tryz.prog 48 #[.agg #[.slice (some ⟨gS, 0, none⟩) N cS, .slice none 0 0, .int .i64 0], .slice (some ⟨gC, 0, none⟩) c.length cc, .int .i64 o] w (EndPost w gS N cS gC (quoEnd p c S o n d)) := by
 have htie := Lib.hid htie0
 clear htie0
 obtain ⟨hasc, hlt, hfew, hp0, hn0, hn1, hd0, hd1, ho0, ho1⟩ := id hok
 have HOK := Lib.hid hok
 have hlen := hS.sl.1
 have HLT := Lib.hid hlt
 have HP0 := Lib.hid hp0
 have hmI : ((c.length : Nat) : Int) < 20 := by omega
 clear hasc hp0 hlt hok
 go_enter Tryz.func48, Tryz.ntmps48
 go_upto_region 1 with (fail)
 refine name4 (Q := fun W => Code.wp _ _ _ _ W) ?_
 intro V0 l0 hs k3 k4 k5 k6
 have E0 : EndIs w gS N cS gC cc w.heap.size (w.heap.size + 1) (w.heap.size + 1 + 1) (w.heap.size + 1 + 1 + 1) S (clR p l d n c) (.slice none 0 0) 0 o c.length V0 :=
  ⟨hS.lt, hC.lt, Nat.le_refl _, by omega, by omega, by omega, hS.later l0, hC.later l0, k3, k4, k5, k6, l0.p _⟩
 obtain ⟨g6, hg6⟩ : ∃ z, w.heap.size + 1 + 1 + 1 = z := ⟨_, rfl⟩
 obtain ⟨g5, hg5⟩ : ∃ z, w.heap.size + 1 + 1 = z := ⟨_, rfl⟩
 obtain ⟨g4, hg4⟩ : ∃ z, w.heap.size + 1 = z := ⟨_, rfl⟩
 obtain ⟨g3, hg3⟩ : ∃ z, w.heap.size = z := ⟨_, rfl⟩
 have hw3 : w.heap.size ≤ g3 := by omega
 rw [hg6, hg5, hg4, hg3] at E0
 rw [hg6, hg5, hg4, hg3]
 clear k3 k4 k5 k6 hs l0 hg3 hg4 hg5 hg6 hS hC
 have c4 := E0.b4.cell 0
 go_upto_region 2 with (fail)
 clear c4
 go_loopw [18] (fun t wr => ∃ k : Nat, k ≤ c.length ∧ t = .int .i64 k ∧ EndIs w gS N cS gC cc g3 g4 g5 g6 (putAt S (c.take k) (fun i => p i * d / n)) (clR p l d n c) (.slice none 0 0) 0 (o - ((c.take k).map (fun i => p i * d / n)).sum) c.length wr) (fun t _ => c.length - (intOf t).toNat)
 case atStart => exact ⟨0, Nat.zero_le _, rfl, by simpa [putAt] using E0⟩
 case round =>
  clear E0
  obtain ⟨k, hk, rfl, E⟩ := hrel
  by_cases hkl : k < c.length
  ·obtain ⟨i, hi⟩ : ∃ i, c[k]? = some i := ⟨_, List.getElem?_eq_getElem hkl⟩
   have hiN := HLT.out i (List.mem_of_getElem? hi)
   have HT1 := Lib.hid (putAt_take (S := S) (f := fun i => p i * d / n) hi)
   have HT2 := Lib.hid (sumF_take (f := fun i => p i * d / n) hi)
   have hb1 := HOK.out.sum k
   have hb2 := HOK.out.sum (k + 1)
   have hklI : (k : Int) < ((c.length : Nat) : Int) := by omega
   have hk0 : (0 : Int) ≤ (k : Int) := by omega
   have hrg := E.c.range (clR_at (p := p) (l := l) (d := d) (n := n) hi)
   obtain ⟨X, hX⟩ : ∃ X, clV p l d n i = X := ⟨_, rfl⟩
   have hx2 : X.toArray[2]? = some (.int .i64 (i : Nat)) := by rw [← hX]; rfl
   have hx3 : X.toArray[3]? = some (.int .i64 (p i * d / n)) := by rw [← hX]; rfl
   have hxs : (Tryz.prog.info? 101).map (·.size) = some X.length := by rw [← hX]; exact claimSize
   have HXa := Lib.hid (show (Tryz.prog.info? 101).map (·.size) = some X.toArray.size by rw [← hX]; exact claimSize)
   have HXz : Hid (20 = X.toArray.size) := by show _ = _; rw [← hX]; rfl
   have HXo : Hid (X.toArray.all (·.oneCell') = true) := by show _ = _; rw [← hX]; exact clV_all p l d n i
   rw [hX] at hrg
   have hx3c : Hid (X.toArray[3]? = some (.int .i64 (p i * d / n))) := hx3
   have hx2c : Hid (X.toArray[2]? = some (.int .i64 (i : Nat))) := hx2
   obtain ⟨g9, hg9⟩ : ∃ z, wr.heap.size = z := ⟨_, rfl⟩
   have h69 : g6 < g9 := by rw [← hg9]; exact E.b6.lt
   have K0 : Blk (wr.alloc (.cells #[.int .i64 0, .int .i64 0, .int .i64 0, .int .i64 0, .int .u64 0, .int .u64 0, .int .u64 0, .int .u64 0, .int .u64 0, .int .u64 0, .int .u64 0, .int .u64 0, .int .u64 0, .int .u64 0, .int .u64 0, .int .u64 0, .int .u64 0, .int .u64 0, .int .u64 0, .int .u64 0] 101)) g9 101 #[.int .i64 0, .int .i64 0, .int .i64 0, .int .i64 0, .int .u64 0, .int .u64 0, .int .u64 0, .int .u64 0, .int .u64 0, .int .u64 0, .int .u64 0, .int .u64 0, .int .u64 0, .int .u64 0, .int .u64 0, .int .u64 0, .int .u64 0, .int .u64 0, .int .u64 0, .int .u64 0] := by rw [← hg9]; exact Blk.new _ _ _
   clear hX hx2 hx3
   go_upto_region 4 with (first
    | (refine wpList_load_mid (by rfl) 101 (.tmp 20) (by rfl) gC (k * 20) (by rfl) X _ hrg Tryz.underlying101 rfl hxs ?_)
    | (refine wpList_put rfl 101 (.tmp 9) (.tmp 21) (by rfl) (by rfl) g9 (by rw [← hg9]; rfl) X.toArray (by rfl) K0 HXz.out HXa.out HXo.out ?_; intro W1 hput; have k9 := hput.blk; have la := hput.lat wr (Lat.alloc _ _) (by rw [hg9]; exact Nat.le_refl _)))
   try rw [hg9]
   have E1 := E.later la
   have d2 := (k9.cell 2).trans hx2c.out
   have d3 := (k9.cell 3).trans hx3c.out
   have HXA := HXa
   have hla := la
   clear hrg hxs hg9 la hput K0 HXa HXz HXo
   obtain ⟨P1, hP1⟩ : ∃ P1, putAt S (c.take k) (fun i => p i * d / n) = P1 := ⟨_, rfl⟩
   obtain ⟨Q1, hQ1⟩ : ∃ Q1, o - ((c.take k).map (fun i => p i * d / n)).sum = Q1 := ⟨_, rfl⟩
   obtain ⟨Q2, hQ2⟩ : ∃ Q2, o - ((c.take (k + 1)).map (fun i => p i * d / n)).sum = Q2 := ⟨_, rfl⟩
   have hPl : P1.length = N := by rw [← hP1, putAt_length]; exact hlen
   have hQ : wrap64 (Q1 - p i * d / n) = Q2 := by rw [← hQ1, ← hQ2, HT2.out, IntWalk.wrap64_in _ (by have := HT2.out; omega)]; omega
   have hQ' : IntKind.i64.wrap (Q1 - p i * d / n) = Q2 := by rw [IntWalk.i64_left]; exact hQ
   have HQ2 := Lib.hid hQ2
   have HP1 := Lib.hid hP1
   rw [hP1, hQ1] at E1
   obtain ⟨wv, hwv⟩ : ∃ z, p i * d / n = z := ⟨_, rfl⟩
   have HWV := Lib.hid hwv
   rw [hwv] at d3 hQ hQ' hx3c
   clear hP1 hQ1 hQ2 hwv hb1 hb2 hi E
   obtain ⟨x0, _, s1, s2⟩ := E1.s.slot (i := i) (by omega)
   have c3 := E1.b3.cell 0
   have hiI : (i : Int) < (N : Int) := by omega
   have hi0 : (0 : Int) ≤ (i : Int) := by omega
   go_upto_region 5 with (fail)
   have E2 := E1.setS (i := i) (by omega) wv
   have k9 := k9.keepP (latP_set W1 gS i (.int .i64 wv)) (by have := E1.aS; have := E1.a3; have := E1.a4; have := E1.a5; have := E1.a6; omega)
   obtain ⟨W2, hW2⟩ : ∃ Z, W1.setCell ⟨gS, i, none⟩ (.int .i64 wv) = Z := ⟨_, rfl⟩
   rw [hW2] at E2 k9 ⊢
   clear E1 hW2 c3 s1 s2 d2 d3
   have d3 : W2.cell? ⟨g9, 3, none⟩ = some (.int .i64 wv) := by
    have h := k9.cell 3
    rw [hx3c.out] at h
    exact h
   have c5 := E2.b5.cell 0
   have f5 := E2.b5.frozen 0
   go_upto_region 6 with (fail)
   have E3 := E2.setO Q2
   obtain ⟨W3, hW3⟩ : ∃ Z, W2.setCell ⟨g5, 0, none⟩ (.int .i64 Q2) = Z := ⟨_, rfl⟩
   rw [hW3] at E3 ⊢
   clear E2 hW3 c5 f5 d3 k9
   go_wp2
   go_roundw
   case rel => exact ⟨k + 1, by omega, by go_num, by rw [HT1.out, HP1.out, HQ2.out, HWV.out]; exact E3⟩
   case measure => simp [intOf]; omega
  ·obtain rfl : k = c.length := by omega
   rw [List.take_of_length_le (Nat.le_refl _)] at E
   obtain ⟨P1, hP1⟩ : ∃ P1, putAt S c (fun i => p i * d / n) = P1 := ⟨_, rfl⟩
   have hPl : P1.length = N := by rw [← hP1, putAt_length]; exact hlen
   have HP1 := Lib.hid hP1
   rw [hP1] at E
   clear hkl hk hP1
   have c4 := E.b4.cell 0
   go_wp2_with fail
   refine (qClDel_any noP gC c.length cc (clR p l d n c) wr E.c (clR_len _ _ _ _ _) (by omega) hcc (fun x hx w' => by obtain ⟨i, _, rfl⟩ := clR_mem hx; exact end1_any p l d n i w')).mono ?_
   rintro e w2 ⟨rfl, rc, lp⟩
   rw [clR_filter (fun i hi => (HP0.out i hi).1)] at rc ⊢
   have E := E.setC rc lp
   rw [clR_len]
   obtain ⟨L, hL⟩ : ∃ L, c.filter (fun i => decide (0 < p i)) = L := ⟨_, rfl⟩
   have HL := Lib.hid hL
   have hLc : L.length ≤ c.length := by rw [← hL]; exact List.length_filter_le _ _
   rw [hL] at E ⊢
   clear hL c4 rc lp
   have c4 := E.b4.cell 0
   have f4 := E.b4.frozen 0
   go_upto_region 8 with (fail)
   have E2 := E.setL L.length
   obtain ⟨W3, hW3⟩ : ∃ Z, w2.setCell ⟨g4, 0, none⟩ (.slice (some ⟨gC, 0, none⟩) L.length cc) = Z := ⟨_, rfl⟩
   rw [hW3] at E2 ⊢
   clear E hW3 c4 f4
   have hkL : k ≤ L.length := by rw [← HL.out, ← (lotM_perm p d n c).length_eq]; exact hkl
   rw [hkq] at E2
   have HKQ := Lib.hid hkq
   have HKL := Lib.hid hkl
   clear hkq hkl
   have c4 := E2.b4.cell 0
   have c5 := E2.b5.cell 0
   have hkI0 : (0 : Int) ≤ (k : Int) := by omega
   have hkIL : (k : Int) ≤ ((L.length : Nat) : Int) := by omega
   go_wp2_with fail
   refine (qClSort_few (clCmp (fun i => p i * d % n)) gC L.length cc (clR p l d n L) W3 E2.c (clR_len _ _ _ _ _) (by omega) (fun x hx y hy w' => by obtain ⟨i, _, rfl⟩ := clR_mem hx; obtain ⟨j, _, rfl⟩ := clR_mem hy; exact end2_any p l d n i j (by omega) hn1 w')).mono ?_
   rintro e w4 ⟨⟨v, rfl⟩, rc, lp⟩
   rw [clR_sort] at rc
   have E4 := E2.setC rc lp
   have hmE : sortR (fun i j => decide (p j * d % n < p i * d % n)) L = lotM p d n c := by unfold lotM; rw [HL.out]
   rw [hmE] at E4
   have hmLn : (lotM p d n c).length = L.length := by rw [← HL.out]; exact (lotM_perm p d n c).length_eq
   obtain ⟨m, hm⟩ : ∃ m, lotM p d n c = m := ⟨_, rfl⟩
   have HM := Lib.hid hm
   have hml : m.length = L.length := by rw [← hm, ← HL.out]; exact (lotM_perm p d n c).length_eq
   rw [hm] at E4
   clear hm hmE E2 c4 c5 rc lp
   have c4 := E4.b4.cell 0
   have c5 := E4.b5.cell 0
   go_upto_region 12 with (fail)
   clear c4 c5
   have R4 : ∀ w', Lat w4 w' → w'.cell? ⟨g4, 0, none⟩ = some (.slice (some ⟨gC, 0, none⟩) L.length cc) := fun w' hl => (E4.b4.later hl).cell 0
   have R5 : ∀ w', Lat w4 w' → w'.cell? ⟨g5, 0, none⟩ = some (.int .i64 (k : Nat)) := fun w' hl => (E4.b5.later hl).cell 0
   have hk1 : (0 : Int) < (k : Int) := by omega
   have hk2 : (k : Int) < ((L.length : Nat) : Int) := by omega
   obtain ⟨a, ha⟩ : ∃ a, m[k]? = some a := ⟨_, List.getElem?_eq_getElem (by omega)⟩
   obtain ⟨a2, hb⟩ : ∃ b, m[k - 1]? = some b := ⟨_, List.getElem?_eq_getElem (by omega)⟩
   have hne : p a * d % n = p a2 * d % n := htie.out a a2 (by rw [HM.out]; exact ha) (by rw [HM.out]; exact hb)
   have HB : Hid (∀ w, (binOp .eql 99 (.agg (shA (p a * d % n) n).toList.toArray) (.agg (shA (p a2 * d % n) n).toList.toArray)).run Tryz.prog w = .ok (.bool true) w) := by rw [← hne]; exact Lib.hid (sh_eql _ _)
   have HG : Hid (Tryz.prog.eqGuardType Tryz.prog.depth 99 = false) := Lib.hid (by kernel_rfl)
   have RS : ∀ w', Lat w4 w' → w'.rangeAt gC (k * 20 + 4) (shA (p a * d % n) n).toList := (fun w' hl => clV_range ((E4.later hl).c.range (clR_at (p := p) (l := l) (d := d) (n := n) ha)))
   have RT : ∀ w', Lat w4 w' → w'.rangeAt gC ((k - 1) * 20 + 4) (shA (p a2 * d % n) n).toList := (fun w' hl => clV_range ((E4.later hl).c.range (clR_at (p := p) (l := l) (d := d) (n := n) hb)))
   have hkm : wrap64 ((k : Int) - 1) = ((k - 1 : Nat) : Int) := by rw [IntWalk.wrap64_in _ (by omega)]; omega
   have hm0 : (0 : Int) ≤ ((k - 1 : Nat) : Int) := by omega
   have hmn : ((k - 1 : Nat) : Int) < ((L.length : Nat) : Int) := by omega
   have HA := Lib.hid ha
   have HBB := Lib.hid (And.intro hb hne)
   clear hne hb
   go_upto_region 12 with (fail)
   rename_i KN hKN
   refine wp_region_slotsN (qry_rows g4 g5 gC L.length cc k (shA (p a * d % n) n).toList (shA (p a2 * d % n) n).toList true) (qry_base g4 g5 gC L.length cc k (shA (p a * d % n) n).toList (shA (p a2 * d % n) n).toList true _ _ _ _ _ _ _ _ _ _ _ _ _ _ _ _ _ _ _ _ _ _ _ _ _ _ _ _ _ _ _ _ _ _ _ _ _ _ _ _ _ _ _ _ _ _ _ _ _ _ _ _ _ _ _ _ _ _ _ _ _ _ _ _ _ _ _ _ _ _ _ _ _ _ _ _ _ _ _ _ _ _ _ _ _ _ _ _ _ _ _ _) 116 22 [[], [0], [1], [2], [2], [4, 2], [3, 5, 2], [2, 6], [7, 2], [8], [8], [9, 10, 8], [11, 8], [12, 8], [8], [8], [15, 8], [14, 16, 8], [17, 8], [18, 8], [13, 19, 8], [8, 20]] (by kernel_rfl) (by kernel_rfl) (by kernel_rfl) (by kernel_rfl) (by kernel_rfl) (by kernel_rfl) (by rfl) rfl (base_of (by repeat (first | exact base_nil _ | refine base_consL rfl ?_))) (qry_steps w4 g4 g5 gC L.length cc k (shA (p a * d % n) n).toList (shA (p a2 * d % n) n).toList true _ _ _ _ _ _ _ _ _ _ _ _ _ _ _ _ _ _ _ _ _ _ _ _ _ _ _ _ _ _ _ _ _ _ _ _ _ _ _ _ _ _ _ _ _ _ _ _ _ _ _ _ _ _ _ _ _ _ _ _ _ _ _ _ _ _ _ _ _ _ _ _ _ _ _ _ _ _ _ _ _ _ _ _ _ _ _ _ _ _ _ _ R4 R5 hk1 hkI0 hk2 hkm hm0 hmn RS RT shareInfo16 shareInfo16 HG HB) ?_
   ·intro a9 W9 hsz9 hdf9 hL9 hbs hsl
    obtain ⟨v9, h9, q9⟩ := hsl 21 _ _ rfl rfl
    obtain rfl : v9 = .bool true := q9
    have w69 := slot_getD h9
    clear h9
    refine hKN _ _ ?_
    obtain ⟨T9, df9⟩ := a9
    obtain rfl : df9 = [] := hdf9
    obtain ⟨f, hf, rfl⟩ := spell116 T9 hsz9
    have Y := fun k {v} h => (hf k).trans (slot_getD (hbs k v h))
    have x69 := (hf 69).trans w69
    clear hbs hsl hf hsz9 hKN w69
    simp only [Y 4 rfl, Y 5 rfl, Y 0 rfl, Y 1 rfl, Y 2 rfl, Y 3 rfl, Y 6 rfl, Y 7 rfl, Y 8 rfl, Y 9 rfl, Y 10 rfl, Y 11 rfl, Y 12 rfl, Y 13 rfl, Y 14 rfl, Y 15 rfl, Y 16 rfl, Y 17 rfl, Y 18 rfl, Y 19 rfl, Y 20 rfl, Y 21 rfl, Y 22 rfl, Y 23 rfl, Y 24 rfl, Y 25 rfl, Y 26 rfl, Y 27 rfl, Y 28 rfl, Y 29 rfl, Y 30 rfl, Y 31 rfl, Y 32 rfl, Y 33 rfl, Y 34 rfl, Y 35 rfl, Y 36 rfl, Y 37 rfl, Y 38 rfl, Y 39 rfl, Y 40 rfl, Y 41 rfl, Y 42 rfl, Y 43 rfl, Y 44 rfl, Y 45 rfl, Y 46 rfl, Y 47 rfl, Y 70 rfl, Y 71 rfl, Y 72 rfl, Y 73 rfl, Y 74 rfl, Y 75 rfl, Y 76 rfl, Y 77 rfl, Y 78 rfl, Y 79 rfl, Y 80 rfl, Y 81 rfl, Y 82 rfl, Y 83 rfl, Y 84 rfl, Y 85 rfl, Y 86 rfl, Y 87 rfl, Y 88 rfl, Y 89 rfl, Y 90 rfl, Y 91 rfl, Y 92 rfl, Y 93 rfl, Y 94 rfl, Y 95 rfl, Y 96 rfl, Y 97 rfl, Y 98 rfl, Y 99 rfl, Y 100 rfl, Y 101 rfl, Y 102 rfl, Y 103 rfl, Y 104 rfl, Y 105 rfl, Y 106 rfl, Y 107 rfl, Y 108 rfl, Y 109 rfl, Y 110 rfl, Y 111 rfl, Y 112 rfl, Y 113 rfl, Y 114 rfl, Y 115 rfl, x69]
    clear x69 Y
    have E5 := E4.later hL9
    have RW4 : ∀ w', Lat W9 w' → w'.cell? ⟨g4, 0, none⟩ = some (.slice (some ⟨gC, 0, none⟩) L.length cc) := fun w' hl => (E5.b4.later hl).cell 0
    have RW5 : ∀ w', Lat W9 w' → w'.cell? ⟨g5, 0, none⟩ = some (.int .i64 (k : Nat)) := fun w' hl => (E5.b5.later hl).cell 0
    have HC3 := ends3 (p := p) (l := l) (d := d) (n := n) (by omega) hn1 (g4 := g4) (g5 := g5) (cc := cc) E5.c ha hml hk2 (W := W9) RW4 RW5
    clear E4 R4 R5 hL9 RS RT HB HG
    have c4 := E5.b4.cell 0
    go_wp2_with fail
    refine (qClIdx3_any (fun x : List Value => decide (p (intOf (x.getD 2 undef)).toNat * d % n = p a * d % n)) ⟨g4, 0, none⟩ ⟨g5, 0, none⟩ gC L.length cc (clR p l d n m) W9 E5.c (by rw [clR_len]; exact hml) (by omega) HC3).mono ?_
    rintro e w6 ⟨r, rfl, hr, l6⟩
    have hf : ∃ (f e : Nat), r = (f : Int) ∧ m[f]? = some e ∧ p e * d % n = p a * d % n ∧ ∀ i x, i < f → m[i]? = some x → p x * d % n ≠ p a * d % n := idx_first ha hr
    obtain ⟨f, e0, rfl, he0, hea, hfl⟩ := hf
    have hfL : f < L.length := by
     rw [← hml]
     exact (List.getElem?_eq_some_iff.1 he0).1
    have HF := Lib.hid (And.intro he0 (And.intro hea hfl))
    have E6 := E5.later l6
    replace RW4 : ∀ w', Lat w6 w' → w'.cell? ⟨g4, 0, none⟩ = some (.slice (some ⟨gC, 0, none⟩) L.length cc) := fun w' hl => RW4 w' (l6.trans hl)
    replace RW5 : ∀ w', Lat w6 w' → w'.cell? ⟨g5, 0, none⟩ = some (.int .i64 (k : Nat)) := fun w' hl => RW5 w' (l6.trans hl)
    clear hr he0 hea hfl E5 l6 c4 HC3
    have c4 := E6.b4.cell 0
    go_upto_region 16 with (fail)
    clear c4
    obtain ⟨B, hB⟩ : ∃ B, w6.heap.size = B := ⟨_, rfl⟩
    have h6B : g6 < B := by rw [← hB]; exact E6.b6.lt
    go_loopw [76] (fun t wr => ∃ (j : Nat) (tv : Value), j ≤ L.length ∧ t = .int .i64 j ∧ EndIs w gS N cS gC cc g3 g4 g5 g6 P1 (clR p l d n m) tv 0 (k : Int) L.length wr ∧ OwnM wr B 3 1 tv (ints1 (((m.take j).filter (fun i => decide (p i * d % n = p a * d % n))).map fun t : Nat => (t : Int))) ∧ B ≤ wr.heap.size) (fun t _ => L.length - (intOf t).toNat)
    case atStart => exact ⟨0, .slice none 0 0, Nat.zero_le _, rfl, E6, by simpa [ints1] using OwnM.nil _ _ _ _, by rw [hB]; exact Nat.le_refl _⟩
    case round =>
     clear E6
     obtain ⟨j, tv, hj, rfl, E, hown, hBw⟩ := hrel
     by_cases hjl : j < L.length
     ·obtain ⟨i, hi⟩ : ∃ i, m[j]? = some i := ⟨_, List.getElem?_eq_getElem (by omega)⟩
      have HI := Lib.hid hi
      have hjlI : (j : Int) < ((L.length : Nat) : Int) := by omega
      have hj0 : (0 : Int) ≤ (j : Int) := by omega
      have HC3 := ends3 (p := p) (l := l) (d := d) (n := n) (by omega) hn1 (g4 := g4) (g5 := g5) (cc := cc) E.c ha hml hk2 (W := wr) (fun w' hl => (E.b4.later hl).cell 0) (fun w' hl => (E.b5.later hl).cell 0)
      have HCx : ∀ w', Lat wr w' → Calls Tryz.prog 72 #[.agg (clV p l d n i).toArray, .pointer (some ⟨g4, 0, none⟩), .pointer (some ⟨g5, 0, none⟩)] w' (fun e w'' => e = .returned (.bool (decide (p i * d % n = p a * d % n))) ∧ Lat w' w'') :=
       HC3 _ (List.mem_of_getElem? (clR_at (p := p) (l := l) (d := d) (n := n) hi))
      clear HC3
      have hrg := E.c.range (clR_at (p := p) (l := l) (d := d) (n := n) hi)
      obtain ⟨X, hX⟩ : ∃ X, clV p l d n i = X := ⟨_, rfl⟩
      have hx2 : X.toArray[2]? = some (.int .i64 (i : Nat)) := by rw [← hX]; rfl
      have hx3 : X.toArray[3]? = some (.int .i64 (p i * d / n)) := by rw [← hX]; rfl
      have hxs : (Tryz.prog.info? 101).map (·.size) = some X.length := by rw [← hX]; exact claimSize
      have HXa := Lib.hid (show (Tryz.prog.info? 101).map (·.size) = some X.toArray.size by rw [← hX]; exact claimSize)
      have HXz : Hid (20 = X.toArray.size) := by show _ = _; rw [← hX]; rfl
      have HXo : Hid (X.toArray.all (·.oneCell') = true) := by show _ = _; rw [← hX]; exact clV_all p l d n i
      rw [hX] at hrg HCx
      have hx3c : Hid (X.toArray[3]? = some (.int .i64 (p i * d / n))) := hx3
      have hx2c : Hid (X.toArray[2]? = some (.int .i64 (i : Nat))) := hx2
      obtain ⟨g9, hg9⟩ : ∃ z, wr.heap.size = z := ⟨_, rfl⟩
      have h69 : g6 < g9 := by rw [← hg9]; exact E.b6.lt
      have K0 : Blk (wr.alloc (.cells #[.int .i64 0, .int .i64 0, .int .i64 0, .int .i64 0, .int .u64 0, .int .u64 0, .int .u64 0, .int .u64 0, .int .u64 0, .int .u64 0, .int .u64 0, .int .u64 0, .int .u64 0, .int .u64 0, .int .u64 0, .int .u64 0, .int .u64 0, .int .u64 0, .int .u64 0, .int .u64 0] 101)) g9 101 #[.int .i64 0, .int .i64 0, .int .i64 0, .int .i64 0, .int .u64 0, .int .u64 0, .int .u64 0, .int .u64 0, .int .u64 0, .int .u64 0, .int .u64 0, .int .u64 0, .int .u64 0, .int .u64 0, .int .u64 0, .int .u64 0, .int .u64 0, .int .u64 0, .int .u64 0, .int .u64 0] := by rw [← hg9]; exact Blk.new _ _ _
      clear hX hx2 hx3
      go_upto_region 18 with (first
       | (refine wpList_load_mid (by rfl) 101 (.tmp 78) (by rfl) gC (j * 20) (by rfl) X _ hrg Tryz.underlying101 rfl hxs ?_)
       | (refine wpList_put rfl 101 (.tmp 13) (.tmp 79) (by rfl) (by rfl) g9 (by rw [← hg9]; rfl) X.toArray (by rfl) K0 HXz.out HXa.out HXo.out ?_; intro W1 hput; have k9 := hput.blk; have la := hput.lat wr (Lat.alloc _ _) (by rw [hg9]; exact Nat.le_refl _)))
      try rw [hg9]
      have E1 := E.later la
      have d2 := (k9.cell 2).trans hx2c.out
      have d3 := (k9.cell 3).trans hx3c.out
      have HXA := HXa
      have hla := la
      clear hrg hxs hg9 la hput K0 HXa HXz HXo
      have hown := hown.later hla
      have hBw := Nat.le_trans hBw hla.size
      go_wp2_with (refine wpList_get rfl 101 (.tmp 13) (by rfl) g9 (by rfl) k9 _ Tryz.underlying101 rfl HXA.out ?_)
      refine (HCx W1 hla).mono ?_
      rintro e w7 ⟨rfl, l7⟩
      have E2 := E1.later l7
      have hown := hown.later l7
      have hBw := Nat.le_trans hBw l7.size
      have k9 := k9.later l7
      clear E E1 hla l7 d2 d3 HCx hi
      by_cases hc : p i * d % n = p a * d % n
      ·rw [decide_eq_true hc]
       have HT := Lib.hid (col_yes (q := fun i => decide (p i * d % n = p a * d % n)) HI.out (decide_eq_true hc))
       obtain ⟨xs, hxs⟩ : ∃ xs, (((m.take j).filter (fun i => decide (p i * d % n = p a * d % n))).map fun t : Nat => (t : Int)) = xs := ⟨_, rfl⟩
       have HXS := Lib.hid hxs
       have hxl : (ints1 xs).length ≤ 100000000 := by
        rw [ints1_len, ← hxs, List.length_map]
        have := List.length_filter_le (fun i => decide (p i * d % n = p a * d % n)) (m.take j)
        rw [List.length_take] at this
        omega
       rw [hxs] at hown
       clear hxs hc
       have c31 := E2.b3.cell 1
       have d2 : w7.cell? ⟨g9, 2, none⟩ = some (.int .i64 (i : Nat)) := (k9.cell 2).trans hx2c.out
       have LA := Lat.alloc w7 (.cells #[.int .i64 (i : Int)] 3)
       go_upto_region 20 with (refine wpList_pushM rfl _ _ 29 (by rfl) B 3 3 (.int .i64 0) 1 8 Tryz.underlying29 intInfoE rfl (by decide) (by decide) tv (ints1 xs) [.int .i64 (i : Int)] (by simp [Value.oneCell']) _ w7.heap.size (by rfl) (hown.later LA) (Blk.new _ _ _) rfl 1 (by rfl) hxl (Nat.le_trans hBw LA.size) ?_; intro v' w' own' hgr _; have E3 := (E2.later LA).ownO (wx := w') (ob := tv.ownBlock) ⟨hgr.os, hgr.tape, hgr.output, hgr.size, fun j hj hn => hgr.block j hj hn⟩ (fun g hg => by have := (hown.at1 g hg).1; omega); have hBw' := Nat.le_trans (Nat.le_trans hBw LA.size) hgr.size; obtain ⟨A', c9, hv9, _⟩ := own'.form; obtain ⟨nn, hnn⟩ : ∃ nn, (ints1 xs ++ [[Value.int .i64 (i : Int)]]).length = nn := ⟨_, rfl⟩; rw [hnn] at hv9; subst hv9; have c31' := E3.b3.cell 1; have f31' := E3.b3.frozen 1; clear c31 d2 hgr)
       have E4 := E3.setT (.slice A' nn c9)
       have own2 : OwnM (w'.setCell ⟨g3, 1, none⟩ (.slice A' nn c9)) B 3 1 (.slice A' nn c9) (ints1 xs ++ [[Value.int .i64 (i : Int)]]) :=
        own'.kept (fun q hq => Below.heap_setCell w' ⟨g3, 1, none⟩ _ q (fun e : q = g3 => by have := (own'.at1 q hq).1; have := E3.a4; have := E3.a5; have := E3.a6; omega))
       have hsz : B ≤ (w'.setCell ⟨g3, 1, none⟩ (.slice A' nn c9)).heap.size := by simpa [World.setCell] using hBw'
       obtain ⟨Z, hZ⟩ : ∃ Z, w'.setCell ⟨g3, 1, none⟩ (.slice A' nn c9) = Z := ⟨_, rfl⟩
       rw [hZ] at E4 own2 hsz ⊢
       have HOW := Lib.hid own2
       clear hZ E3 E2 own' own2 hown c31' f31' hnn k9 hBw hBw' LA
       go_wp2
       go_roundw
       case rel => exact ⟨j + 1, _, by omega, by go_num, E4, by rw [HT.out, List.map_append, HXS.out]; show OwnM _ _ _ _ _ (ints1 (xs ++ [(i : Int)])); rw [ints1_snoc]; exact HOW.out, hsz⟩
       case measure => simp [intOf]; omega
      ·rw [decide_eq_false hc]
       have HT := Lib.hid (col_no (q := fun i => decide (p i * d % n = p a * d % n)) HI.out (decide_eq_false hc))
       clear hc k9
       go_wp2
       go_roundw
       case rel => exact ⟨j + 1, tv, by omega, by go_num, E2, by rw [HT.out]; exact hown, hBw⟩
       case measure => simp [intOf]; omega
     ·obtain rfl : j = L.length := by omega
      rw [List.take_of_length_le (by omega)] at hown
      have hown1 := own_ofM hown
      have hnd : m.Nodup := by rw [← HM.out]; exact lotM_nodup (HOK.out.asc.imp (fun h => by omega))
      obtain ⟨t, ht, htp, htm⟩ := tied_sorted (hnd.filter (fun i => decide (p i * d % n = p a * d % n)))
      have hpos : 0 < ((m.filter (fun i => decide (p i * d % n = p a * d % n))).map fun t : Nat => (t : Int)).length := by
       rw [List.length_map]
       exact List.length_pos_of_mem (List.mem_filter.2 ⟨List.mem_of_getElem? HA.out, by simp⟩)
      have hlt : ((m.filter (fun i => decide (p i * d % n = p a * d % n))).map fun t : Nat => (t : Int)).length = t.length := by
       have h9 := congrArg List.length ht
       rw [List.length_mergeSort, List.length_map, List.length_map] at h9
       rw [List.length_map]
       exact h9
      have hsm : ((m.filter (fun i => decide (p i * d % n = p a * d % n))).map fun t : Nat => (t : Int)).length ≤ 1000 := by
       rw [List.length_map]
       have := List.length_filter_le (fun i => decide (p i * d % n = p a * d % n)) m
       omega
      have HTP : Hid (t.Pairwise (· < ·) ∧ ∀ i, i ∈ t ↔ i ∈ m ∧ p i * d % n = p a * d % n) := ⟨htp, fun i => by rw [htm i, List.mem_filter, decide_eq_true_eq]⟩
      obtain ⟨xs, hxs⟩ : ∃ xs, ((m.filter (fun i => decide (p i * d % n = p a * d % n))).map fun t : Nat => (t : Int)) = xs := ⟨_, rfl⟩
      rw [hxs] at hown1 ht hpos hlt hsm
      obtain ⟨gT, ct, rfl, RT0, hBT, hgT, hct⟩ := Own.rowN hown1 hpos
      have HS : ∀ w', RowN w' gT xs.length xs → Calls Tryz.prog 73 #[.slice (some ⟨gT, 0, none⟩) xs.length ct] w' (fun e w'' => e = .returned (.tuple #[]) ∧ RowN w'' gT t.length (t.map fun t : Nat => (t : Int)) ∧ LatP (· = gT) w' w'') := fun w' h => by
       have h9 := sort_row (c := ct) h hsm
       rw [ht] at h9
       refine h9.mono ?_
       rintro e w9 ⟨h1, h2, h3⟩
       exact ⟨h1, hlt ▸ h2, h3⟩
      have HSS := Lib.hid HS
      have HLT2 := Lib.hid hlt
      obtain ⟨nx, hnx⟩ : ∃ nx, xs.length = nx := ⟨_, rfl⟩
      rw [hnx] at E RT0 hct HSS HLT2
      clear hown hown1 hxs htp htm hnd HS ht hpos hlt hsm hnx
      have c31 := E.b3.cell 1
      go_wp2_with fail
      refine (HSS.out wr RT0).mono ?_
      rintro e w8 ⟨rfl, rs, lp⟩
      have E8 := E.own lp (by omega)
      obtain rfl : nx = t.length := HLT2.out
      have hfk : f < k := by
       rcases Nat.lt_or_ge f k with h | h
       ·exact h
       ·exfalso
        exact HF.out.2.2 (k - 1) a2 (by omega) HBB.out.1 HBB.out.2.symm
      have hsub : wrap64 ((k : Int) - (f : Int)) = ((k - f : Nat) : Int) := by rw [IntWalk.wrap64_in _ (by omega)]; omega
      have hsub' : IntKind.i64.wrap ((k : Int) - (f : Int)) = ((k - f : Nat) : Int) := by rw [IntWalk.i64_left]; exact hsub
      clear E RT0 lp c31 HSS HLT2
      have c5 := E8.b5.cell 0
      have f32 := E8.b3.frozen 2
      have c32 := E8.b3.cell 2
      go_upto_region 23 with (fail)
      have E9 := E8.setI ((k - f : Nat) : Int)
      have KT := rs.keepP (latP_set w8 g3 2 (.int .i64 ((k - f : Nat) : Int))) (by have := E8.a4; have := E8.a5; have := E8.a6; omega)
      obtain ⟨Z, hZ⟩ : ∃ Z, w8.setCell ⟨g3, 2, none⟩ (.int .i64 ((k - f : Nat) : Int)) = Z := ⟨_, rfl⟩
      rw [hZ] at E9 KT ⊢
      clear hZ E8 rs c5 f32 c32 hsub hsub'
      have hkc : (f : Int) ≤ (cc : Int) := by omega
      have hf0 : (0 : Int) ≤ (f : Int) := by omega
      have c4 := E9.b4.cell 0
      go_upto_region 24 with (fail)
      clear c4
      go_loopw [102] (fun tq wr => ∃ j : Nat, j ≤ f ∧ tq = .int .i64 j ∧ EndIs w gS N cS gC cc g3 g4 g5 g6 (bump P1 (m.take j)) (clR p l d n m) (.slice (some ⟨gT, 0, none⟩) t.length ct) ((k - f : Nat) : Int) (k : Int) L.length wr ∧ RowN wr gT t.length (t.map fun t : Nat => (t : Int))) (fun tq _ => f - (intOf tq).toNat)
      case atStart => exact ⟨0, Nat.zero_le _, rfl, by simpa [bump] using E9, KT⟩
      case round =>
       clear E9
       obtain ⟨j, hj, rfl, E, XT⟩ := hrel
       by_cases hjl : j < f
       ·obtain ⟨i, hi⟩ : ∃ i, m[j]? = some i := ⟨_, List.getElem?_eq_getElem (by omega)⟩
        have him : i ∈ lotM p d n c := by rw [HM.out]; exact List.mem_of_getElem? hi
        have hic := (lotM_mem him).1
        have hiN := HLT.out i hic
        have HT1 := Lib.hid (bump_take (S := P1) hi)
        have hwb := HOK.out.whole i hic
        have hat : atI (bump P1 (m.take j)) i = p i * d / n := by
         have hnd : m.Nodup := by rw [← HM.out]; exact lotM_nodup (HOK.out.asc.imp (fun h => by omega))
         have hni : i ∉ m.take j := fun hmem => by
          obtain ⟨j2, hj2, he⟩ := List.mem_iff_getElem.1 hmem
          rw [List.getElem_take] at he
          rw [List.length_take] at hj2
          obtain ⟨hjm, he2⟩ := List.getElem?_eq_some_iff.1 hi
          have := (List.getElem_inj hnd).1 (he.trans he2.symm)
          omega
         rw [bump_other hni, ← HP1.out, putAt_mem hic (by omega)]
        have hjlI : (j : Int) < ((f : Nat) : Int) := by omega
        have hj0 : (0 : Int) ≤ (j : Int) := by omega
        have hrg := E.c.range (clR_at (p := p) (l := l) (d := d) (n := n) hi)
        obtain ⟨X, hX⟩ : ∃ X, clV p l d n i = X := ⟨_, rfl⟩
        have hx2 : X.toArray[2]? = some (.int .i64 (i : Nat)) := by rw [← hX]; rfl
        have hx3 : X.toArray[3]? = some (.int .i64 (p i * d / n)) := by rw [← hX]; rfl
        have hxs : (Tryz.prog.info? 101).map (·.size) = some X.length := by rw [← hX]; exact claimSize
        have HXa := Lib.hid (show (Tryz.prog.info? 101).map (·.size) = some X.toArray.size by rw [← hX]; exact claimSize)
        have HXz : Hid (20 = X.toArray.size) := by show _ = _; rw [← hX]; rfl
        have HXo : Hid (X.toArray.all (·.oneCell') = true) := by show _ = _; rw [← hX]; exact clV_all p l d n i
        rw [hX] at hrg
        have hx3c : Hid (X.toArray[3]? = some (.int .i64 (p i * d / n))) := hx3
        have hx2c : Hid (X.toArray[2]? = some (.int .i64 (i : Nat))) := hx2
        obtain ⟨g9, hg9⟩ : ∃ z, wr.heap.size = z := ⟨_, rfl⟩
        have h69 : g6 < g9 := by rw [← hg9]; exact E.b6.lt
        have K0 : Blk (wr.alloc (.cells #[.int .i64 0, .int .i64 0, .int .i64 0, .int .i64 0, .int .u64 0, .int .u64 0, .int .u64 0, .int .u64 0, .int .u64 0, .int .u64 0, .int .u64 0, .int .u64 0, .int .u64 0, .int .u64 0, .int .u64 0, .int .u64 0, .int .u64 0, .int .u64 0, .int .u64 0, .int .u64 0] 101)) g9 101 #[.int .i64 0, .int .i64 0, .int .i64 0, .int .i64 0, .int .u64 0, .int .u64 0, .int .u64 0, .int .u64 0, .int .u64 0, .int .u64 0, .int .u64 0, .int .u64 0, .int .u64 0, .int .u64 0, .int .u64 0, .int .u64 0, .int .u64 0, .int .u64 0, .int .u64 0, .int .u64 0] := by rw [← hg9]; exact Blk.new _ _ _
        clear hX hx2 hx3
        go_upto_region 26 with (first
         | (refine wpList_load_mid (by rfl) 101 (.tmp 104) (by rfl) gC (j * 20) (by rfl) X _ hrg Tryz.underlying101 rfl hxs ?_)
         | (refine wpList_put rfl 101 (.tmp 15) (.tmp 105) (by rfl) (by rfl) g9 (by rw [← hg9]; rfl) X.toArray (by rfl) K0 HXz.out HXa.out HXo.out ?_; intro W1 hput; have k9 := hput.blk; have la := hput.lat wr (Lat.alloc _ _) (by rw [hg9]; exact Nat.le_refl _)))
        try rw [hg9]
        have E1 := E.later la
        have XT := XT.later la
        have d2 := (k9.cell 2).trans hx2c.out
        have d3 := (k9.cell 3).trans hx3c.out
        have HXA := HXa
        have hla := la
        clear hrg hxs hg9 la hput K0 HXa HXz HXo
        obtain ⟨B1, hB1⟩ : ∃ B1, bump P1 (m.take j) = B1 := ⟨_, rfl⟩
        have HB1 := Lib.hid hB1
        have hBl : B1.length = N := by rw [← hB1, bump_length]; exact hPl
        rw [hB1] at E1 hat
        clear hB1 E hic him hi
        obtain ⟨x0, hx0, s1, s2⟩ := E1.s.slot (i := i) (by omega)
        rw [atI_of hx0] at hat
        have HAT := Lib.hid (atI_of hx0)
        have hx1 : wrap64 (x0 + 1) = x0 + 1 := IntWalk.wrap64_in _ (by omega)
        have hx1' : IntKind.i64.wrap (x0 + 1) = x0 + 1 := IntWalk.i64_in _ (by omega)
        have c3 := E1.b3.cell 0
        have hiI : (i : Int) < (N : Int) := by omega
        have hi0 : (0 : Int) ≤ (i : Int) := by omega
        clear hat hwb hx0 d3
        go_upto_region 27 with (fail)
        have E2 := E1.setS (i := i) (by omega) (x0 + 1)
        have XT := XT.keepP (latP_set W1 gS i (.int .i64 (x0 + 1))) (by have := E1.aS; have := E1.a3; have := E1.a4; have := E1.a5; have := E1.a6; omega)
        obtain ⟨W2, hW2⟩ : ∃ Z, W1.setCell ⟨gS, i, none⟩ (.int .i64 (x0 + 1)) = Z := ⟨_, rfl⟩
        rw [hW2] at E2 XT ⊢
        clear E1 hW2 c3 s1 s2 d2 k9
        go_wp2
        go_roundw
        case rel =>
         have HRel : ∃ j' : Nat, j' ≤ f ∧ Value.int .i64 ((j : Int) + 1) = .int .i64 (j' : Nat) ∧ EndIs w gS N cS gC cc g3 g4 g5 g6 (bump P1 (m.take j')) (clR p l d n m) (.slice (some ⟨gT, 0, none⟩) t.length ct) ((k - f : Nat) : Int) (k : Int) L.length W2 ∧ RowN W2 gT t.length (t.map fun t : Nat => (t : Int)) := ⟨j + 1, by omega, by go_num, by rw [HT1.out, HB1.out, HAT.out]; exact E2, XT⟩
         first | exact ⟨j + 1, by omega, by go_num, by rw [HT1.out, HB1.out, HAT.out]; exact E2⟩ | exact HRel | exact ⟨_, _, _, _, _, _, _, _, _, _, _, _, _, _, HRel, rfl⟩ | exact ⟨_, _, _, _, _, _, _, _, _, _, _, _, _, HRel, rfl⟩ | exact ⟨_, _, _, _, _, _, _, _, _, _, _, _, _, _, _, HRel, rfl⟩ | exact ⟨_, _, _, _, _, _, _, _, _, _, _, _, HRel, rfl⟩ | exact ⟨_, _, _, _, _, _, _, _, _, _, _, _, _, _, _, _, HRel, rfl⟩
        case measure => simp [intOf]; omega
       ·obtain rfl : f = j := by omega
        have c30 := E.b3.cell 0
        have c31 := E.b3.cell 1
        have c32 := E.b3.cell 2
        have f60 := E.b6.frozen 0
        have f61 := E.b6.frozen 1
        have f62 := E.b6.frozen 2
        have e60 := E.b6.cell 0
        have e61 := E.b6.cell 1
        have e62 := E.b6.cell 2
        have HE := Lib.hid E
        have HXT := Lib.hid XT
        clear E XT
        go_wp2
        refine bodyPost_ret (v := .tuple #[.agg #[.slice (some ⟨gS, 0, none⟩) N cS, (.slice (some ⟨gT, 0, none⟩) t.length ct), .int .i64 ((k - f : Nat) : Int)], .int .i64 0]) (by simp [results, Tryz.results48, go_sem, e60, e61, e62]) rfl ?_
        have h6 : w.heap.size ≤ g6 := by have := HE.out.a3; have := HE.out.a4; have := HE.out.a5; have := HE.out.a6; omega
        have hs6 : gS ≠ g6 := by have := HE.out.aS; omega
        have hT6 : gT ≠ g6 := by omega
        have hend := (end_tie (S := S) HOK.out.asc (by omega) (by rw [← HM.out]; exact lotM_perm p d n c) (by rw [← HM.out]; exact lotM_desc p d n c) HKQ.out h0k HA.out HBB.out.1 HBB.out.2 HF.out.1 HF.out.2.1 HF.out.2.2 HTP.out.1 HTP.out.2).2
        rw [hend, HP1.out]
        exact ⟨((HE.out.lat.ownS h6 0 _).ownS h6 1 _).ownS h6 2 _, some ⟨gT, 0, none⟩, ct, rfl, ((HE.out.s.keepP (latP_set _ g6 0 _) hs6).keepP (latP_set _ g6 1 _) hs6).keepP (latP_set _ g6 2 _) hs6, (((HXT.out.keepP (latP_set _ g6 0 _) hT6).keepP (latP_set _ g6 1 _) hT6).keepP (latP_set _ g6 2 _) hT6).sl, hct, fun a e => by cases e; show w.heap.size ≤ gT; omega⟩
end Go.Proofs.YteocdndanehpnaaGreat
