/- Several texts in one: Scl. -/
import Derived.Test.YtbgngmamnonlbaaGreatH49
import Derived.Test.YtbgngmamnonlbaaGreatH32
namespace Go.Proofs.YtbgngmamnonlbaaGreat
open Go.RowKit
set_option linter.unusedSimpArgs false
set_option linter.unusedVariables false
theorem idx3 {k : Int} (h0 : 0 ≤ k) (h1 : k ≤ 2) : ∃ m : Int, 1 ≤ m ∧ m ≤ 4 ∧ m ≠ 2 ∧ ∀ w, (Instr.index 64 (.agg #[.int .i64 1, .int .i64 3, .int .i64 4]) (.int .u8 k)).run Tryz.prog w = .ok (.int .i64 m) w := by
 have hk : k = 0 ∨ k = 1 ∨ k = 2 := by omega
 rcases hk with rfl | rfl | rfl
 ·exact ⟨1, by omega, by omega, by omega, fun w => by unfold Instr.index; go_simp⟩
 ·exact ⟨3, by omega, by omega, by omega, fun w => by unfold Instr.index; go_simp⟩
 ·exact ⟨4, by omega, by omega, by omega, fun w => by unfold Instr.index; go_simp⟩
theorem atI_mulQ (P : List Int) (b : Int) : atI (P.map (· * b)) = fun i => atI P i * b := by
 funext i
 unfold atI
 rw [List.getElem?_map]
 cases P[i]? with
 | none => simp
 | some x => rfl
theorem giveQ_scale {k b s : Int} {P M : List Int} (hk : k ≠ 2) (hb : 0 < b) (hP : ∀ x ∈ P, 0 ≤ x) : giveQ k (P.map (· * b)) M s = giveQ k P M s := by
 unfold giveQ
 rw [List.length_map, atI_mulQ]
 refine quo_scale hk hb _ _ _ _ (fun i _ => ?_)
 unfold atI
 cases h : P[i]? with
 | none => exact Int.le_refl _
 | some x => exact hP x (List.mem_of_getElem? h)
theorem sum_mulQ (P : List Int) (b : Int) : (P.map (· * b)).sum = P.sum * b := by
 induction P with
 | nil => simp
 | cons x r ih => simp only [List.map_cons, List.sum_cons, ih]; rw [Int.add_mul]
theorem qtR_scale {k b s : Int} {P : List Int} (hk : k ≠ 2) (hb : 0 < b) (hs : 0 < P.sum) : qtR (quoN k (P.map (· * b)).sum s) (quoD k s) (P.map (· * b)) = qtR (quoN k P.sum s) (quoD k s) P := by
 have hN : ∀ x, quoN k x s = x := fun x => by unfold quoN; rw [if_neg hk]
 rw [hN, hN, sum_mulQ]
 unfold qtR
 rw [List.map_map]
 refine List.map_congr_left fun p _ => ?_
 show (shA (p * b * quoD k s) (P.sum * b)).toList = (shA (p * quoD k s) P.sum).toList
 rw [shA_congr (Int.mul_pos hs hb) hs (show p * b * quoD k s * P.sum = p * quoD k s * (P.sum * b) by grind)]
def mulK (P : List Int) (b : Int) (j : Nat) : List Int := (P.take j).map (· * b) ++ P.drop j
theorem mulK_len (P : List Int) (b : Int) (j : Nat) : (mulK P b j).length = P.length := by
 unfold mulK
 rw [List.length_append, List.length_map, List.length_take, List.length_drop]
 omega
theorem mulK_at {P : List Int} {b : Int} {j : Nat} {x : Int} (h : P[j]? = some x) : (mulK P b j)[j]? = some x ∧ (mulK P b j).set j (x * b) = mulK P b (j + 1) := by
 obtain ⟨hl, rfl⟩ := List.getElem?_eq_some_iff.1 h
 have hq : ((P.take j).map (· * b)).length = j := by rw [List.length_map, List.length_take]; omega
 have hd : P.drop j = P[j] :: P.drop (j + 1) := List.drop_eq_getElem_cons hl
 unfold mulK
 constructor
 ·rw [List.getElem?_append_right (by omega), hq, Nat.sub_self, hd]; rfl
 ·rw [List.set_append_right _ _ (by omega), hq, Nat.sub_self, hd, List.set_cons_zero, List.take_succ_eq_append_getElem hl, List.map_append, List.append_assoc]
  rfl
theorem qtR_neq (N D : Int) (P : List Int) : ∀ x ∈ qtR N D P, ∀ w, (binOp .neq 42 (.agg x.toArray) (.agg x.toArray)).run Tryz.prog w = .ok (.bool false) w := by
 intro x hx w
 obtain ⟨p, _, rfl⟩ := List.mem_map.1 hx
 exact (shA_good _ _).neq w
theorem same_lit (A1 : Option Addr) (n c1 : Nat) (S : List Int) (A2 : Option Addr) (m c2 : Nat) (T : List Int) (o : Int) (A3 : Option Addr) (c3 : Nat) (A4 : Option Addr) (c4 : Nat) (w : World)
  (h1 : Sl w .i64 A1 n S) (h2 : Sl w .i64 A2 m T) (h3 : Sl w .i64 A3 n S) (h4 : Sl w .i64 A4 m T) (b1 : n ≤ 17000000000000) (b2 : m ≤ 17000000000000) :
  Calls Tryz.prog 32 #[.agg #[.slice A1 n c1, .slice A2 m c2, .int .i64 o], .agg #[.slice A3 n c3, .slice A4 m c4, .int .i64 o]] w (fun e w' => e = .returned (.bool true) ∧ Lat w w') := by
 have h := same_any A1 n c1 S A2 m c2 T o A3 n c3 S A4 m c4 T o w h1 h2 h3 h4 b1 b2 b1 b2
 have e : sameB S T o S T o = true := by simp [sameB]
 rw [e] at h
 exact h
theorem atI_nonneg {L : List Int} (h : ∀ x ∈ L, 0 ≤ x) (i : Nat) : 0 ≤ atI L i := by
 unfold atI
 cases hq : L[i]? with
 | none => exact Int.le_refl _
 | some x => exact h x (List.mem_of_getElem? hq)
theorem giveQ_ok {k s : Int} {P M : List Int} {A : Aw} (hP : ∀ x ∈ P, 0 ≤ x) (hM : ∀ x ∈ M, 0 ≤ x) (hl : M.length = P.length) (hs : M.sum ≤ s) (h : giveQ k P M s = some A) : QuoOk (atI P) (atI M) (List.range P.length) (List.replicate P.length 0) s A := by
 refine quo_ok (atI_nonneg hM) _ _ _ _ _ (by simp) List.nodup_range (fun i hi => ?_) (fun i _ => atI_nonneg hP i) ?_ h
 ·rw [List.mem_range] at hi
  exact ⟨by simpa using hi, by simp [atI, hi]⟩
 ·rw [← hl, range_atI]
  exact hs
def awS : Option Aw → List Int | none => [] | some A => A.seats
def awT : Option Aw → List Nat | none => [] | some A => A.tied
def awO : Option Aw → Int | none => 0 | some A => A.left
def awE : Option Aw → Int | none => 9 | some _ => 0
theorem GivP.both {w w' : World} {n : Nat} {F : Option Aw} {e : Ending} (h : GivP w n F e w') : Lat w w' ∧ ∃ A1 c1 A2 c2, e = .returned (.tuple #[.agg #[.slice A1 (awS F).length c1, .slice A2 (awT F).length c2, .int .i64 (awO F)], .int .i64 (awE F)]) ∧ Sl w' .i64 A1 (awS F).length (awS F) ∧ Sl w' .i64 A2 (awT F).length (natL (awT F)) := by
 obtain ⟨hl, h⟩ := h
 refine ⟨hl, ?_⟩
 cases F with
 | none => exact ⟨none, 0, none, 0, h, Sl.nil _ _ _, Sl.nil _ _ _⟩
 | some A =>
   obtain ⟨gS, cS, At, ct, rfl, q1, q2, _⟩ := h
   have e : A.seats.length = n := q1.sl.1
   refine ⟨some ⟨gS, 0, none⟩, cS, At, ct, ?_, ?_, q2⟩
   ·show _ = Ending.returned (.tuple #[.agg #[.slice _ A.seats.length cS, _, _], _])
    rw [e]
    rfl
   ·show Sl w' .i64 _ A.seats.length A.seats
    rw [e]
    exact q1.sl
theorem mem_le_sum {L : List Int} (h : ∀ x ∈ L, 0 ≤ x) : ∀ x ∈ L, x ≤ L.sum := by
 induction L with
 | nil => intro x hx; simp at hx
 | cons y r ih =>
   intro x hx
   have h0 : 0 ≤ r.sum := by
    have := sum_nonneg (p := fun i => atI r i) (c := List.range r.length) (fun i _ => atI_nonneg (fun z hz => h z (List.mem_cons_of_mem _ hz)) i)
    rw [show (List.range r.length).map (fun i => atI r i) = r from range_atI r] at this
    exact this
   have h1 := h y (by simp)
   rw [List.sum_cons]
   rcases List.mem_cons.1 hx with rfl | hx
   ·omega
   ·have := ih (fun z hz => h z (List.mem_cons_of_mem _ hz)) x hx
    omega
set_option maxRecDepth 100000 in
set_option maxHeartbeats 8000000 in
theorem qScales_any (Ap : Option Addr) (np cp : Nat) (ps : List Int) (u : Int) (Al : Option Addr) (nl cl : Nat) (ls : List Int) (s me tu : Int) (w : World)
  (hp : Sl w .u16 Ap np ps) (hnp : np ≤ 9223372036854775807) (hrp : ∀ x ∈ ps, 0 ≤ x ∧ x ≤ 65535) (u0 : 0 ≤ u) (u1 : u ≤ 255) (hl : Sl w .u8 Al nl ls) (hnl : nl ≤ 9223372036854775807) (hrl : ∀ x ∈ ls, 0 ≤ x ∧ x ≤ 255) (s0 : 0 ≤ s) (s1 : s ≤ 65535) (a0 : 0 ≤ me) (a1 : me ≤ 255)
  (b0 : 0 ≤ tu) (b1 : tu ≤ 255) :
  Calls Tryz.prog 6 #[.agg #[.slice Ap np cp, .int .u8 u, .slice Al nl cl, .int .u16 s], .int .u8 me, .int .u8 tu] w (Yes6 w) := by
 have HC := fun w (h : Sl w .u16 Ap np ps) => census_any Ap np cp ps u Al nl cl s w h hnp hrp u0 u1
 have HM := fun w (h : Sl w .u16 Ap np ps) (h2 : Sl w .u8 Al nl ls) => draftMin_any Ap np cp ps u Al nl cl ls s w h hnp hrp u0 u1 h2 hnl hrl s0 s1
 have HH := fun w => house_any Ap np cp u Al nl cl s w s0 s1
 have hok := draftC_ok u0 u1 hrp
 have hmk := draftM_ok u s ps ls
 have hcs := draftC_census u0 u1 hrp
 have hhr := @houseN_range s
 obtain ⟨C, hC⟩ : ∃ C, draftC u ps = C := ⟨_, rfl⟩
 obtain ⟨M, hM⟩ : ∃ M, draftM u s ps ls = M := ⟨_, rfl⟩
 obtain ⟨h, hh⟩ : ∃ h, houseN s = h := ⟨_, rfl⟩
 rw [hC] at HC hok hcs hmk
 rw [hM] at HM hmk
 rw [hh] at HH hhr hmk
 have hc0 := hok.2.2.1
 have hc9 := hok.2.2.2
 have HCP := Lib.hid hok.1
 have HCS := Lib.hid hcs
 have HMK := Lib.hid hmk
 have hh0 := hhr.1
 have hh1 := hhr.2
 have HC' := Lib.hid HC
 have HM' := Lib.hid HM
 have HH' := Lib.hid HH
 clear hrp hrl hC hM hh hok hmk HC HM HH hcs hhr
 obtain ⟨kk, hkk⟩ : ∃ kk, me.tmod 3 = kk := ⟨_, rfl⟩
 obtain ⟨k, k1, k4, k2, hix⟩ := idx3 (k := kk) (by rw [← hkk, Int.tmod_eq_emod_of_nonneg a0]; omega) (by rw [← hkk, Int.tmod_eq_emod_of_nonneg a0]; omega)
 obtain ⟨tt, htt⟩ : ∃ tt, tu.tmod 40 = tt := ⟨_, rfl⟩
 have ht0 : 0 ≤ tt := by rw [← htt, Int.tmod_eq_emod_of_nonneg b0]; omega
 have ht1 : tt < 40 := by rw [← htt, Int.tmod_eq_emod_of_nonneg b0]; omega
 have t2 : IntKind.i64.wrap tt = tt := IntWalk.i64_in _ (by omega)
 have t3 : IntKind.i64.wrap (2 + tt) = 2 + tt := IntWalk.i64_in _ (by omega)
 go_enter Tryz.func6, Tryz.ntmps6
 go_wp2_with fail
 refine name1 (Q := fun W => Calls _ _ _ W _) ?_
 intro W1 L1 hs1 kd
 refine (wakes6 W1).mono ?_
 rintro e W2 ⟨rfl, l1⟩
 have L2 := L1.trans l1
 have kd := kd.later l1
 have hp2 := hp.later L2
 have hl2 := hl.later L2
 clear l1
 have HX := fun w (h : Lat W2 w) => HC'.out w (hp2.later h)
 have HY := Lib.hid (fun w (h : Lat W2 w) => HM'.out w (hp2.later h) (hl2.later h))
 go_upto_region 4 with (fail)
 go_cut [8, 9, 10] from 27 to 34 (fun c t b wx => ∃ Ac cc, c = .slice Ac C.length cc ∧ t = .int .i64 h ∧ b = .int .i64 (2 + tt) ∧ Sl wx .i64 Ac C.length C ∧ C.length ≤ cc ∧ Lat W2 wx)
 case first =>
  have hnn : w.heap.size ∉ ([] : List Nat) := by simp
  have b0 := kd.evS hnn 0 rfl
  have b1 := kd.evS hnn 1 rfl
  have b2 := kd.evS hnn 2 rfl
  have b3 := kd.evS hnn 3 rfl
  have L0 := Lat.drew W2
  have M0 := L0.s ([] : List Nat)
  go_region_held3 (fun w' => LatS W2 ([] : List Nat) w') (first | (with_reducible assumption) | ((repeat refine LatS.set ?_ (by simp) _); (with_reducible assumption)))
   (first
     | (go_at_call 28; (with_reducible refine (HX _ L0).mono ?_); rintro e wc ⟨Ac, cc, rfl, q1, q2, q3, q4⟩; have LC := L0.trans q3; have MC := LC.s ([] : List Nat))
     | (go_at_call 17; (with_reducible refine (HH'.out _).mono ?_); rintro e wm ⟨rfl, r3⟩; have LM := LC.trans r3; have MM := LM.s ([] : List Nat)))
  all_goals
   go_wp2_with fail
   go_meet
   exact ⟨Ac, cc, rfl, rfl, rfl, q1.later r3, q2, LM⟩
 case rest =>
  obtain ⟨Ac, cc, rfl, rfl, rfl, q1, qc1, l3⟩ := hcut
  have L3 := L2.trans l3
  have hcn : C.length ≤ 17000000000000 := by omega
  obtain ⟨b, hb⟩ : ∃ b, 2 + tt = b := ⟨_, rfl⟩
  have hb0 : 2 ≤ b := by omega
  have hb1 : b ≤ 41 := by omega
  rw [hb]
  have kd := kd.later l3
  have HML := Lib.hid HMK.out.1
  have hMb : ∀ x ∈ M, 0 ≤ x := fun x hx => (HMK.out.2.2 x hx).1
  have HLOW : Hid (LowIs C.length M.length M M h) := ⟨HMK.out.1, fun x hx => ⟨hMb x hx, Int.le_trans (mem_le_sum hMb x hx) HMK.out.2.1⟩, HMK.out.2.1, .inr ⟨HMK.out.1, rfl⟩⟩
  have hCn : ∀ x ∈ C, 0 ≤ x := fun x hx => (HCP.out x hx).1
  have HFS := Lib.hid (giveQ_scale (k := k) (b := b) (s := h) (P := C) (M := M) k2 (by omega) hCn)
  have HQS := Lib.hid (qtR_scale (k := k) (b := b) (s := h) (P := C) k2 (by omega) (census_iff.1 HCS.out).2.2)
  obtain ⟨F, hF⟩ : ∃ F, giveQ k C M h = F := ⟨_, rfl⟩
  have HT : Hid ((awT F).length ≤ 17000000000000 ∧ (awS F).length ≤ 17000000000000) := by
   cases hf : F with
   | none => exact ⟨Nat.zero_le _, Nat.zero_le _⟩
   | some A =>
     have hq := giveQ_ok hCn hMb HMK.out.1 HMK.out.2.1 (hF.trans hf)
     have h1 := hq.tied.length_le
     have h2 := hq.len
     rw [List.length_range] at h1
     rw [List.length_replicate] at h2
     exact (⟨by omega, by omega⟩ : A.tied.length ≤ 17000000000000 ∧ A.seats.length ≤ 17000000000000)
  have HF := Lib.hid hF
  have LW2 := l3
  clear l3 L2 HMK hF hMb hCn ht0 ht1 t2 t3 htt hb hix hkk HX HH' HM' HC'
  go_wp2_with fail
  refine (clone_all Ac C.length cc C wc q1 hcn).mono ?_
  rintro e w4 ⟨v, rfl, ho, l4⟩
  obtain ⟨g4, c4, rfl, RS, hB4, hg4, hc4, _⟩ := Own.rowC ho hc0
  have L4 := L3.trans l4
  have hw4 : w.heap.size ≤ g4 := Nat.le_trans L3.size hB4
  have hcI : (0 : Int) ≤ (C.length : Int) := by omega
  clear ho hg4
  go_wp2
  go_loopw [39] (fun i wr => ∃ j : Nat, j ≤ C.length ∧ i = .int .i64 (j : Nat) ∧ RowN wr g4 C.length (mulK C b j) ∧ LatP (· = g4) w4 wr) (fun i _ => C.length - (intOf i).toNat)
  case atStart => exact ⟨0, Nat.zero_le _, rfl, by simpa [mulK] using RS, LatP.refl _ _⟩
  case round =>
   clear RS
   obtain ⟨j, hj, rfl, RS, hlr⟩ := hrel
   by_cases hjn : j < C.length
   ·as_aux_lemma =>
    obtain ⟨x, hx⟩ : ∃ x, C[j]? = some x := ⟨_, List.getElem?_eq_getElem hjn⟩
    have hxb := HCP.out x (List.mem_of_getElem? hx)
    obtain ⟨m1, m2⟩ := mulK_at (b := b) hx
    have hjI : (j : Int) < (C.length : Int) := by omega
    have hj0 : (0 : Int) ≤ (j : Int) := by omega
    have s2 : wr.frozen? ⟨g4, j, none⟩ = false := by
     obtain ⟨_, _, _, h9⟩ := RS.slot (i := j) (by rw [mulK_len]; exact hjn)
     exact h9
    have s1 := RS.cell m1
    have hm0 := Int.mul_nonneg hxb.1 (show 0 ≤ b by omega)
    have hm1 := Int.mul_le_mul hxb.2 hb1 (by omega) (by omega)
    have RS2 := RS.set (i := j) (by rw [mulK_len]; exact hjn) (x * b)
    rw [m2] at RS2
    obtain ⟨y, hy⟩ : ∃ y, x * b = y := ⟨_, rfl⟩
    rw [hy] at hm0 hm1 RS2
    have w1 : wrap64 (x * b) = y := by rw [hy]; exact IntWalk.wrap64_in _ (by omega)
    have w2 : IntKind.i64.wrap (x * b) = y := by rw [hy]; exact IntWalk.i64_in _ (by omega)
    have hl9 := hlr.trans (latP_setT wr g4 j (.int .i64 y))
    clear hx m1 m2 hy hm0 hm1 hxb RS HFS HQS HF HLOW HCS
    go_wp2
    try rw [w1]
    obtain ⟨W9, hW9⟩ : ∃ Z, wr.setCell ⟨g4, j, none⟩ (.int .i64 y) = Z := ⟨_, rfl⟩
    rw [hW9] at RS2 hl9
    try rw [hW9]
    go_roundw
    case rel =>
     have HRel : ∃ j' : Nat, j' ≤ C.length ∧ Value.int .i64 ((j : Int) + 1) = .int .i64 (j' : Nat) ∧ RowN W9 g4 C.length (mulK C b j') ∧ LatP (· = g4) w4 W9 := ⟨j + 1, by omega, by go_num, RS2, hl9⟩
     first | exact HRel | exact ⟨_, HRel, rfl⟩
    case measure => simp [intOf]; omega
   ·as_aux_lemma =>
    obtain rfl : C.length = j := by omega
    have hmk : mulK C b C.length = C.map (· * b) := by unfold mulK; rw [List.take_length, List.drop_length, List.append_nil]
    rw [hmk] at RS
    have Lr : Lat w wr := LatP.lat (M := (· = g4)) L4 hlr (fun q e => by subst e; exact hw4)
    have Lcr : Lat wc wr := LatP.lat (M := (· = g4)) l4 hlr (fun q e => by subst e; exact hB4)
    have L2r := LW2.trans Lcr
    replace q1 := q1.later Lcr
    replace kd := kd.later Lcr
    clear hlr hmk Lcr LW2 l4 L4 hj hjn hB4 L3
    go_wp2_with fail
    refine (qCheck_any (some ⟨g4, 0, none⟩) C.length c4 (C.map (· * b)) wr RS.sl hcn).mono ?_
    rintro e w5 ⟨rfl, rfl⟩
    by_cases hcen : censusB (C.map (· * b)) = true
    ·rw [cenE_yes hcen]
     have HCB := Lib.hid hcen
     clear hcen
     have e0 := kd.cell 0
     have e1 := kd.cell 1
     have e2 := kd.cell 2
     have e3 := kd.cell 3
     go_wp2_with fail
     refine (HY.out wr L2r).mono ?_
     rintro e w6 ⟨Am, cm, rfl, r1, rc1, l6, _⟩
     replace q1 := q1.later l6
     replace kd := kd.later l6
     replace RS := RS.later l6
     replace Lr := Lr.trans l6
     replace L2r := L2r.trans l6
     clear e0 e1 e2 e3 l6
     go_wp2_with fail
     refine (give_any Ac C.length cc C Am M.length cm M M h k w6 q1 r1 hc0 (by omega) HCS.out hh0 hh1 k1 k4 HLOW.out).mono ?_
     rintro e w7 hp7
     rw [HF.out] at hp7
     obtain ⟨l7, A1, c1, A2, c2, rfl, s1, s2⟩ := hp7.both
     replace q1 := q1.later l7
     replace kd := kd.later l7
     replace RS := RS.later l7
     replace Lr := Lr.trans l7
     replace L2r := L2r.trans l7
     clear r1 l7 hp7
     go_upto_region 14 with (fail)
     refine name1 (Q := fun W => Code.wp _ _ _ _ W) ?_
     intro w8 l8 _ k13
     replace q1 := q1.later l8
     replace kd := kd.later l8
     replace RS := RS.later l8
     replace Lr := Lr.trans l8
     replace L2r := L2r.trans l8
     replace s1 := s1.later l8
     replace s2 := s2.later l8
     obtain ⟨g13, hg13⟩ : ∃ z, w7.heap.size = z := ⟨_, rfl⟩
     rw [hg13] at k13 ⊢
     clear l8 hg13
     have e0 := kd.cell 0
     have e1 := kd.cell 1
     have e2 := kd.cell 2
     have e3 := kd.cell 3
     go_wp2_with fail
     refine (HY.out w8 L2r).mono ?_
     rintro e w9 ⟨Am, cm, rfl, r1, rc1, l6, _⟩
     replace q1 := q1.later l6
     replace RS := RS.later l6
     replace Lr := Lr.trans l6
     replace k13 := k13.later l6
     replace s1 := s1.later l6
     replace s2 := s2.later l6
     clear e0 e1 e2 e3 l6 kd L2r HY
     go_wp2_with fail
     refine (give_any (some ⟨g4, 0, none⟩) C.length c4 (C.map (· * b)) Am M.length cm M M h k w9 RS.sl r1 hc0 (by omega) HCB.out hh0 hh1 k1 k4 HLOW.out).mono ?_
     rintro e w10 hp7
     rw [HFS.out, HF.out] at hp7
     obtain ⟨l7, A3, c3, A4, c4', rfl, s3, s4⟩ := hp7.both
     replace q1 := q1.later l7
     replace RS := RS.later l7
     replace Lr := Lr.trans l7
     replace k13 := k13.later l7
     replace s1 := s1.later l7
     replace s2 := s2.later l7
     clear r1 l7 hp7
     go_upto_region 15 with (fail)
     refine name1 (Q := fun W => Code.wp _ _ _ _ W) ?_
     intro w11 l8 _ k15
     replace q1 := q1.later l8
     replace RS := RS.later l8
     replace Lr := Lr.trans l8
     replace k13 := k13.later l8
     replace s1 := s1.later l8
     replace s2 := s2.later l8
     replace s3 := s3.later l8
     replace s4 := s4.later l8
     obtain ⟨g15, hg15⟩ : ∃ z, w10.heap.size = z := ⟨_, rfl⟩
     rw [hg15] at k15 ⊢
     clear l8 hg15
     go_wp2_with fail
     refine (qQuotients_yes Ac C.length cc C h k w11 q1 (by omega) HCS.out hh0 hh1 k1 k4).mono ?_
     rintro e w12 ⟨l9, g17, rfl, R17, _⟩
     replace RS := RS.later l9
     replace Lr := Lr.trans l9
     replace k13 := k13.later l9
     replace k15 := k15.later l9
     replace s1 := s1.later l9
     replace s2 := s2.later l9
     replace s3 := s3.later l9
     replace s4 := s4.later l9
     clear l9 q1
     go_wp2_with fail
     refine (qQuotients_yes (some ⟨g4, 0, none⟩) C.length c4 (C.map (· * b)) h k w12 RS.sl (by omega) HCB.out hh0 hh1 k1 k4).mono ?_
     rintro e w13 ⟨l9, g19, rfl, R19, _⟩
     rw [HQS.out] at R19
     replace R17 := R17.later l9
     replace Lr := Lr.trans l9
     replace k13 := k13.later l9
     replace k15 := k15.later l9
     replace s1 := s1.later l9
     replace s2 := s2.later l9
     replace s3 := s3.later l9
     replace s4 := s4.later l9
     have HT1 := HT.out
     obtain ⟨ee, hee⟩ : ∃ z, awE F = z := ⟨_, rfl⟩
     obtain ⟨oo, hoo⟩ : ∃ z, awO F = z := ⟨_, rfl⟩
     obtain ⟨ns, hns⟩ : ∃ z, (awS F).length = z := ⟨_, rfl⟩
     obtain ⟨nt, hnt⟩ : ∃ z, (awT F).length = z := ⟨_, rfl⟩
     rw [hoo, hns, hnt] at k13 k15
     rw [hns] at s1 s3 HT1
     rw [hnt] at s2 s4 HT1
     try rw [hee]
     have ht0 := HT1.1
     have ht1 := HT1.2
     have c_0 := k13.cell 0
     have c_1 := k13.cell 1
     have c_2 := k13.cell 2
     have d_0 := k15.cell 0
     have d_1 := k15.cell 1
     have d_2 := k15.cell 2
     clear l9 RS hoo hns hnt HF HFS HQS HCB HLOW HCS HT HT1
     have HSM := same_lit A1 ns c1 (awS F) A2 nt c2 (natL (awT F)) oo A3 c3 A4 c4' w13 s1 s2 s3 s4 ht1 ht0
     clear s1 s2 s3 s4
     go_wp2_with fail
     refine HSM.mono ?_
     rintro e w14 ⟨rfl, l9⟩
     clear HSM c_0 c_1 c_2 d_0 d_1 d_2 k13 k15
     go_wp2_with fail
     refine (equalS_yes g17 C.length C.length g19 C.length _ w14 (R17.later l9) (R19.later l9) (qtR_len _ _ _) (by omega) (qtR_neq _ _ _)).mono ?_
     rintro e w15 ⟨rfl, l10⟩
     clear R17 R19
     go_wp2
     go_ret
     exact ⟨rfl, (Lr.trans l9).trans l10⟩
    ·rw [cenE_no (by simpa using hcen)]
     clear hcen HLOW HCS HF HFS HQS
     go_wp2
     go_ret
     exact ⟨rfl, Lr⟩
end Go.Proofs.YtbgngmamnonlbaaGreat
