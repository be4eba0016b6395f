/- Several texts in one: RdH. -/
import Derived.Test.YtpmbglhbcjbkcaaGreatH26
namespace Go.Proofs.YtpmbglhbcjbkcaaGreat
set_option maxHeartbeats 16000000
set_option maxRecDepth 100000
open Go.RowKit Go.Maps
set_option linter.unusedSimpArgs false
set_option linter.unusedVariables false
theorem znv (T : Array Value) (h : T.size = 98) : ∃ f : Nat → Value, (∀ k, f k = T.getD k undef) ∧ T = #[f 0, f 1, f 2, f 3, f 4, f 5, f 6, f 7, f 8, f 9, f 10, f 11, f 12, f 13, f 14, f 15, f 16, f 17, f 18, f 19, f 20, f 21, f 22, f 23, f 24, f 25, f 26, f 27, f 28, f 29, f 30, f 31, f 32, f 33, f 34, f 35, f 36, f 37, f 38, f 39, f 40, f 41, f 42, f 43, f 44, f 45, f 46, f 47, f 48, f 49, f 50, f 51, f 52, f 53, f 54, f 55, f 56, f 57, f 58, f 59, f 60, f 61, f 62, f 63, f 64, f 65, f 66, f 67, f 68, f 69, f 70, f 71, f 72, f 73, f 74, f 75, f 76, f 77, f 78, f 79, f 80, f 81, f 82, f 83, f 84, f 85, f 86, f 87, f 88, f 89, f 90, f 91, f 92, f 93, f 94, f 95, f 96, f 97] := ⟨fun k => T.getD k undef, fun _ => rfl, (spell 98 T h).trans (by kernel_rfl)⟩
noncomputable def zdr (b g6 s q : Nat) (t z0 : Int) (M : Nat) : List SRow := [
 ⟨.move (.tmp 4), some 42, none, [], fun v _ => v = .map (some b)⟩,
 ⟨.move (.tmp 8), some 43, none, [], fun v _ => v = .int .i64 (q : Nat)⟩,
 ⟨.move (.tmp 4), some 44, none, [], fun v _ => v = .map (some b)⟩,
 ⟨.move (.tmp 8), some 45, none, [], fun v _ => v = .int .i64 (q : Nat)⟩,
 ⟨.lookup 122 (.tmp 44) (.tmp 45) false, some 46, none, [2, 3], GV z0 M⟩,
 ⟨.fieldAddr 72 (.tmp 6) 0, some 47, none, [], fun v _ => v = .pointer (some ⟨g6, 0, none⟩)⟩,
 ⟨.load 3 (.tmp 47), some 48, none, [5], fun v _ => v = .int .i64 t⟩,
 ⟨.call { callee := .value (.func 34), args := #[.tmp 48], argTypes := #[3] }, some 49, none, [6], GV t 8⟩,
 ⟨.move (.tmp 7), some 50, none, [], fun v _ => v = .int .i64 (s : Nat)⟩,
 ⟨.call { callee := .value (.func 34), args := #[.tmp 50], argTypes := #[3] }, some 51, none, [8, 7], GV s 8⟩,
 ⟨.call { callee := .value (.func 62), args := #[.tmp 49, .tmp 51], argTypes := #[88, 88] }, some 52, none, [7, 9, 9], GV (t * s) 16⟩,
 ⟨.call { callee := .value (.func 61), args := #[.tmp 46, .tmp 52], argTypes := #[88, 88] }, some 53, none, [4, 10, 10], GV (z0 + t * s) (M + 1)⟩]
noncomputable def zfk (b g6 s q : Nat) (t z0 : Int) (M : Nat) (v0 v1 v2 v3 v5 v9 v10 v11 v12 v13 v14 v15 v16 v17 v18 v19 v20 v21 v22 v23 v24 v25 v26 v27 v28 v29 v30 v31 v32 v33 v34 v35 v36 v37 v38 v39 v40 v41 v54 v55 v56 v57 v58 v59 v60 v61 v62 v63 v64 v65 v66 v67 v68 v69 v70 v71 v72 v73 v74 v75 v76 v77 v78 v79 v80 v81 v82 v83 v84 v85 v86 v87 v88 v89 v90 v91 v92 v93 v94 v95 v96 v97 : Value) : List (Nat × Value) := [(4, .map (some b)), (6, .pointer (some ⟨g6, 0, none⟩)), (7, .int .i64 (s : Nat)), (8, .int .i64 (q : Nat)), (0, v0), (1, v1), (2, v2), (3, v3), (5, v5), (9, v9), (10, v10), (11, v11), (12, v12), (13, v13), (14, v14), (15, v15), (16, v16), (17, v17), (18, v18), (19, v19), (20, v20), (21, v21), (22, v22), (23, v23), (24, v24), (25, v25), (26, v26), (27, v27), (28, v28), (29, v29), (30, v30), (31, v31), (32, v32), (33, v33), (34, v34), (35, v35), (36, v36), (37, v37), (38, v38), (39, v39), (40, v40), (41, v41), (54, v54), (55, v55), (56, v56), (57, v57), (58, v58), (59, v59), (60, v60), (61, v61), (62, v62), (63, v63), (64, v64), (65, v65), (66, v66), (67, v67), (68, v68), (69, v69), (70, v70), (71, v71), (72, v72), (73, v73), (74, v74), (75, v75), (76, v76), (77, v77), (78, v78), (79, v79), (80, v80), (81, v81), (82, v82), (83, v83), (84, v84), (85, v85), (86, v86), (87, v87), (88, v88), (89, v89), (90, v90), (91, v91), (92, v92), (93, v93), (94, v94), (95, v95), (96, v96), (97, v97)]
theorem zhA (V : World) (b g6 s q : Nat) (t z0 : Int) (M : Nat) (v0 v1 v2 v3 v5 v9 v10 v11 v12 v13 v14 v15 v16 v17 v18 v19 v20 v21 v22 v23 v24 v25 v26 v27 v28 v29 v30 v31 v32 v33 v34 v35 v36 v37 v38 v39 v40 v41 v54 v55 v56 v57 v58 v59 v60 v61 v62 v63 v64 v65 v66 v67 v68 v69 v70 v71 v72 v73 v74 v75 v76 v77 v78 v79 v80 v81 v82 v83 v84 v85 v86 v87 v88 v89 v90 v91 v92 v93 v94 v95 v96 v97 : Value) (HLK : ∀ w, Lat V w → ∃ bb A m c, (Instr.lookup 122 (.map (some b)) (.int .i64 (q : Nat)) false).run Tryz.prog w = .ok (.agg #[.bool bb, .slice A m c]) w ∧ Lg w bb A m c z0 ∧ m ≤ M) (HC : ∀ w, Lat V w → w.cell? ⟨g6, 0, none⟩ = some (.int .i64 t))
  (HF1 : ∀ w, Calls Tryz.prog 34 #[.int .i64 t] w (LongPost w t 8)) (HF2 : ∀ w, Calls Tryz.prog 34 #[.int .i64 (s : Nat)] w (LongPost w s 8))
  (HTI : ∀ b1 A1 n1 c1 b2 A2 n2 c2 w, Lg w b1 A1 n1 c1 t → Lg w b2 A2 n2 c2 s → n1 ≤ 8 → n2 ≤ 8 → Calls Tryz.prog 62 #[.agg #[.bool b1, .slice A1 n1 c1], .agg #[.bool b2, .slice A2 n2 c2]] w (LongPost w (t * s) 16))
  (HPL : ∀ b1 A1 n1 c1 b2 A2 n2 c2 w, Lg w b1 A1 n1 c1 z0 → Lg w b2 A2 n2 c2 (t * s) → n1 ≤ M → n2 ≤ 16 → Calls Tryz.prog 61 #[.agg #[.bool b1, .slice A1 n1 c1], .agg #[.bool b2, .slice A2 n2 c2]] w (LongPost w (z0 + t * s) (M + 1))) :
  AllSteps Tryz.prog (zdr b g6 s q t z0 M) (zfk b g6 s q t z0 M v0 v1 v2 v3 v5 v9 v10 v11 v12 v13 v14 v15 v16 v17 v18 v19 v20 v21 v22 v23 v24 v25 v26 v27 v28 v29 v30 v31 v32 v33 v34 v35 v36 v37 v38 v39 v40 v41 v54 v55 v56 v57 v58 v59 v60 v61 v62 v63 v64 v65 v66 v67 v68 v69 v70 v71 v72 v73 v74 v75 v76 v77 v78 v79 v80 v81 v82 v83 v84 v85 v86 v87 v88 v89 v90 v91 v92 v93 v94 v95 v96 v97) V (zdr b g6 s q t z0 M) := by
 refine nS ?_ fun a w hl hb hd o ho => by have e1 := hb 4 _ rfl; exact rp1 o ho e1 fun ev ec e1 d ty p af g => by unfold execOp; simp only [e1, ec]; go_simp
 refine nS ?_ fun a w hl hb hd o ho => by have e1 := hb 8 _ rfl; exact rp1 o ho e1 fun ev ec e1 d ty p af g => by unfold execOp; simp only [e1, ec]; go_simp
 refine nS ?_ fun a w hl hb hd o ho => by have e1 := hb 4 _ rfl; exact rp1 o ho e1 fun ev ec e1 d ty p af g => by unfold execOp; simp only [e1, ec]; go_simp
 refine nS ?_ fun a w hl hb hd o ho => by have e1 := hb 8 _ rfl; exact rp1 o ho e1 fun ev ec e1 d ty p af g => by unfold execOp; simp only [e1, ec]; go_simp
 refine nS ?_ fun a w hl hb hd o ho => by obtain ⟨_, e1, rfl⟩ := hd 2 _ _ (by simp) rfl rfl; obtain ⟨_, e2, rfl⟩ := hd 3 _ _ (by simp) rfl rfl; obtain ⟨b3, A3, n3, c3, hlk, r3, m3⟩ := HLK w hl; obtain ⟨d, op, ty, p, af, gg⟩ := o; simp only at ho; subst ho; have ec : ∀ v, a.eval (.const v) = v := fun _ => rfl; exact Runs.val (by unfold execOp; generalize a.eval = ev at e1 e2 ec ⊢; simp only [e1, e2]; go_simp) ⟨Lat.refl _, fun _ => ⟨b3, A3, n3, c3, rfl, r3, m3⟩⟩
 refine nS ?_ fun a w hl hb hd o ho => by have e1 := hb 6 _ rfl; exact rp1 o ho e1 fun ev ec e1 d ty p af g => by unfold execOp; simp only [e1, ec]; go_simp
 refine nS ?_ fun a w hl hb hd o ho => by obtain ⟨_, e1, rfl⟩ := hd 5 _ _ (by simp) rfl rfl; exact rp1 o ho e1 fun ev ec e1 d ty p af g => by unfold execOp; simp only [e1, ec]; have hc := HC w hl; go_simp
 refine nS ?_ fun a w hl hb hd o ho => by obtain ⟨_, e1, rfl⟩ := hd 6 _ _ (by simp) rfl rfl; exact Runs.call (zan (f := 34) (fun _ => by go_simp) o ho (by simp only [List.map_toArray, List.map_cons, List.map_nil, eval_const, e1])) ((HF1 w).mono fun e w' h => h.run)
 refine nS ?_ fun a w hl hb hd o ho => by have e1 := hb 7 _ rfl; exact rp1 o ho e1 fun ev ec e1 d ty p af g => by unfold execOp; simp only [e1, ec]; go_simp
 refine nS ?_ fun a w hl hb hd o ho => by obtain ⟨_, e1, rfl⟩ := hd 8 _ _ (by simp) rfl rfl; exact Runs.call (zan (f := 34) (fun _ => by go_simp) o ho (by simp only [List.map_toArray, List.map_cons, List.map_nil, eval_const, e1])) ((HF2 w).mono fun e w' h => h.run)
 refine nS ?_ fun a w hl hb hd o ho => by obtain ⟨v1, e1, q1⟩ := hd 7 _ _ (by simp) rfl rfl; obtain ⟨b1, A1, n1, c1, rfl, r1, m1⟩ := (show GV t 8 v1 w from q1); obtain ⟨v2, e2, q2⟩ := hd 9 _ _ (by simp) rfl rfl; obtain ⟨b2, A2, n2, c2, rfl, r2, m2⟩ := (show GV s 8 v2 w from q2); exact Runs.call (zan (f := 62) (fun _ => by go_simp) o ho (by simp only [List.map_toArray, List.map_cons, List.map_nil, eval_const, e1, e2])) ((HTI b1 A1 n1 c1 b2 A2 n2 c2 w r1 r2 m1 m2).mono fun e w' h => h.run)
 refine nS ?_ fun a w hl hb hd o ho => by obtain ⟨v1, e1, q1⟩ := hd 4 _ _ (by simp) rfl rfl; obtain ⟨b1, A1, n1, c1, rfl, r1, m1⟩ := (show GV z0 M v1 w from q1); obtain ⟨v2, e2, q2⟩ := hd 10 _ _ (by simp) rfl rfl; obtain ⟨b2, A2, n2, c2, rfl, r2, m2⟩ := (show GV (t * s) 16 v2 w from q2); exact Runs.call (zan (f := 61) (fun _ => by go_simp) o ho (by simp only [List.map_toArray, List.map_cons, List.map_nil, eval_const, e1, e2])) ((HPL b1 A1 n1 c1 b2 A2 n2 c2 w r1 r2 m1 m2).mono fun e w' h => h.run)
 exact AllSteps.none
theorem zaS : (Tryz.prog.info? 72).map (fun i => (i.zero, i.size, i.bytes)) = some (some (.agg #[.int .i64 0, .int .i64 0]), 2, 16) := by kernel_rfl
def zb8 (w : World) (l : List (Int × Int)) (e : Ending) (w' : World) : Prop :=
 ∃ v, e = .returned (.tuple #[v, .int .i64 (zal l)]) ∧ OwnM w' w.heap.size 72 2 v (zab (zdq l)) ∧ Lat w w'
theorem zaB {w w' : World} {l : List (Int × Int)} {z : Int} (hz : zal l = z) (h0 : z ≠ 0) (hl : Lat w w') : zb8 w l (.returned (.tuple #[.slice none 0 0, .int .i64 z])) w' := by
 refine ⟨.slice none 0 0, by rw [hz], ?_, hl⟩
 have : zdq l = [] := by unfold zdq; rw [hz, if_neg h0]
 rw [this]
 exact OwnM.nil _ _ _ _
theorem zkA {l : List (Int × Int)} {K : List Nat} (hn : l.length ≤ 400) (hok : ∀ x ∈ l, okT x) (hK : K.Pairwise (· < ·)) (hm : ∀ u, u ∈ K ↔ ∃ x ∈ l, 0 < x.2 ∧ x.1 ≠ 0 ∧ zbs x.2.toNat = u) :
  (¬ (∀ u ∈ K, zbo (cf u l)) → zal l = 6) ∧ ((∀ u ∈ K, zbo (cf u l)) → 200 < (zb7 (K.map fun u => (u, cf u l))).length → zal l = 3) ∧
    ((∀ u ∈ K, zbo (cf u l)) → ¬ 200 < (zb7 (K.map fun u => (u, cf u l))).length → zal l = 0 ∧ zdq l = zb7 (K.map fun u => (u, cf u l))) := by
 obtain ⟨h1, h2⟩ := zjf hK hm
 rw [h1]
 have h3 : ∀ (P : Prop), (∀ u ∈ K, zbo (cf u l)) → zal l = if 200 < (zaJ l).length then 3 else 0 := fun _ h => by
  unfold zal
  rw [if_neg (by omega), if_pos hok, if_pos (h2.1 h)]
 refine ⟨fun h => ?_, fun h hb => ?_, fun h hb => ?_⟩
 ·unfold zal
  rw [if_neg (by omega), if_pos hok, if_neg (fun k => h (h2.2 k))]
 ·rw [h3 True h, if_pos hb]
 ·have h4 : zal l = 0 := by rw [h3 True h, if_neg hb]
  exact ⟨h4, zc7 h4⟩
theorem zl5 (A : Option Addr) (n c : Nat) (l : List (Int × Int)) (w : World) (hs : RowM w A 2 n (zab l)) (hn : n ≤ 400) (hok : ∀ x ∈ l, okT x) :
  Calls Tryz.prog 17 #[.slice A n c] w (zb8 w l) := by
 have hlen := hs.1
 rw [zam] at hlen
 have HCT := fun w h => zgN A n c l w h (by omega)
 have hokB : okB l = true := decide_eq_true hok
 rw [hokB] at HCT
 have hnI : ¬ (400 : Int) < (n : Int) := by omega
 have HN := Lib.hid hn
 have HLEN := Lib.hid hlen
 have HS := Lib.hid hs
 have HOK := Lib.hid hok
 have hmm := @run_makeMap Tryz.prog
 clear hlen hn hs hok hokB
 go_enter Tryz.func17, Tryz.ntmps17
 go_wp2_with fail
 refine (HCT w HS.out).mono ?_
 rintro e w1 ⟨rfl, l1⟩
 clear HCT
 go_upto_region 6 with (fail)
 clear hmm
 have ML := MapL.made w1
 have L0 : Lat w (w1.alloc (.map #[] 0)) := l1.trans (Lat.alloc w1 _)
 obtain ⟨b, hb⟩ : ∃ z, w1.heap.size = z := ⟨_, rfl⟩
 rw [hb] at ML ⊢
 have HB : Hid (w.heap.size ≤ b) := by show _ ≤ b; rw [← hb]; exact l1.size
 obtain ⟨W1, hW1⟩ : ∃ W, w1.alloc (.map #[] 0) = W := ⟨_, rfl⟩
 rw [hW1] at ML L0 ⊢
 clear hb hW1 l1
 go_wp2
 go_loopw [24] (fun iv wr => ∃ (j : Nat) (D : DataW Value), j ≤ n ∧ iv = .int .i64 (j : Nat) ∧ Hid (MapL wr b j (16 + j) D (fun u => cf u.toNat (l.take j))) ∧ Hid (KeysAre D (Occ (l.take j))) ∧ Lat w wr) (fun iv _ => n - (RowKit.intOf iv).toNat)
 case atStart => exact ⟨0, .map [], Nat.zero_le _, rfl, ML.mono (Nat.le_refl _) (by omega) (fun u => by simp [zfg]), (fun u => by rw [KeysAre.nil u]; simp [Occ]), L0⟩
 case round =>
  clear ML L0
  obtain ⟨j, D, hj, rfl, hML, hKA, hl⟩ := hrel
  by_cases hjn : j < n
  ·obtain ⟨g, o, x, rfl, hg, hx, c0, c1⟩ := zaL (HS.out.later hl) hjn
   have hokx := HOK.out x (List.mem_of_getElem? hx)
   obtain ⟨t, u⟩ := x
   simp only at c0 c1
   have hjI : (j : Int) < (n : Int) := by omega
   have hj0 : (0 : Int) ≤ (j : Int) := by omega
   have wj : wrap64 ((j : Int) + 1) = (j : Int) + 1 := IntWalk.wrap64_in _ (by have := HN.out; omega)
   have HX := Lib.hid hx
   have HJN2 := Lib.hid hjn
   have HJN : Hid (j ≤ 1000000) := by have := HN.out; show j ≤ _; omega
   have HOX := Lib.hid hokx
   clear hx hg hj hjn hokx
   go_upto_region 9 with (fail)
   refine zas (Q := fun W => Code.wp _ _ _ _ W) ?_
   intro W5 l5 s5 k5
   have L5 := hl.trans l5
   have ML5 := Lib.hid (hML.out.later l5)
   obtain ⟨g6, hg6⟩ : ∃ z, wr.heap.size = z := ⟨_, rfl⟩
   rw [hg6] at k5 ⊢
   have d0 := k5.cell 0
   have d1 := k5.cell 1
   clear c0 c1 hl l5 s5 hg6 hML
   by_cases hsk : 0 < u ∧ t ≠ 0
   ·obtain ⟨hu, ht⟩ := hsk
    obtain ⟨N, rfl⟩ := Int.eq_ofNat_of_zero_le (Int.le_of_lt hu)
    have hN0 : 0 < N := by omega
    have hN1 : N ≤ 10000000000000 := by have := HOX.out.2.1; simp only at this; omega
    have HPA := Lib.hid (fun w => zfj N w hN0 hN1)
    have hcf := fun v => zom HX.out hu v
    have hoc := fun v => znu HX.out hu ht v
    simp only [Int.toNat_natCast] at hcf hoc
    have hpl := zb6 hN0
    have hpp := zct hN0
    obtain ⟨s, hs⟩ : ∃ z, zbR N = z := ⟨_, rfl⟩
    obtain ⟨q, hq⟩ : ∃ z, zbs N = z := ⟨_, rfl⟩
    rw [hs, hq] at HPA hpl hpp
    rw [hq] at hcf hoc
    rw [hs] at hcf
    have HCF := Lib.hid hcf
    have HOC := Lib.hid hoc
    have h1 : (((N : Nat) : Int) == 0) = false := by rw [beq_eq_false_iff_ne]; omega
    have h2 : ((t : Int) == 0) = false := by rw [beq_eq_false_iff_ne]; exact ht
    have htr := HOX.out.2.2
    have HQ0 : Hid (-9223372036854775808 ≤ (q : Int)) := by show _ ≤ (q : Int); omega
    have HQ1 : Hid ((q : Int) < 9223372036854775808) := by show (q : Int) < _; omega
    have HF1 : Hid (∀ w, Calls Tryz.prog 34 #[.int .i64 t] w (LongPost w t 8)) := fun w => zaY t (by have := htr.1; simp only at this; omega) (by have := htr.2; simp only at this; omega) w
    have HF2 : Hid (∀ w, Calls Tryz.prog 34 #[.int .i64 (s : Nat)] w (LongPost w s 8)) := fun w => zaY s (by omega) (by omega) w
    have HTI : Hid (∀ b1 A1 n1 c1 b2 A2 n2 c2 w, Lg w b1 A1 n1 c1 t → Lg w b2 A2 n2 c2 s → n1 ≤ 8 → n2 ≤ 8 → Calls Tryz.prog 62 #[.agg #[.bool b1, .slice A1 n1 c1], .agg #[.bool b2, .slice A2 n2 c2]] w (LongPost w (t * s) 16)) := fun b1 A1 n1 c1 b2 A2 n2 c2 w h1 h2 h3 h4 => by
     refine (zbc b1 A1 n1 c1 t b2 A2 n2 c2 s w h1 h2 (by omega) (by omega)).mono ?_
     rintro e w' ⟨b, A, m, c, h5, h6, h7, h8⟩
     exact ⟨b, A, m, c, h5, h6, by omega, h8⟩
    obtain ⟨z0, hz0⟩ : ∃ z, cf q (l.take j) = z := ⟨_, rfl⟩
    have HPL : Hid (∀ b1 A1 n1 c1 b2 A2 n2 c2 w, Lg w b1 A1 n1 c1 z0 → Lg w b2 A2 n2 c2 (t * s) → n1 ≤ 16 + j → n2 ≤ 16 → Calls Tryz.prog 61 #[.agg #[.bool b1, .slice A1 n1 c1], .agg #[.bool b2, .slice A2 n2 c2]] w (LongPost w (z0 + t * s) (16 + j + 1))) := fun b1 A1 n1 c1 b2 A2 n2 c2 w h1 h2 h3 h4 => by
     have := HJN.out
     refine (zbp b1 A1 n1 c1 z0 b2 A2 n2 c2 (t * s) w h1 h2 (by omega) (by omega)).mono ?_
     rintro e w' ⟨b, A, m, c, h5, h6, h7, h8⟩
     exact ⟨b, A, m, c, h5, h6, by omega, h8⟩
    have HLK : Hid (∀ w, Lat W5 w → ∃ bb A m c, (Instr.lookup 122 (.map (some b)) (.int .i64 (q : Nat)) false).run Tryz.prog w = .ok (.agg #[.bool bb, .slice A m c]) w ∧ Lg w bb A m c z0 ∧ m ≤ 16 + j) := fun w h => by
     obtain ⟨bb, A, m, c, a1, a2, a3⟩ := (ML5.out.later h).look (q : Nat) HQ0.out HQ1.out
     rw [Int.toNat_natCast, hz0] at a2
     exact ⟨bb, A, m, c, a1, a2, a3⟩
    have HC : Hid (∀ w, Lat W5 w → w.cell? ⟨g6, 0, none⟩ = some (.int .i64 t)) := k5.ever 0 rfl
    have HML5 := ML5
    have HZ0 := Lib.hid hz0
    clear hcf hoc hpl hpp hs hq hN0 hN1 hu ht htr hz0 ML5
    as_aux_lemma =>
    go_wp2_with fail
    refine (HPA.out W5).mono ?_
    rintro e w' ⟨rfl, rfl⟩
    clear HPA h1 h2 d0 d1
    obtain ⟨V5, rfl⟩ : ∃ V : World, V = w' := ⟨_, rfl⟩
    go_upto_region 11 with (fail)
    rename_i KN hKN
    refine zby (zdr b g6 s q t z0 (16 + j)) (zfk b g6 s q t z0 (16 + j) _ _ _ _ _ _ _ _ _ _ _ _ _ _ _ _ _ _ _ _ _ _ _ _ _ _ _ _ _ _ _ _ _ _ _ _ _ _ _ _ _ _ _ _ _ _ _ _ _ _ _ _ _ _ _ _ _ _ _ _ _ _ _ _ _ _ _ _ _ _ _ _ _ _ _ _ _ _ _ _ _ _) 98 12 [[], [], [], [], [2, 3], [], [5], [6], [], [8, 7], [7, 9, 9], [4, 10, 10], [0, 1, 11, 11, 0, 1, 2, 3, 4, 5, 6, 7, 8, 9, 10, 11]] (by kernel_rfl) _ rfl rfl (by kernel_rfl) (by kernel_rfl) (by kernel_rfl) (by kernel_rfl) (by kernel_rfl) (by kernel_rfl) (by rfl) rfl (base_of (by repeat (first | exact base_nil _ | refine zad rfl ?_))) (zhA V5 b g6 s q t z0 (16 + j) _ _ _ _ _ _ _ _ _ _ _ _ _ _ _ _ _ _ _ _ _ _ _ _ _ _ _ _ _ _ _ _ _ _ _ _ _ _ _ _ _ _ _ _ _ _ _ _ _ _ _ _ _ _ _ _ _ _ _ _ _ _ _ _ _ _ _ _ _ _ _ _ _ _ _ _ _ _ _ _ _ _ HLK.out HC.out HF1.out HF2.out HTI.out HPL.out) ?_
    intro a9 W9 hsz9 hdf9 hL9 hbs hsl
    obtain ⟨v9, h9, q9⟩ := hsl 11 _ _ rfl rfl
    obtain ⟨b9, A9, n9, c9, rfl, r9, m9⟩ := (show GV (z0 + t * s) (16 + j + 1) v9 W9 from q9)
    obtain ⟨v8, h8, q8⟩ := hsl 0 _ _ rfl rfl
    obtain rfl : v8 = .map (some b) := q8
    obtain ⟨v7, h7, q7⟩ := hsl 1 _ _ rfl rfl
    obtain rfl : v7 = .int .i64 (q : Nat) := q7
    refine znt (.tmp 42) (.tmp 43) (.tmp 53) rfl rfl h8.ev (q : Nat) HQ0.out HQ1.out h7.ev h9.ev (HML5.out.later hL9) HJN.out r9 m9 (Nat.le_succ _) (fun V6 hml6 hl6 => ?_)
    refine hKN _ _ ?_
    obtain ⟨T9, df9⟩ := a9
    obtain rfl : df9 = [] := hdf9
    obtain ⟨f, hf, rfl⟩ := znv T9 hsz9
    have X9 := fun k v h => (hf k).trans (zaa (hbs k v h))
    clear hbs hsl hf hsz9 hKN h9 h8 h7
    simp only [X9 4 _ rfl, X9 6 _ rfl, X9 7 _ rfl, X9 8 _ rfl, X9 0 _ rfl, X9 1 _ rfl, X9 2 _ rfl, X9 3 _ rfl, X9 5 _ rfl, X9 9 _ rfl, X9 10 _ rfl, X9 11 _ rfl, X9 12 _ rfl, X9 13 _ rfl, X9 14 _ rfl, X9 15 _ rfl, X9 16 _ rfl, X9 17 _ rfl, X9 18 _ rfl, X9 19 _ rfl, X9 20 _ rfl, X9 21 _ rfl, X9 22 _ rfl, X9 23 _ rfl, X9 24 _ rfl, X9 25 _ rfl, X9 26 _ rfl, X9 27 _ rfl, X9 28 _ rfl, X9 29 _ rfl, X9 30 _ rfl, X9 31 _ rfl, X9 32 _ rfl, X9 33 _ rfl, X9 34 _ rfl, X9 35 _ rfl, X9 36 _ rfl, X9 37 _ rfl, X9 38 _ rfl, X9 39 _ rfl, X9 40 _ rfl, X9 41 _ rfl, X9 54 _ rfl, X9 55 _ rfl, X9 56 _ rfl, X9 57 _ rfl, X9 58 _ rfl, X9 59 _ rfl, X9 60 _ rfl, X9 61 _ rfl, X9 62 _ rfl, X9 63 _ rfl, X9 64 _ rfl, X9 65 _ rfl, X9 66 _ rfl, X9 67 _ rfl, X9 68 _ rfl, X9 69 _ rfl, X9 70 _ rfl, X9 71 _ rfl, X9 72 _ rfl, X9 73 _ rfl, X9 74 _ rfl, X9 75 _ rfl, X9 76 _ rfl, X9 77 _ rfl, X9 78 _ rfl, X9 79 _ rfl, X9 80 _ rfl, X9 81 _ rfl, X9 82 _ rfl, X9 83 _ rfl, X9 84 _ rfl, X9 85 _ rfl, X9 86 _ rfl, X9 87 _ rfl, X9 88 _ rfl, X9 89 _ rfl, X9 90 _ rfl, X9 91 _ rfl, X9 92 _ rfl, X9 93 _ rfl, X9 94 _ rfl, X9 95 _ rfl, X9 96 _ rfl, X9 97 _ rfl]
    clear X9
    have LW := hl6.narrow (L5.trans hL9) HB.out
    have HML6 : Hid (MapL V6 b (j + 1) (16 + (j + 1)) (D.put (lk (q : Nat)) (.held (.agg #[.bool b9, .slice A9 n9 c9]))) (fun u => cf u.toNat (l.take (j + 1)))) := hml6.mono (Nat.le_refl _) (by omega) (fun v => by
     have h9 := HCF.out v
     rw [HZ0.out] at h9
     exact h9)
    have HK6 : Hid (KeysAre (D.put (lk (q : Nat)) (.held (.agg #[.bool b9, .slice A9 n9 c9]))) (Occ (l.take (j + 1)))) := fun v => by
     rw [(hKA.out.put HML5.out.1 (q : Nat) _) v, HOC.out v]
    clear hml6 hl6 hL9 HML5 HLK HC HF1 HF2 HTI HPL HCF HOC HZ0 k5 r9 m9
    go_wp2
    go_roundw
    case rel => exact ⟨j + 1, _, HJN2.out, by first | exact zac j | (rw [wj]; exact zac j), HML6, HK6, LW⟩
    case measure => first | exact zar HJN2.out | (rw [wj]; exact zar HJN2.out)
   ·have hML6 : Hid (MapL W5 b (j + 1) (16 + (j + 1)) D (fun u => cf u.toNat (l.take (j + 1)))) := ML5.out.mono (by omega) (by omega) (fun v => by rw [zkz HX.out, zl4 hsk, Int.add_zero])
    have hK6 : Hid (KeysAre D (Occ (l.take (j + 1)))) := fun v => by rw [hKA.out v, zl3 HX.out hsk v]
    have hcase : u = 0 ∨ (((u : Int) == 0) = false ∧ t = 0) := by
     have := HOX.out.1
     simp only at this
     by_cases h : u = 0
     ·exact .inl h
     ·refine .inr ⟨by rw [beq_eq_false_iff_ne]; exact h, ?_⟩
      by_cases h2 : t = 0
      ·exact h2
      ·exact absurd ⟨by omega, h2⟩ hsk
    clear hsk ML5 hKA k5
    rcases hcase with rfl | ⟨h1, rfl⟩
    ·as_aux_lemma =>
     go_wp2
     go_roundw
     case rel => exact ⟨j + 1, D, HJN2.out, by first | exact zac j | (rw [wj]; exact zac j), hML6, hK6, L5⟩
     case measure => first | exact zar HJN2.out | (rw [wj]; exact zar HJN2.out)
    ·as_aux_lemma =>
     go_wp2
     go_roundw
     case rel => exact ⟨j + 1, D, HJN2.out, by first | exact zac j | (rw [wj]; exact zac j), hML6, hK6, L5⟩
     case measure => first | exact zar HJN2.out | (rw [wj]; exact zar HJN2.out)
  ·obtain rfl : j = n := by omega
   have hge : ¬ (j : Int) < (j : Int) := Int.lt_irrefl _
   have hT : l.take j = l := List.take_of_length_le (by have := HLEN.out; omega)
   rw [hT] at hML hKA
   clear hT hj hjn
   have HSK := zi1 b j D wr hML.out.1 (Nat.le_trans HN.out (by decide))
   obtain ⟨hnd, hmem⟩ := zkb hKA.out hML.out.1
   go_wp2_with fail
   refine HSK.mono ?_
   rintro e W5 ⟨v, ss, rfl, hperm, hrow, l5⟩
   obtain ⟨K, hK1, hK2, hK3, hK4⟩ := zhq (hperm.nodup_iff.2 hnd) (fun u hu => by
    obtain ⟨x, _, _, _, hx⟩ := (hmem u).1 (hperm.mem_iff.1 hu)
    omega)
   have hm : ∀ u : Nat, u ∈ K ↔ ∃ x ∈ l, 0 < x.2 ∧ x.1 ≠ 0 ∧ zbs x.2.toNat = u := fun u => by
    rw [hK4 u, hperm.mem_iff, hmem]
    unfold Occ
    constructor
    ·rintro ⟨x, a1, a2, a3, a4⟩; exact ⟨x, a1, a2, a3, by omega⟩
    ·rintro ⟨x, a1, a2, a3, a4⟩; exact ⟨x, a1, a2, a3, by omega⟩
   have HE := Lib.hid (zkA (by have := HLEN.out; have := HN.out; omega) HOK.out hK2 hm)
   rw [hK1] at hrow
   have hOwn : Own W5 wr.heap.size 3 .i64 v (K.map fun (u : Nat) => (u : Int)) := by
    unfold Own
    rw [List.length_map, hK3]
    exact hrow
   obtain ⟨Ak, ck, rfl, sk, hck, _⟩ := hOwn.form
   rw [List.length_map] at sk hck ⊢
   have HBD := Lib.hid (fun u => zkx u l HOK.out)
   have ML5 := Lib.hid (hML.out.later l5)
   have L5 := hl.trans l5
   have HKM : Hid (∀ u ∈ K, u ≤ 10000000000000) := fun u hu => by
    obtain ⟨x, a1, a2, _, a4⟩ := (hm u).1 hu
    have h1 := HOK.out x a1
    have h2 := (zb6 (n := x.2.toNat) (by omega)).2
    have := h1.2.1
    omega
   have HML9 : Hid (K.length ≤ 400) := by
    have h1 := hML.out.1.size_le
    have h2 := hperm.length_eq
    have h3 : (intKeys D).length = Maps.size D := by
     obtain ⟨es, rfl, _⟩ := hML.out.1.entries keyI
     simp [intKeys, Maps.size]
    have := HN.out
    show K.length ≤ 400
    omega
   obtain ⟨m, hKm⟩ : ∃ m, K.length = m := ⟨_, rfl⟩
   rw [hKm] at sk hck HML9 ⊢
   have HKm := Lib.hid hKm
   have SK := Lib.hid sk
   clear HSK hnd hmem hperm hrow hK1 hK2 hK3 hK4 hm hOwn hck sk hKm hML hKA hl l5 HS
   obtain ⟨wq, rfl⟩ : ∃ W : World, W = wr := ⟨_, rfl⟩
   go_wp2
   go_loopw [9, 58] (fun v iv wr => ∃ k : Nat, k ≤ m ∧ iv = .int .i64 (k : Nat) ∧ OwnM wr W5.heap.size 72 2 v (zab (zb7 ((K.take k).map fun u => (u, cf u l)))) ∧ Hid (∀ u ∈ K.take k, zbo (cf u l)) ∧ Lat W5 wr) (fun _ iv _ => m - (RowKit.intOf iv).toNat)
   case atStart => exact ⟨0, Nat.zero_le _, rfl, by simpa [zb7, zab] using OwnM.nil _ _ _ _, (fun u hu => by simp at hu), Lat.refl _⟩
   case round =>
    obtain ⟨k, hk, rfl, hown, hin, hl⟩ := hrel
    by_cases hkm : k < m
    ·obtain ⟨a0, x, rfl, hblk, hx, hcell⟩ := (SK.out.later hl).at hkm
     obtain ⟨q, hq, rfl⟩ : ∃ q : Nat, K[k]? = some q ∧ x = (q : Int) := by
      rw [List.getElem?_map] at hx
      cases hk : K[k]? with
      | none => rw [hk] at hx; cases hx
      | some q => rw [hk] at hx; cases hx; exact ⟨q, rfl, rfl⟩
     have hqb := HKM.out q (List.mem_of_getElem? hq)
     obtain ⟨bb, A2, mm, cc, hlk, hlg, hmm⟩ := (ML5.out.later hl).look (q : Nat) (by omega) (by omega)
     rw [Int.toNat_natCast] at hlg
     obtain ⟨z, hz⟩ : ∃ z, cf q l = z := ⟨_, rfl⟩
     rw [hz] at hlg
     have hzb := HBD.out q
     rw [hz] at hzb
     have hll := HLEN.out
     have hnn := HN.out
     have hPh := zky
     have hz0 : -zaV ≤ z := by omega
     have hz1 : z < zaV := by omega
     have HT := zcj bb A2 mm cc z wr hlg (by omega)
     have HWI := fun w => zh6 (W8.of z) (W8.of_ok z) w
     rw [W8.of_toInt hz0 hz1] at HWI
     have hTK : K.take (k + 1) = K.take k ++ [q] := by
      obtain ⟨h1, h2⟩ := List.getElem?_eq_some_iff.1 hq
      rw [List.take_succ_eq_append_getElem h1, h2]
     have hout : Hid (zb7 ((K.take (k + 1)).map fun u => (u, cf u l)) = zb7 ((K.take k).map fun u => (u, cf u l)) ++ (if z = 0 then [] else [(z, (q : Int))])) := by
      show _ = _
      rw [hTK, List.map_append, List.map_cons, List.map_nil, zej, hz]
     have hin2 : Hid (zbo z → ∀ u ∈ K.take (k + 1), zbo (cf u l)) := fun h u hu => by
      rw [hTK] at hu
      rcases List.mem_append.1 hu with hu | hu
      ·exact hin.out u hu
      ·rw [List.mem_singleton] at hu; rw [hu, hz]; exact h
     have hbad : Hid (¬ zbo z → zal l = 6) := fun h => HE.out.1 (fun k => h (by rw [← hz]; exact k q (List.mem_of_getElem? hq)))
     have hol : Hid ((zab (zb7 ((K.take k).map fun u => (u, cf u l)))).length ≤ 100000000) := by
      have h1 := zdN ((K.take k).map fun u => (u, cf u l))
      rw [List.length_map, List.length_take] at h1
      have := HKm.out
      have := HML9.out
      show (zab _).length ≤ _
      rw [zam]
      omega
     have HW := Lib.hid (fun w => zcu (zeR z) w)
     have HKMK := Lib.hid hkm
     have hkI : (k : Int) < (m : Int) := by omega
     have hk0 : (0 : Int) ≤ (k : Int) := by omega
     have wk : wrap64 ((k : Int) + 1) = (k : Int) + 1 := IntWalk.wrap64_in _ (by have := HML9.out; omega)
     have HZR : Hid (-zaV ≤ z ∧ z < zaV) := ⟨hz0, hz1⟩
     obtain ⟨uu, huu⟩ : ∃ u, W8.of z = u := ⟨_, rfl⟩
     have HUU := Lib.hid huu
     rw [huu] at HWI
     have HWI2 := Lib.hid HWI
     clear hTK hx hq hqb hzb hll hnn hPh hz0 hz1 hmm huu HWI hk hkm hz hin
     as_aux_lemma =>
     go_wp2_with fail
     refine HT.mono ?_
     rintro e w6 ⟨u8, r, rfl, hc8, l6⟩
     have hc9 : u8 = uu ∧ r = 0 := by
      rcases hc8 with ⟨_, _, h3, h4⟩ | ⟨h3, _, _⟩
      ·exact ⟨h3.trans HUU.out, h4⟩
      ·have := HZR.out; omega
     obtain ⟨rfl, rfl⟩ := hc9
     clear hc8 HT hlk
     go_upto_region 18 with (fail)
     refine zas (Q := fun W => Code.wp _ _ _ _ W) ?_
     intro W7 l7 s7 k7
     have c0 := k7.cell 0
     have c1 := k7.cell 1
     have c2 := k7.cell 2
     have c3 := k7.cell 3
     have c4 := k7.cell 4
     have c5 := k7.cell 5
     have c6 := k7.cell 6
     have c7 := k7.cell 7
     go_wp2_with fail
     refine (HWI2.out W7).mono ?_
     rintro e w8 ⟨rfl, l8⟩
     clear c0 c1 c2 c3 c4 c5 c6 c7 k7 s7 HWI2
     have lx := (l6.trans l7).trans l8
     have L8 := hl.trans lx
     have hown8 := hown.later lx
     clear l6 l7 l8 lx hown hl hlg hcell
     by_cases hr : zbo z
     ·have hi0 : zdM z = 0 := by unfold zdM; rw [if_pos (by have := hr.1; have := hr.2; omega)]
      have hiv : zeR z = z := by unfold zeR; rw [if_pos (by have := hr.1; have := hr.2; omega)]
      have HW1 := HW.out
      rw [hiv, decide_eq_true hr] at HW1
      rw [hi0, hiv]
      have HIN := Lib.hid (hin2.out hr)
      have hBs : W5.heap.size ≤ w8.heap.size := L8.size
      have hnb : w.heap.size ≤ W5.heap.size := L5.size
      clear hr hi0 hiv HW hin2 hbad
      go_wp2_with fail
      refine (HW1 w8).mono ?_
      rintro e w9 ⟨rfl, rfl⟩
      clear HW1
      by_cases hzz : z = 0
      ·as_aux_lemma =>
       subst hzz
       have hout2 := hout.out
       rw [if_pos rfl, List.append_nil] at hout2
       rw [← hout2] at hown8
       clear hout hout2
       go_wp2
       go_roundw
       case rel => exact ⟨k + 1, HKMK.out, by first | exact zac k | (rw [wk]; exact zac k), hown8, HIN, L8⟩
       case measure => first | exact zar HKMK.out | (rw [wk]; exact zar HKMK.out)
      ·as_aux_lemma =>
       have hzB : ((z : Int) != 0) = true := by simp [hzz]
       have hout2 := hout.out
       rw [if_neg hzz] at hout2
       have HO2 : Hid (zab (zb7 ((K.take (k + 1)).map fun u => (u, cf u l))) = zab (zb7 ((K.take k).map fun u => (u, cf u l))) ++ [[.int .i64 z, .int .i64 (q : Nat)]]) := by
        show _ = _
        rw [hout2]
        simp [zab, zji]
       have hownA := hown8.later (Lat.alloc w9 (.cells #[.int .i64 z, .int .i64 (q : Nat)] 72))
       clear hout hout2 hzz hown8
       go_wp2_with (at_builtin; refine zaR rfl _ _ 27 (by rfl) W5.heap.size 72 72 (.agg #[.int .i64 0, .int .i64 0]) 2 16 Tryz.underlying27 zaS rfl (by decide) (by decide) _ _ [.int .i64 z, .int .i64 (q : Nat)] (by simp [Value.oneCell']) _ w9.heap.size (by rfl) hownA (Blk.new _ _ _) rfl 1 (by rfl) hol.out (by simp; omega) ?_; intro v' w' h1 h2 h3)
       have L9 := h3 W5 (L8.trans (Lat.alloc _ _)) (Nat.le_refl _)
       rw [← HO2.out] at h1
       clear h2 h3 hownA
       go_wp2
       go_roundw
       case rel => exact ⟨k + 1, HKMK.out, by first | exact zac k | (rw [wk]; exact zac k), h1, HIN, L9⟩
       case measure => first | exact zar HKMK.out | (rw [wk]; exact zar HKMK.out)
     ·have hE6 := hbad.out hr
      have LF := L5.trans L8
      by_cases hr2 : -9223372036854775808 ≤ z ∧ z < 9223372036854775808
      ·as_aux_lemma =>
       have hi0 : zdM z = 0 := by unfold zdM; rw [if_pos hr2]
       have hiv : zeR z = z := by unfold zeR; rw [if_pos hr2]
       have HW1 := HW.out
       rw [hiv, decide_eq_false hr] at HW1
       rw [hi0, hiv]
       clear hr hi0 hiv HW hin2 hbad hr2 hout
       go_wp2_with fail
       refine (HW1 w8).mono ?_
       rintro e w9 ⟨rfl, rfl⟩
       clear HW1
       go_wp2
       go_ret2
       exact zaB hE6 (by decide) LF
      ·as_aux_lemma =>
       have hi0 : zdM z = 6 := by unfold zdM; rw [if_neg hr2]
       rw [hi0]
       clear hr hi0 HW hin2 hbad hr2 hout
       go_wp2
       go_ret2
       exact zaB hE6 (by decide) LF
    ·as_aux_lemma =>
     obtain rfl : k = m := by omega
     have hge : ¬ (k : Int) < (k : Int) := Int.lt_irrefl _
     have hT : K.take k = K := List.take_of_length_le (by have := HKm.out; omega)
     rw [hT] at hown hin
     obtain ⟨A7, c7, rfl, r7, hc7, _, _⟩ := hown.form
     rw [zam] at r7 hc7 ⊢
     have hLF := L5.trans hl
     have hnb : w.heap.size ≤ W5.heap.size := L5.size
     obtain ⟨_, e3, e0⟩ := HE.out
     have e3 := Lib.hid (e3 hin.out)
     have e0 := Lib.hid (e0 hin.out)
     obtain ⟨O, hO⟩ : ∃ O, zb7 (K.map fun u => (u, cf u l)) = O := ⟨_, rfl⟩
     rw [hO] at e3 e0 hown r7 hc7 ⊢
     have hownB := Lib.hid (hown.base hnb)
     clear HE hT hO hin hown r7 hc7 hk hkm
     by_cases hbig : 200 < O.length
     ·have h3 := e3.out hbig
      have hbI : (200 : Int) < (O.length : Int) := by omega
      clear hbig e0 e3
      go_wp2
      go_ret2
      exact zaB h3 (by decide) hLF
     ·obtain ⟨h0, h1⟩ := e0.out hbig
      have hbI : ¬ (200 : Int) < (O.length : Int) := by omega
      have HH : Hid (zal l = 0 ∧ zdq l = O) := ⟨h0, h1⟩
      clear hbig e0 e3 h0 h1
      go_wp2
      go_ret2
      have := hownB.out
      rw [zam] at this
      refine ⟨.slice A7 O.length c7, by first | rfl | (rw [HH.out.1]; rfl), ?_, hLF⟩
      rw [HH.out.2]
      exact this
theorem zkB (A : Option Addr) (n c : Nat) (l : List (Int × Int)) (w : World) (hl : l.length = n) (hn : 400 < n) : Calls Tryz.prog 17 #[.slice A n c] w (zb8 w l) := by
 have hE : zal l = 3 := by unfold zal; rw [if_pos (by omega)]
 have hnI : (400 : Int) < (n : Int) := by omega
 go_enter Tryz.func17, Tryz.ntmps17
 go_wp2
 go_ret2
 exact zaB hE (by decide) (Lat.refl _)
theorem zl6 (A : Option Addr) (n c : Nat) (l : List (Int × Int)) (w : World) (hs : RowM w A 2 n (zab l)) (hn : n ≤ 400) (hok : ¬ ∀ x ∈ l, okT x) : Calls Tryz.prog 17 #[.slice A n c] w (zb8 w l) := by
 have hlen := hs.1
 rw [zam] at hlen
 have hE : zal l = 2 := by unfold zal; rw [if_neg (by omega), if_neg hok]
 have HCT := zgN A n c l w hs (by omega)
 have hokB : okB l = false := decide_eq_false hok
 rw [hokB] at HCT
 have hnI : ¬ (400 : Int) < (n : Int) := by omega
 clear hlen hn hs hok hokB
 go_enter Tryz.func17, Tryz.ntmps17
 go_wp2_with fail
 refine HCT.mono ?_
 rintro e w1 ⟨rfl, l1⟩
 clear HCT
 go_wp2
 go_ret2
 exact zaB hE (by decide) l1
theorem zfU (A : Option Addr) (n c : Nat) (l : List (Int × Int)) (w : World) (hs : RowM w A 2 n (zab l)) : Calls Tryz.prog 17 #[.slice A n c] w (zb8 w l) := by
 have hlen : l.length = n := by have := hs.1; rw [zam] at this; exact this
 by_cases hn : n ≤ 400
 ·by_cases hok : ∀ x ∈ l, okT x
  ·exact zl5 A n c l w hs hn hok
  ·exact zl6 A n c l w hs hn hok
 ·exact zkB A n c l w hlen (by omega)
end Go.Proofs.YtpmbglhbcjbkcaaGreat
