/- Several texts in one: ChK, ChL, ChM. -/
import Derived.Test.YtpmbglhbcjbkcaaGreatH14
import Derived.WideMake
namespace Go.Proofs.YtpmbglhbcjbkcaaGreat
set_option maxHeartbeats 16000000
set_option maxRecDepth 100000
open Go.RowKit
set_option linter.unusedSimpArgs false
def zjj : Array MapEntry := #[{ key := .int .u8 43, val := .func (.func 137) #[] #[], born := 0 }, { key := .int .u8 45, val := .func (.func 138) #[] #[], born := 1 }, { key := .int .u8 42, val := .func (.func 139) #[] #[], born := 2 }]
theorem zhB {w : World} {r clock : Nat} {es : Array MapEntry} (k : Int) (val : Value) (hb : w.heap[r]? = some (.map es clock)) (hf : Instr.findNow (.int .u8) (.int .u8 k) es.toList 0 = some none) :
  (Instr.mapUpdate 188 (.map (some r)) (.int .u8 k) val).run Tryz.prog w = .ok () (w.putObj r (.map (es.push { key := .int .u8 k, val := val, born := clock }) (clock + 1))) := by
 have hk := Tryz.underlying5
 have hc : (Instr.checkKey false 10000 5 (.int .u8 k)).run Tryz.prog w = .ok () w := MapKept.run_checkKey (k := .int .u8 k) hk (by simp [MapKept.IsKey]) false 9999
 simp [Instr.mapUpdate, run_underlying Tryz.underlying188, MapKept.run_getObj_map hb, hc, MapKept.run_findKey hk hf, MapKept.run_setObj_map _ hb, Result.andThen, World.putObj]
theorem zl7 {w : World} {r clock i : Nat} {es : Array MapEntry} (k : Int) (val : Value) (hb : w.heap[r]? = some (.map es clock)) (hf : Instr.findNow (.int .u8) (.int .u8 k) es.toList 0 = some (some (i, val))) :
  (Instr.lookup 188 (.map (some r)) (.int .u8 k) false).run Tryz.prog w = .ok val w := by
 have hk := Tryz.underlying5
 have hc : (Instr.checkKey es.isEmpty 10000 5 (.int .u8 k)).run Tryz.prog w = .ok () w := MapKept.run_checkKey (k := .int .u8 k) hk (by simp [MapKept.IsKey]) _ 9999
 simp [Instr.lookup, run_underlying Tryz.underlying188, MapKept.run_getObj_map hb, hc, MapKept.run_findKey hk hf, Result.andThen]
theorem zcD (w : World) : Calls Tryz.prog 130 #[] w (fun e w' => ∃ r, e = .returned (.map (some r)) ∧ w'.heap[r]? = some (.map zjj 3) ∧ Lat w w') := by
 have hmm := @run_makeMap Tryz.prog
 have b0 : (w.alloc (.map #[] 0)).heap[w.heap.size]? = some (.map #[] 0) := World.alloc_heap_new w _
 have p1 := zbj (o := .map #[{ key := .int .u8 43, val := .func (.func 137) #[] #[], born := 0 }] 1) (zaw b0)
 have b1 := zcZ (o := .map #[{ key := .int .u8 43, val := .func (.func 137) #[] #[], born := 0 }] 1) (zaw b0)
 have h1 := zhB 43 (.func (.func 137) #[] #[]) b0 (by rfl)
 have p2 := zbj (o := .map #[{ key := .int .u8 43, val := .func (.func 137) #[] #[], born := 0 }, { key := .int .u8 45, val := .func (.func 138) #[] #[], born := 1 }] 2) (zaw b1)
 have b2 := zcZ (o := .map #[{ key := .int .u8 43, val := .func (.func 137) #[] #[], born := 0 }, { key := .int .u8 45, val := .func (.func 138) #[] #[], born := 1 }] 2) (zaw b1)
 have h2 := zhB 45 (.func (.func 138) #[] #[]) b1 (by rfl)
 have p3 := zbj (o := .map zjj 3) (zaw b2)
 have b3 := zcZ (o := .map zjj 3) (zaw b2)
 have h3 := zhB 42 (.func (.func 139) #[] #[]) b2 (by rfl)
 have LF := ((p1.trans p2).trans p3).narrow (Lat.alloc w (.map #[] 0)) (Nat.le_refl _)
 have HB := Lib.hid b3
 have HL := Lib.hid LF
 clear p1 p2 p3 b0 b1 b2 b3 LF
 go_enter Tryz.func130, Tryz.ntmps130
 go_wp2
 go_ret
 exact ⟨_, rfl, HB.out, HL.out⟩
theorem zcO {P : Program} {md : Region.Mode} {ops : Array Oper} {Q : Exit → Act → World → Prop} {S S' : World → Prop} (hS : ∀ w, S' w → S w) :
  ∀ (fuel : Nat) (listed : Array Bool) (a : Act) (w : World), wpAnyH P md ops Q S' fuel listed a w → wpAnyH P md ops Q S fuel listed a w
 | 0, _, _, _, h => h
 | fuel + 1, _, _, _, h => ⟨h.1, fun i hi => wpOp_mono (fun a' w' h' => ⟨hS _ h'.1, zcO hS fuel _ a' w' h'.2⟩) (h.2 i hi)⟩
theorem zgO : (Tryz.prog.info? 38).map (·.size) = some 8 := by kernel_rfl
theorem zgP {w w' : World} {z : Int} (h : z < -zaV ∨ zaV ≤ z) (hl : Lat w w') : zba w z (.returned (.tuple #[.agg (W8.one W8.zero), .int .i64 6])) w' := ⟨W8.zero, 6, rfl, .inr ⟨h, rfl, rfl⟩, hl⟩
theorem znw (fid : FuncId) (sg : Int) (zc : Int → Int → Int) (hent : ∀ args w, (callFunc fid args).run Tryz.prog w = .ok (.enter fid args) w)
  (HLK : ∀ (w : World) (r : Nat), w.heap[r]? = some (.map zjj 3) → (Instr.lookup 188 (.map (some r)) (.int .u8 sg) false).run Tryz.prog w = .ok (.func (.func fid) #[] #[]) w)
  (x y : W8) (hx : x.ok) (hy : y.ok)
  (HSM : ∀ (b1 b2 : Bool) (u1 u2 : W8), u1.ok → u2.ok → (b2 = true → u2.mag ≠ 0) → x.toInt = sgn b1 u1.mag → y.toInt = sgn b2 u2.mag → ∀ w, Calls Tryz.prog fid #[.agg #[.bool b1, u1.b0, u1.b1, u1.b2, u1.b3, u1.b4, u1.b5, u1.b6, u1.b7], .agg #[.bool b2, u2.b0, u2.b1, u2.b2, u2.b3, u2.b4, u2.b5, u2.b6, u2.b7]] w (zfH w (zc (sgn b1 u1.mag) (sgn b2 u2.mag)))) (w : World) : Calls Tryz.prog 108 #[.agg (W8.one x), .agg (W8.one y), .int .u8 sg] w (zba w (zc x.toInt y.toInt)) := by
 have HRX := zfF x hx
 have HRY := zfF y hy
 obtain ⟨zx, hzx⟩ : ∃ z, x.toInt = z := ⟨_, rfl⟩
 obtain ⟨zy, hzy⟩ : ∃ z, y.toInt = z := ⟨_, rfl⟩
 rw [hzx] at HRX HSM ⊢
 rw [hzy] at HRY HSM ⊢
 clear hzx hzy hx hy
 go_enter Tryz.func108, Tryz.ntmps108
 go_upto_region 1 with (fail)
 refine za0 (Q := fun W => Code.wp _ _ _ _ W) ?_
 intro W hl hs k1 k2 k6
 rename_i KN hKN
 have TAIL : ∀ (g8 : Nat) (b c : Bool) (u : W8) (a10 a11 a12 a13 a14 a15 a16 a17 a18 a19 a20 : Value) (V9 : World), u.ok → (c = false → zc zx zy = sgn b u.mag ∧ (b = true → u.mag ≠ 0)) → (c = true → zc zx zy < -zaV ∨ zaV ≤ zc zx zy) →
   Lat w V9 → Blk V9 g8 163 #[.bool b, u.b0, u.b1, u.b2, u.b3, u.b4, u.b5, u.b6, u.b7] → Blk V9 (w.heap.size + 1 + 1) 38 (W8.one W8.zero) →
   KN { tmps := #[.agg (W8.one x), .agg (W8.one y), .int .u8 sg, .pointer (some ⟨w.heap.size, 0, none⟩), .pointer (some ⟨w.heap.size + 1, 0, none⟩), undef, .pointer (some ⟨w.heap.size + 1 + 1, 0, none⟩), .int .i64 0, .pointer (some ⟨g8, 0, none⟩), .bool c,
    a10, a11, a12, a13, a14, a15, a16, a17, a18, a19, a20, undef, undef, undef, undef, undef, undef], defers := [] } V9 := by
  clear HRX HRY k1 k2 k6 hl hs
  intro g8 b c u a10 a11 a12 a13 a14 a15 a16 a17 a18 a19 a20 V9 r1 r2 r3 L10 KS K6
  refine hKN _ _ ?_
  obtain ⟨z, hz⟩ : ∃ z, zc zx zy = z := ⟨_, rfl⟩
  rw [hz] at r2 r3 ⊢
  clear hz
  have FU := Lib.hid r1
  clear r1
  cases c with
  | true =>
    have FF := Lib.hid (r3 rfl)
    clear r2 r3
    have d8 := K6.lt
    have d0 := K6.cell 0
    have d1 := K6.cell 1
    have d2 := K6.cell 2
    have d3 := K6.cell 3
    have d4 := K6.cell 4
    have d5 := K6.cell 5
    have d6 := K6.cell 6
    have d7 := K6.cell 7
    have f0 := K6.frozen 0
    have f1 := K6.frozen 1
    have f2 := K6.frozen 2
    have f3 := K6.frozen 3
    have f4 := K6.frozen 4
    have f5 := K6.frozen 5
    have f6 := K6.frozen 6
    have f7 := K6.frozen 7
    go_wp2
    refine zd1 (Q := fun W => bodyPost _ _ _ _ _ W) K6 ?_
    intro V11 J6 l11
    clear d0 d1 d2 d3 d4 d5 d6 d7
    have e0 := J6.cell 0
    have e1 := J6.cell 1
    have e2 := J6.cell 2
    have e3 := J6.cell 3
    have e4 := J6.cell 4
    have e5 := J6.cell 5
    have e6 := J6.cell 6
    have e7 := J6.cell 7
    have hp := zgP FF.out (l11.narrow L10 (by omega))
    refine bodyPost_ret (v := .tuple #[.agg (W8.one W8.zero), .int .i64 6]) (by simp [results, Tryz.results108, go_sem, e0, e1, e2, e3, e4, e5, e6, e7, W8.zero]) rfl ?_
    exact hp
  | false =>
    have FZ := Lib.hid (r2 rfl)
    clear r2 r3
    have T := zdY b u FU.out FZ.out.2 V9
    have e0 := KS.cell 0
    have e1 := KS.cell 1
    have e2 := KS.cell 2
    have e3 := KS.cell 3
    have e4 := KS.cell 4
    have e5 := KS.cell 5
    have e6 := KS.cell 6
    have e7 := KS.cell 7
    have e8 := KS.cell 8
    go_wp2_with fail
    refine T.mono ?_
    rintro e V10 ⟨uu, rr, rfl, hh, l10⟩
    have HH := Lib.hid hh
    have K6 := K6.later l10
    have L11 := L10.trans l10
    clear e0 e1 e2 e3 e4 e5 e6 e7 e8
    clear hh l10 KS L10 T
    have d8 := K6.lt
    have d0 := K6.cell 0
    have d1 := K6.cell 1
    have d2 := K6.cell 2
    have d3 := K6.cell 3
    have d4 := K6.cell 4
    have d5 := K6.cell 5
    have d6 := K6.cell 6
    have d7 := K6.cell 7
    have f0 := K6.frozen 0
    have f1 := K6.frozen 1
    have f2 := K6.frozen 2
    have f3 := K6.frozen 3
    have f4 := K6.frozen 4
    have f5 := K6.frozen 5
    have f6 := K6.frozen 6
    have f7 := K6.frozen 7
    go_wp2
    refine zd1 (Q := fun W => bodyPost _ _ _ _ _ W) K6 ?_
    intro V11 J6 l11
    clear d0 d1 d2 d3 d4 d5 d6 d7
    have e0 := J6.cell 0
    have e1 := J6.cell 1
    have e2 := J6.cell 2
    have e3 := J6.cell 3
    have e4 := J6.cell 4
    have e5 := J6.cell 5
    have e6 := J6.cell 6
    have e7 := J6.cell 7
    refine bodyPost_ret (v := .tuple #[.agg (W8.one uu), .int .i64 rr]) (by simp [results, Tryz.results108, go_sem, e0, e1, e2, e3, e4, e5, e6, e7]) rfl ?_
    refine ⟨uu, rr, rfl, ?_, l11.narrow L11 (by omega)⟩
    rw [FZ.out.1]
    exact HH.out
 clear hKN
 have R1 : ∀ w', Lat W w' → w'.rangeAt w.heap.size 0 [x.b0, x.b1, x.b2, x.b3, x.b4, x.b5, x.b6, x.b7] := fun w' hl => Blk.rangeAll (l := [x.b0, x.b1, x.b2, x.b3, x.b4, x.b5, x.b6, x.b7]) (k1.later hl)
 have R2 : ∀ w', Lat W w' → w'.rangeAt (w.heap.size + 1) 0 [y.b0, y.b1, y.b2, y.b3, y.b4, y.b5, y.b6, y.b7] := fun w' hl => Blk.rangeAll (l := [y.b0, y.b1, y.b2, y.b3, y.b4, y.b5, y.b6, y.b7]) (k2.later hl)
 have L0 := Lat.drew W
 refine wp_region_held_drew (S := fun w' => Lat W w') (by kernel_rfl) L0 (fun hHeld => ?_)
 generalize W.drew = V0 at L0 hHeld ⊢
 refine wpAnyH_take (i := 1) (v := .int .u8 sg) rfl (by kernel_rfl) (by kernel_rfl) (by kernel_rfl) (fun _ _ _ h => h) (Or.inl ⟨by rfl, by intro w' hS; go_simp⟩) hHeld ?_
 simp only [Act.put, List.getElem_toArray, List.getElem_cons_succ, List.getElem_cons_zero, List.setIfInBounds_toArray, List.set_cons_zero, List.set_cons_succ]
 refine' wpAnyH_take (i := 3) rfl (by kernel_rfl) (by kernel_rfl) (by kernel_rfl) (fun _ _ _ h => h) (yieldsIf_load_mid (by rfl) 38 (.tmp 3) rfl w.heap.size 0 rfl _ _ R1 Tryz.underlying38 rfl zgO) hHeld ?_
 simp only [Act.put, List.getElem_toArray, List.getElem_cons_succ, List.getElem_cons_zero, List.setIfInBounds_toArray, List.set_cons_zero, List.set_cons_succ]
 refine' wpAnyH_take (i := 5) rfl (by kernel_rfl) (by kernel_rfl) (by kernel_rfl) (fun _ _ _ h => h) (yieldsIf_load_mid (by rfl) 38 (.tmp 4) rfl (w.heap.size + 1) 0 rfl _ _ R2 Tryz.underlying38 rfl zgO) hHeld ?_
 simp only [Act.put, List.getElem_toArray, List.getElem_cons_succ, List.getElem_cons_zero, List.setIfInBounds_toArray, List.set_cons_zero, List.set_cons_succ]
 refine wpAnyH_ready (rs := [0, 11]) (by kernel_rfl) (by simp) (AllReadyH.cons rfl (fun K hK => ?_) (AllReadyH.cons rfl (fun K hK => ?_) AllReadyH.nil))
 ·skip
  go_simp
  refine (zcD _).mono ?_
  rintro e V1 ⟨mp, rfl, hm, la⟩
  have L1 := L0.trans la
  refine hK.out _ _ L1 (fun hHeld1 => ?_)
  clear hK K
  try simp only [Act.put, List.getElem_toArray, List.getElem_cons_succ, List.getElem_cons_zero, List.setIfInBounds_toArray, List.set_cons_zero, List.set_cons_succ]
  clear la
  refine zcO (S' := fun w' => Lat W w' ∧ w'.heap[mp]? = some (.map zjj 3)) (fun w' h => h.1) _ _ _ _ ?_
  have B0 : Lat W V1 ∧ V1.heap[mp]? = some (.map zjj 3) := ⟨L1, hm⟩
  refine wpAnyH_take (i := 2) (v := .func (.func fid) #[] #[]) rfl (by kernel_rfl) (by kernel_rfl) (by kernel_rfl) (fun _ _ _ h => h) (Or.inl ⟨by rfl, by intro w' hS; have hlk := HLK w' _ hS.2; go_simp⟩) B0 ?_
  simp only [Act.put, List.getElem_toArray, List.getElem_cons_succ, List.getElem_cons_zero, List.setIfInBounds_toArray, List.set_cons_zero, List.set_cons_succ]
  refine wpAnyH_ready (rs := [4, 11]) (by kernel_rfl) (by simp) (AllReadyH.cons rfl (fun K hK => ?_) (AllReadyH.cons rfl (fun K hK => ?_) AllReadyH.nil))
  ·skip
   go_simp
   refine (HRX _).mono ?_
   rintro e V2 ⟨b1, u1, rfl, h1, z1, n1, la⟩
   have hm := (Below.block la _ (zaw hm)).trans hm
   have L2 := L1.trans la
   refine hK.out _ _ ⟨L2, hm⟩ (fun hHeld2 => ?_)
   clear hK K
   try simp only [Act.put, List.getElem_toArray, List.getElem_cons_succ, List.getElem_cons_zero, List.setIfInBounds_toArray, List.set_cons_zero, List.set_cons_succ]
   clear la
   refine wpAnyH_ready (rs := [6, 11]) (by kernel_rfl) (by simp) (AllReadyH.cons rfl (fun K hK => ?_) (AllReadyH.cons rfl (fun K hK => ?_) AllReadyH.nil))
   ·skip
    go_simp
    refine (HRY _).mono ?_
    rintro e V3 ⟨b2, u2, rfl, h2, z2, n2, la⟩
    have hm := (Below.block la _ (zaw hm)).trans hm
    have L3 := L2.trans la
    refine hK.out _ _ ⟨L3, hm⟩ (fun hHeld3 => ?_)
    clear hK K
    try simp only [Act.put, List.getElem_toArray, List.getElem_cons_succ, List.getElem_cons_zero, List.setIfInBounds_toArray, List.set_cons_zero, List.set_cons_succ]
    clear la
    refine wpAnyH_ready (rs := [7, 11]) (by kernel_rfl) (by simp) (AllReadyH.cons rfl (fun K hK => ?_) (AllReadyH.cons rfl (fun K hK => ?_) AllReadyH.nil))
    ·skip
     go_simp
     refine (HSM b1 b2 u1 u2 h1 h2 n2 z1 z2 _).mono ?_
     rintro e V4 ⟨b, u, c, rfl, r1, r2, r3, la⟩
     rw [← z1, ← z2] at r2 r3
     have hm := (Below.block la _ (zaw hm)).trans hm
     have L4 := L3.trans la
     refine hK.out _ _ ⟨L4, hm⟩ (fun hHeld4 => ?_)
     clear hK K
     try simp only [Act.put, List.getElem_toArray, List.getElem_cons_succ, List.getElem_cons_zero, List.setIfInBounds_toArray, List.set_cons_zero, List.set_cons_succ]
     clear la
     refine wpAnyH_take (i := 8) (v := .tuple #[.agg #[.bool b, u.b0, u.b1, u.b2, u.b3, u.b4, u.b5, u.b6, u.b7], .bool c]) rfl (by kernel_rfl) (by kernel_rfl) (by kernel_rfl) (fun _ _ _ h => h) (Or.inl ⟨by rfl, by intro w' hS; go_simp⟩) hHeld4 ?_
     simp only [Act.put, List.getElem_toArray, List.getElem_cons_succ, List.getElem_cons_zero, List.setIfInBounds_toArray, List.set_cons_zero, List.set_cons_succ]
     refine wpAnyH_take (i := 9) (v := .agg #[.bool b, u.b0, u.b1, u.b2, u.b3, u.b4, u.b5, u.b6, u.b7]) rfl (by kernel_rfl) (by kernel_rfl) (by kernel_rfl) (fun _ _ _ h => h) (Or.inl ⟨by rfl, by intro w' hS; go_simp⟩) hHeld4 ?_
     simp only [Act.put, List.getElem_toArray, List.getElem_cons_succ, List.getElem_cons_zero, List.setIfInBounds_toArray, List.set_cons_zero, List.set_cons_succ]
     refine wpAnyH_take (i := 10) (v := .bool c) rfl (by kernel_rfl) (by kernel_rfl) (by kernel_rfl) (fun _ _ _ h => h) (Or.inl ⟨by rfl, by intro w' hS; go_simp⟩) hHeld4 ?_
     simp only [Act.put, List.getElem_toArray, List.getElem_cons_succ, List.getElem_cons_zero, List.setIfInBounds_toArray, List.set_cons_zero, List.set_cons_succ]
     refine wpAnyH_ready (rs := [11]) (by kernel_rfl) (by simp) (AllReadyH.cons rfl (fun K hK => ?_) AllReadyH.nil)
     go_simp
     have b8 := Blk.new V4 163 #[.bool false, .int .u64 0, .int .u64 0, .int .u64 0, .int .u64 0, .int .u64 0, .int .u64 0, .int .u64 0, .int .u64 0]
     have hg8 : W.heap.size ≤ V4.heap.size := L4.size
     have la := Lat.alloc V4 (.cells #[.bool false, .int .u64 0, .int .u64 0, .int .u64 0, .int .u64 0, .int .u64 0, .int .u64 0, .int .u64 0, .int .u64 0] 163)
     obtain ⟨V5, hV⟩ : ∃ V, V4.alloc (.cells #[.bool false, .int .u64 0, .int .u64 0, .int .u64 0, .int .u64 0, .int .u64 0, .int .u64 0, .int .u64 0, .int .u64 0] 163) = V := ⟨_, rfl⟩
     rw [hV] at b8 la ⊢
     clear hV
     generalize V4.heap.size = g8 at b8 hg8 ⊢
     have hm := (Below.block la _ (zaw hm)).trans hm
     have L5 := L4.trans la
     refine hK.out _ _ ⟨L5, hm⟩ (fun hHeld5 => ?_)
     clear hK K
     try simp only [Act.put, List.getElem_toArray, List.getElem_cons_succ, List.getElem_cons_zero, List.setIfInBounds_toArray, List.set_cons_zero, List.set_cons_succ]
     clear la
     refine wpAnyH_ready (rs := [12]) (by kernel_rfl) (by simp) (AllReadyH.cons rfl (fun K hK => ?_) AllReadyH.nil)
     rw [if_pos (by rfl)]
     refine wp_store_mid 163 (.tmp 8) (.tmp 19) rfl g8 0 #[.bool b, u.b0, u.b1, u.b2, u.b3, u.b4, u.b5, u.b6, u.b7] rfl rfl (b8.thereAll _ rfl) (by kernel_rfl) (by simp [Value.oneCell']) ?_
     have KS := b8.setCells #[.bool b, u.b0, u.b1, u.b2, u.b3, u.b4, u.b5, u.b6, u.b7] rfl
     have M9 : (V5.setCells g8 0 (#[.bool b, u.b0, u.b1, u.b2, u.b3, u.b4, u.b5, u.b6, u.b7] : Array Value).toList).heap[mp]? = some (.map zjj 3) := (LatP.setCells _ _ _).at_ hm (fun h => by subst h; unfold Blk at b8; rw [hm] at b8; cases b8)
     have L9 : Lat W (V5.setCells g8 0 (#[.bool b, u.b0, u.b1, u.b2, u.b3, u.b4, u.b5, u.b6, u.b7] : Array Value).toList) := Lat.setCells hg8 _ _ _ L5
     obtain ⟨V9, hV9⟩ : ∃ V, V5.setCells g8 0 (#[.bool b, u.b0, u.b1, u.b2, u.b3, u.b4, u.b5, u.b6, u.b7] : Array Value).toList = V := ⟨_, rfl⟩
     rw [hV9] at KS M9 L9 ⊢
     clear hV9
     refine hK.out _ _ ⟨L9, M9⟩ (fun hHeld6 => ?_)
     clear hK K
     try simp only [Act.put, List.getElem_toArray, List.getElem_cons_succ, List.getElem_cons_zero, List.setIfInBounds_toArray, List.set_cons_zero, List.set_cons_succ]
     refine wpAnyH_ready (rs := [13]) (by kernel_rfl) (by simp) (AllReadyH.cons rfl (fun K hK => ?_) AllReadyH.nil)
     go_simp
     refine hK.out _ _ ⟨L9, M9⟩ (fun hHeld7 => ?_)
     clear hK K
     try simp only [Act.put, List.getElem_toArray, List.getElem_cons_succ, List.getElem_cons_zero, List.setIfInBounds_toArray, List.set_cons_zero, List.set_cons_succ]
     refine wpAnyH_done (by kernel_rfl) ?_ _
     exact TAIL g8 b c u _ _ _ _ _ _ _ _ _ _ _ V9 r1 r2 r3 (hl.trans L9) KS (k6.later L9)
    ·skip
     go_simp
     have b8 := Blk.new V3 163 #[.bool false, .int .u64 0, .int .u64 0, .int .u64 0, .int .u64 0, .int .u64 0, .int .u64 0, .int .u64 0, .int .u64 0]
     have hg8 : W.heap.size ≤ V3.heap.size := L3.size
     have la := Lat.alloc V3 (.cells #[.bool false, .int .u64 0, .int .u64 0, .int .u64 0, .int .u64 0, .int .u64 0, .int .u64 0, .int .u64 0, .int .u64 0] 163)
     obtain ⟨V4, hV⟩ : ∃ V, V3.alloc (.cells #[.bool false, .int .u64 0, .int .u64 0, .int .u64 0, .int .u64 0, .int .u64 0, .int .u64 0, .int .u64 0, .int .u64 0] 163) = V := ⟨_, rfl⟩
     rw [hV] at b8 la ⊢
     clear hV
     generalize V3.heap.size = g8 at b8 hg8 ⊢
     have hm := (Below.block la _ (zaw hm)).trans hm
     have L4 := L3.trans la
     refine hK.out _ _ ⟨L4, hm⟩ (fun hHeld4 => ?_)
     clear hK K
     try simp only [Act.put, List.getElem_toArray, List.getElem_cons_succ, List.getElem_cons_zero, List.setIfInBounds_toArray, List.set_cons_zero, List.set_cons_succ]
     clear la
     refine wpAnyH_ready (rs := [7]) (by kernel_rfl) (by simp) (AllReadyH.cons rfl (fun K hK => ?_) AllReadyH.nil)
     go_simp
     refine (HSM b1 b2 u1 u2 h1 h2 n2 z1 z2 _).mono ?_
     rintro e V5 ⟨b, u, c, rfl, r1, r2, r3, la⟩
     rw [← z1, ← z2] at r2 r3
     have hm := (Below.block la _ (zaw hm)).trans hm
     have b8 := b8.later la
     have L5 := L4.trans la
     refine hK.out _ _ ⟨L5, hm⟩ (fun hHeld5 => ?_)
     clear hK K
     try simp only [Act.put, List.getElem_toArray, List.getElem_cons_succ, List.getElem_cons_zero, List.setIfInBounds_toArray, List.set_cons_zero, List.set_cons_succ]
     clear la
     refine wpAnyH_take (i := 8) (v := .tuple #[.agg #[.bool b, u.b0, u.b1, u.b2, u.b3, u.b4, u.b5, u.b6, u.b7], .bool c]) rfl (by kernel_rfl) (by kernel_rfl) (by kernel_rfl) (fun _ _ _ h => h) (Or.inl ⟨by rfl, by intro w' hS; go_simp⟩) hHeld5 ?_
     simp only [Act.put, List.getElem_toArray, List.getElem_cons_succ, List.getElem_cons_zero, List.setIfInBounds_toArray, List.set_cons_zero, List.set_cons_succ]
     refine wpAnyH_take (i := 9) (v := .agg #[.bool b, u.b0, u.b1, u.b2, u.b3, u.b4, u.b5, u.b6, u.b7]) rfl (by kernel_rfl) (by kernel_rfl) (by kernel_rfl) (fun _ _ _ h => h) (Or.inl ⟨by rfl, by intro w' hS; go_simp⟩) hHeld5 ?_
     simp only [Act.put, List.getElem_toArray, List.getElem_cons_succ, List.getElem_cons_zero, List.setIfInBounds_toArray, List.set_cons_zero, List.set_cons_succ]
     refine wpAnyH_take (i := 10) (v := .bool c) rfl (by kernel_rfl) (by kernel_rfl) (by kernel_rfl) (fun _ _ _ h => h) (Or.inl ⟨by rfl, by intro w' hS; go_simp⟩) hHeld5 ?_
     simp only [Act.put, List.getElem_toArray, List.getElem_cons_succ, List.getElem_cons_zero, List.setIfInBounds_toArray, List.set_cons_zero, List.set_cons_succ]
     refine wpAnyH_ready (rs := [12]) (by kernel_rfl) (by simp) (AllReadyH.cons rfl (fun K hK => ?_) AllReadyH.nil)
     rw [if_pos (by rfl)]
     refine wp_store_mid 163 (.tmp 8) (.tmp 19) rfl g8 0 #[.bool b, u.b0, u.b1, u.b2, u.b3, u.b4, u.b5, u.b6, u.b7] rfl rfl (b8.thereAll _ rfl) (by kernel_rfl) (by simp [Value.oneCell']) ?_
     have KS := b8.setCells #[.bool b, u.b0, u.b1, u.b2, u.b3, u.b4, u.b5, u.b6, u.b7] rfl
     have M9 : (V5.setCells g8 0 (#[.bool b, u.b0, u.b1, u.b2, u.b3, u.b4, u.b5, u.b6, u.b7] : Array Value).toList).heap[mp]? = some (.map zjj 3) := (LatP.setCells _ _ _).at_ hm (fun h => by subst h; unfold Blk at b8; rw [hm] at b8; cases b8)
     have L9 : Lat W (V5.setCells g8 0 (#[.bool b, u.b0, u.b1, u.b2, u.b3, u.b4, u.b5, u.b6, u.b7] : Array Value).toList) := Lat.setCells hg8 _ _ _ L5
     obtain ⟨V9, hV9⟩ : ∃ V, V5.setCells g8 0 (#[.bool b, u.b0, u.b1, u.b2, u.b3, u.b4, u.b5, u.b6, u.b7] : Array Value).toList = V := ⟨_, rfl⟩
     rw [hV9] at KS M9 L9 ⊢
     clear hV9
     refine hK.out _ _ ⟨L9, M9⟩ (fun hHeld6 => ?_)
     clear hK K
     try simp only [Act.put, List.getElem_toArray, List.getElem_cons_succ, List.getElem_cons_zero, List.setIfInBounds_toArray, List.set_cons_zero, List.set_cons_succ]
     refine wpAnyH_ready (rs := [13]) (by kernel_rfl) (by simp) (AllReadyH.cons rfl (fun K hK => ?_) AllReadyH.nil)
     go_simp
     refine hK.out _ _ ⟨L9, M9⟩ (fun hHeld7 => ?_)
     clear hK K
     try simp only [Act.put, List.getElem_toArray, List.getElem_cons_succ, List.getElem_cons_zero, List.setIfInBounds_toArray, List.set_cons_zero, List.set_cons_succ]
     refine wpAnyH_done (by kernel_rfl) ?_ _
     exact TAIL g8 b c u _ _ _ _ _ _ _ _ _ _ _ V9 r1 r2 r3 (hl.trans L9) KS (k6.later L9)
   ·skip
    go_simp
    have b8 := Blk.new V2 163 #[.bool false, .int .u64 0, .int .u64 0, .int .u64 0, .int .u64 0, .int .u64 0, .int .u64 0, .int .u64 0, .int .u64 0]
    have hg8 : W.heap.size ≤ V2.heap.size := L2.size
    have la := Lat.alloc V2 (.cells #[.bool false, .int .u64 0, .int .u64 0, .int .u64 0, .int .u64 0, .int .u64 0, .int .u64 0, .int .u64 0, .int .u64 0] 163)
    obtain ⟨V3, hV⟩ : ∃ V, V2.alloc (.cells #[.bool false, .int .u64 0, .int .u64 0, .int .u64 0, .int .u64 0, .int .u64 0, .int .u64 0, .int .u64 0, .int .u64 0] 163) = V := ⟨_, rfl⟩
    rw [hV] at b8 la ⊢
    clear hV
    generalize V2.heap.size = g8 at b8 hg8 ⊢
    have hm := (Below.block la _ (zaw hm)).trans hm
    have L3 := L2.trans la
    refine hK.out _ _ ⟨L3, hm⟩ (fun hHeld3 => ?_)
    clear hK K
    try simp only [Act.put, List.getElem_toArray, List.getElem_cons_succ, List.getElem_cons_zero, List.setIfInBounds_toArray, List.set_cons_zero, List.set_cons_succ]
    clear la
    refine wpAnyH_ready (rs := [6]) (by kernel_rfl) (by simp) (AllReadyH.cons rfl (fun K hK => ?_) AllReadyH.nil)
    go_simp
    refine (HRY _).mono ?_
    rintro e V4 ⟨b2, u2, rfl, h2, z2, n2, la⟩
    have hm := (Below.block la _ (zaw hm)).trans hm
    have b8 := b8.later la
    have L4 := L3.trans la
    refine hK.out _ _ ⟨L4, hm⟩ (fun hHeld4 => ?_)
    clear hK K
    try simp only [Act.put, List.getElem_toArray, List.getElem_cons_succ, List.getElem_cons_zero, List.setIfInBounds_toArray, List.set_cons_zero, List.set_cons_succ]
    clear la
    refine wpAnyH_ready (rs := [7]) (by kernel_rfl) (by simp) (AllReadyH.cons rfl (fun K hK => ?_) AllReadyH.nil)
    go_simp
    refine (HSM b1 b2 u1 u2 h1 h2 n2 z1 z2 _).mono ?_
    rintro e V5 ⟨b, u, c, rfl, r1, r2, r3, la⟩
    rw [← z1, ← z2] at r2 r3
    have hm := (Below.block la _ (zaw hm)).trans hm
    have b8 := b8.later la
    have L5 := L4.trans la
    refine hK.out _ _ ⟨L5, hm⟩ (fun hHeld5 => ?_)
    clear hK K
    try simp only [Act.put, List.getElem_toArray, List.getElem_cons_succ, List.getElem_cons_zero, List.setIfInBounds_toArray, List.set_cons_zero, List.set_cons_succ]
    clear la
    refine wpAnyH_take (i := 8) (v := .tuple #[.agg #[.bool b, u.b0, u.b1, u.b2, u.b3, u.b4, u.b5, u.b6, u.b7], .bool c]) rfl (by kernel_rfl) (by kernel_rfl) (by kernel_rfl) (fun _ _ _ h => h) (Or.inl ⟨by rfl, by intro w' hS; go_simp⟩) hHeld5 ?_
    simp only [Act.put, List.getElem_toArray, List.getElem_cons_succ, List.getElem_cons_zero, List.setIfInBounds_toArray, List.set_cons_zero, List.set_cons_succ]
    refine wpAnyH_take (i := 9) (v := .agg #[.bool b, u.b0, u.b1, u.b2, u.b3, u.b4, u.b5, u.b6, u.b7]) rfl (by kernel_rfl) (by kernel_rfl) (by kernel_rfl) (fun _ _ _ h => h) (Or.inl ⟨by rfl, by intro w' hS; go_simp⟩) hHeld5 ?_
    simp only [Act.put, List.getElem_toArray, List.getElem_cons_succ, List.getElem_cons_zero, List.setIfInBounds_toArray, List.set_cons_zero, List.set_cons_succ]
    refine wpAnyH_take (i := 10) (v := .bool c) rfl (by kernel_rfl) (by kernel_rfl) (by kernel_rfl) (fun _ _ _ h => h) (Or.inl ⟨by rfl, by intro w' hS; go_simp⟩) hHeld5 ?_
    simp only [Act.put, List.getElem_toArray, List.getElem_cons_succ, List.getElem_cons_zero, List.setIfInBounds_toArray, List.set_cons_zero, List.set_cons_succ]
    refine wpAnyH_ready (rs := [12]) (by kernel_rfl) (by simp) (AllReadyH.cons rfl (fun K hK => ?_) AllReadyH.nil)
    rw [if_pos (by rfl)]
    refine wp_store_mid 163 (.tmp 8) (.tmp 19) rfl g8 0 #[.bool b, u.b0, u.b1, u.b2, u.b3, u.b4, u.b5, u.b6, u.b7] rfl rfl (b8.thereAll _ rfl) (by kernel_rfl) (by simp [Value.oneCell']) ?_
    have KS := b8.setCells #[.bool b, u.b0, u.b1, u.b2, u.b3, u.b4, u.b5, u.b6, u.b7] rfl
    have M9 : (V5.setCells g8 0 (#[.bool b, u.b0, u.b1, u.b2, u.b3, u.b4, u.b5, u.b6, u.b7] : Array Value).toList).heap[mp]? = some (.map zjj 3) := (LatP.setCells _ _ _).at_ hm (fun h => by subst h; unfold Blk at b8; rw [hm] at b8; cases b8)
    have L9 : Lat W (V5.setCells g8 0 (#[.bool b, u.b0, u.b1, u.b2, u.b3, u.b4, u.b5, u.b6, u.b7] : Array Value).toList) := Lat.setCells hg8 _ _ _ L5
    obtain ⟨V9, hV9⟩ : ∃ V, V5.setCells g8 0 (#[.bool b, u.b0, u.b1, u.b2, u.b3, u.b4, u.b5, u.b6, u.b7] : Array Value).toList = V := ⟨_, rfl⟩
    rw [hV9] at KS M9 L9 ⊢
    clear hV9
    refine hK.out _ _ ⟨L9, M9⟩ (fun hHeld6 => ?_)
    clear hK K
    try simp only [Act.put, List.getElem_toArray, List.getElem_cons_succ, List.getElem_cons_zero, List.setIfInBounds_toArray, List.set_cons_zero, List.set_cons_succ]
    refine wpAnyH_ready (rs := [13]) (by kernel_rfl) (by simp) (AllReadyH.cons rfl (fun K hK => ?_) AllReadyH.nil)
    go_simp
    refine hK.out _ _ ⟨L9, M9⟩ (fun hHeld7 => ?_)
    clear hK K
    try simp only [Act.put, List.getElem_toArray, List.getElem_cons_succ, List.getElem_cons_zero, List.setIfInBounds_toArray, List.set_cons_zero, List.set_cons_succ]
    refine wpAnyH_done (by kernel_rfl) ?_ _
    exact TAIL g8 b c u _ _ _ _ _ _ _ _ _ _ _ V9 r1 r2 r3 (hl.trans L9) KS (k6.later L9)
  ·skip
   go_simp
   have b8 := Blk.new V1 163 #[.bool false, .int .u64 0, .int .u64 0, .int .u64 0, .int .u64 0, .int .u64 0, .int .u64 0, .int .u64 0, .int .u64 0]
   have hg8 : W.heap.size ≤ V1.heap.size := L1.size
   have la := Lat.alloc V1 (.cells #[.bool false, .int .u64 0, .int .u64 0, .int .u64 0, .int .u64 0, .int .u64 0, .int .u64 0, .int .u64 0, .int .u64 0] 163)
   obtain ⟨V2, hV⟩ : ∃ V, V1.alloc (.cells #[.bool false, .int .u64 0, .int .u64 0, .int .u64 0, .int .u64 0, .int .u64 0, .int .u64 0, .int .u64 0, .int .u64 0] 163) = V := ⟨_, rfl⟩
   rw [hV] at b8 la ⊢
   clear hV
   generalize V1.heap.size = g8 at b8 hg8 ⊢
   have hm := (Below.block la _ (zaw hm)).trans hm
   have L2 := L1.trans la
   refine hK.out _ _ ⟨L2, hm⟩ (fun hHeld2 => ?_)
   clear hK K
   try simp only [Act.put, List.getElem_toArray, List.getElem_cons_succ, List.getElem_cons_zero, List.setIfInBounds_toArray, List.set_cons_zero, List.set_cons_succ]
   clear la
   refine wpAnyH_ready (rs := [4]) (by kernel_rfl) (by simp) (AllReadyH.cons rfl (fun K hK => ?_) AllReadyH.nil)
   go_simp
   refine (HRX _).mono ?_
   rintro e V3 ⟨b1, u1, rfl, h1, z1, n1, la⟩
   have hm := (Below.block la _ (zaw hm)).trans hm
   have b8 := b8.later la
   have L3 := L2.trans la
   refine hK.out _ _ ⟨L3, hm⟩ (fun hHeld3 => ?_)
   clear hK K
   try simp only [Act.put, List.getElem_toArray, List.getElem_cons_succ, List.getElem_cons_zero, List.setIfInBounds_toArray, List.set_cons_zero, List.set_cons_succ]
   clear la
   refine wpAnyH_ready (rs := [6]) (by kernel_rfl) (by simp) (AllReadyH.cons rfl (fun K hK => ?_) AllReadyH.nil)
   go_simp
   refine (HRY _).mono ?_
   rintro e V4 ⟨b2, u2, rfl, h2, z2, n2, la⟩
   have hm := (Below.block la _ (zaw hm)).trans hm
   have b8 := b8.later la
   have L4 := L3.trans la
   refine hK.out _ _ ⟨L4, hm⟩ (fun hHeld4 => ?_)
   clear hK K
   try simp only [Act.put, List.getElem_toArray, List.getElem_cons_succ, List.getElem_cons_zero, List.setIfInBounds_toArray, List.set_cons_zero, List.set_cons_succ]
   clear la
   refine wpAnyH_ready (rs := [7]) (by kernel_rfl) (by simp) (AllReadyH.cons rfl (fun K hK => ?_) AllReadyH.nil)
   go_simp
   refine (HSM b1 b2 u1 u2 h1 h2 n2 z1 z2 _).mono ?_
   rintro e V5 ⟨b, u, c, rfl, r1, r2, r3, la⟩
   rw [← z1, ← z2] at r2 r3
   have hm := (Below.block la _ (zaw hm)).trans hm
   have b8 := b8.later la
   have L5 := L4.trans la
   refine hK.out _ _ ⟨L5, hm⟩ (fun hHeld5 => ?_)
   clear hK K
   try simp only [Act.put, List.getElem_toArray, List.getElem_cons_succ, List.getElem_cons_zero, List.setIfInBounds_toArray, List.set_cons_zero, List.set_cons_succ]
   clear la
   refine wpAnyH_take (i := 8) (v := .tuple #[.agg #[.bool b, u.b0, u.b1, u.b2, u.b3, u.b4, u.b5, u.b6, u.b7], .bool c]) rfl (by kernel_rfl) (by kernel_rfl) (by kernel_rfl) (fun _ _ _ h => h) (Or.inl ⟨by rfl, by intro w' hS; go_simp⟩) hHeld5 ?_
   simp only [Act.put, List.getElem_toArray, List.getElem_cons_succ, List.getElem_cons_zero, List.setIfInBounds_toArray, List.set_cons_zero, List.set_cons_succ]
   refine wpAnyH_take (i := 9) (v := .agg #[.bool b, u.b0, u.b1, u.b2, u.b3, u.b4, u.b5, u.b6, u.b7]) rfl (by kernel_rfl) (by kernel_rfl) (by kernel_rfl) (fun _ _ _ h => h) (Or.inl ⟨by rfl, by intro w' hS; go_simp⟩) hHeld5 ?_
   simp only [Act.put, List.getElem_toArray, List.getElem_cons_succ, List.getElem_cons_zero, List.setIfInBounds_toArray, List.set_cons_zero, List.set_cons_succ]
   refine wpAnyH_take (i := 10) (v := .bool c) rfl (by kernel_rfl) (by kernel_rfl) (by kernel_rfl) (fun _ _ _ h => h) (Or.inl ⟨by rfl, by intro w' hS; go_simp⟩) hHeld5 ?_
   simp only [Act.put, List.getElem_toArray, List.getElem_cons_succ, List.getElem_cons_zero, List.setIfInBounds_toArray, List.set_cons_zero, List.set_cons_succ]
   refine wpAnyH_ready (rs := [12]) (by kernel_rfl) (by simp) (AllReadyH.cons rfl (fun K hK => ?_) AllReadyH.nil)
   rw [if_pos (by rfl)]
   refine wp_store_mid 163 (.tmp 8) (.tmp 19) rfl g8 0 #[.bool b, u.b0, u.b1, u.b2, u.b3, u.b4, u.b5, u.b6, u.b7] rfl rfl (b8.thereAll _ rfl) (by kernel_rfl) (by simp [Value.oneCell']) ?_
   have KS := b8.setCells #[.bool b, u.b0, u.b1, u.b2, u.b3, u.b4, u.b5, u.b6, u.b7] rfl
   have M9 : (V5.setCells g8 0 (#[.bool b, u.b0, u.b1, u.b2, u.b3, u.b4, u.b5, u.b6, u.b7] : Array Value).toList).heap[mp]? = some (.map zjj 3) := (LatP.setCells _ _ _).at_ hm (fun h => by subst h; unfold Blk at b8; rw [hm] at b8; cases b8)
   have L9 : Lat W (V5.setCells g8 0 (#[.bool b, u.b0, u.b1, u.b2, u.b3, u.b4, u.b5, u.b6, u.b7] : Array Value).toList) := Lat.setCells hg8 _ _ _ L5
   obtain ⟨V9, hV9⟩ : ∃ V, V5.setCells g8 0 (#[.bool b, u.b0, u.b1, u.b2, u.b3, u.b4, u.b5, u.b6, u.b7] : Array Value).toList = V := ⟨_, rfl⟩
   rw [hV9] at KS M9 L9 ⊢
   clear hV9
   refine hK.out _ _ ⟨L9, M9⟩ (fun hHeld6 => ?_)
   clear hK K
   try simp only [Act.put, List.getElem_toArray, List.getElem_cons_succ, List.getElem_cons_zero, List.setIfInBounds_toArray, List.set_cons_zero, List.set_cons_succ]
   refine wpAnyH_ready (rs := [13]) (by kernel_rfl) (by simp) (AllReadyH.cons rfl (fun K hK => ?_) AllReadyH.nil)
   go_simp
   refine hK.out _ _ ⟨L9, M9⟩ (fun hHeld7 => ?_)
   clear hK K
   try simp only [Act.put, List.getElem_toArray, List.getElem_cons_succ, List.getElem_cons_zero, List.setIfInBounds_toArray, List.set_cons_zero, List.set_cons_succ]
   refine wpAnyH_done (by kernel_rfl) ?_ _
   exact TAIL g8 b c u _ _ _ _ _ _ _ _ _ _ _ V9 r1 r2 r3 (hl.trans L9) KS (k6.later L9)
 ·skip
  go_simp
  have b8 := Blk.new V0 163 #[.bool false, .int .u64 0, .int .u64 0, .int .u64 0, .int .u64 0, .int .u64 0, .int .u64 0, .int .u64 0, .int .u64 0]
  have hg8 : W.heap.size ≤ V0.heap.size := L0.size
  have la := Lat.alloc V0 (.cells #[.bool false, .int .u64 0, .int .u64 0, .int .u64 0, .int .u64 0, .int .u64 0, .int .u64 0, .int .u64 0, .int .u64 0] 163)
  obtain ⟨V1, hV⟩ : ∃ V, V0.alloc (.cells #[.bool false, .int .u64 0, .int .u64 0, .int .u64 0, .int .u64 0, .int .u64 0, .int .u64 0, .int .u64 0, .int .u64 0] 163) = V := ⟨_, rfl⟩
  rw [hV] at b8 la ⊢
  clear hV
  generalize V0.heap.size = g8 at b8 hg8 ⊢
  have L1 := L0.trans la
  refine hK.out _ _ L1 (fun hHeld1 => ?_)
  clear hK K
  try simp only [Act.put, List.getElem_toArray, List.getElem_cons_succ, List.getElem_cons_zero, List.setIfInBounds_toArray, List.set_cons_zero, List.set_cons_succ]
  clear la
  refine wpAnyH_ready (rs := [0]) (by kernel_rfl) (by simp) (AllReadyH.cons rfl (fun K hK => ?_) AllReadyH.nil)
  go_simp
  refine (zcD _).mono ?_
  rintro e V2 ⟨mp, rfl, hm, la⟩
  have b8 := b8.later la
  have L2 := L1.trans la
  refine hK.out _ _ L2 (fun hHeld2 => ?_)
  clear hK K
  try simp only [Act.put, List.getElem_toArray, List.getElem_cons_succ, List.getElem_cons_zero, List.setIfInBounds_toArray, List.set_cons_zero, List.set_cons_succ]
  clear la
  refine zcO (S' := fun w' => Lat W w' ∧ w'.heap[mp]? = some (.map zjj 3)) (fun w' h => h.1) _ _ _ _ ?_
  have B0 : Lat W V2 ∧ V2.heap[mp]? = some (.map zjj 3) := ⟨L2, hm⟩
  refine wpAnyH_take (i := 2) (v := .func (.func fid) #[] #[]) rfl (by kernel_rfl) (by kernel_rfl) (by kernel_rfl) (fun _ _ _ h => h) (Or.inl ⟨by rfl, by intro w' hS; have hlk := HLK w' _ hS.2; go_simp⟩) B0 ?_
  simp only [Act.put, List.getElem_toArray, List.getElem_cons_succ, List.getElem_cons_zero, List.setIfInBounds_toArray, List.set_cons_zero, List.set_cons_succ]
  refine wpAnyH_ready (rs := [4]) (by kernel_rfl) (by simp) (AllReadyH.cons rfl (fun K hK => ?_) AllReadyH.nil)
  go_simp
  refine (HRX _).mono ?_
  rintro e V3 ⟨b1, u1, rfl, h1, z1, n1, la⟩
  have hm := (Below.block la _ (zaw hm)).trans hm
  have b8 := b8.later la
  have L3 := L2.trans la
  refine hK.out _ _ ⟨L3, hm⟩ (fun hHeld3 => ?_)
  clear hK K
  try simp only [Act.put, List.getElem_toArray, List.getElem_cons_succ, List.getElem_cons_zero, List.setIfInBounds_toArray, List.set_cons_zero, List.set_cons_succ]
  clear la
  refine wpAnyH_ready (rs := [6]) (by kernel_rfl) (by simp) (AllReadyH.cons rfl (fun K hK => ?_) AllReadyH.nil)
  go_simp
  refine (HRY _).mono ?_
  rintro e V4 ⟨b2, u2, rfl, h2, z2, n2, la⟩
  have hm := (Below.block la _ (zaw hm)).trans hm
  have b8 := b8.later la
  have L4 := L3.trans la
  refine hK.out _ _ ⟨L4, hm⟩ (fun hHeld4 => ?_)
  clear hK K
  try simp only [Act.put, List.getElem_toArray, List.getElem_cons_succ, List.getElem_cons_zero, List.setIfInBounds_toArray, List.set_cons_zero, List.set_cons_succ]
  clear la
  refine wpAnyH_ready (rs := [7]) (by kernel_rfl) (by simp) (AllReadyH.cons rfl (fun K hK => ?_) AllReadyH.nil)
  go_simp
  refine (HSM b1 b2 u1 u2 h1 h2 n2 z1 z2 _).mono ?_
  rintro e V5 ⟨b, u, c, rfl, r1, r2, r3, la⟩
  rw [← z1, ← z2] at r2 r3
  have hm := (Below.block la _ (zaw hm)).trans hm
  have b8 := b8.later la
  have L5 := L4.trans la
  refine hK.out _ _ ⟨L5, hm⟩ (fun hHeld5 => ?_)
  clear hK K
  try simp only [Act.put, List.getElem_toArray, List.getElem_cons_succ, List.getElem_cons_zero, List.setIfInBounds_toArray, List.set_cons_zero, List.set_cons_succ]
  clear la
  refine wpAnyH_take (i := 8) (v := .tuple #[.agg #[.bool b, u.b0, u.b1, u.b2, u.b3, u.b4, u.b5, u.b6, u.b7], .bool c]) rfl (by kernel_rfl) (by kernel_rfl) (by kernel_rfl) (fun _ _ _ h => h) (Or.inl ⟨by rfl, by intro w' hS; go_simp⟩) hHeld5 ?_
  simp only [Act.put, List.getElem_toArray, List.getElem_cons_succ, List.getElem_cons_zero, List.setIfInBounds_toArray, List.set_cons_zero, List.set_cons_succ]
  refine wpAnyH_take (i := 9) (v := .agg #[.bool b, u.b0, u.b1, u.b2, u.b3, u.b4, u.b5, u.b6, u.b7]) rfl (by kernel_rfl) (by kernel_rfl) (by kernel_rfl) (fun _ _ _ h => h) (Or.inl ⟨by rfl, by intro w' hS; go_simp⟩) hHeld5 ?_
  simp only [Act.put, List.getElem_toArray, List.getElem_cons_succ, List.getElem_cons_zero, List.setIfInBounds_toArray, List.set_cons_zero, List.set_cons_succ]
  refine wpAnyH_take (i := 10) (v := .bool c) rfl (by kernel_rfl) (by kernel_rfl) (by kernel_rfl) (fun _ _ _ h => h) (Or.inl ⟨by rfl, by intro w' hS; go_simp⟩) hHeld5 ?_
  simp only [Act.put, List.getElem_toArray, List.getElem_cons_succ, List.getElem_cons_zero, List.setIfInBounds_toArray, List.set_cons_zero, List.set_cons_succ]
  refine wpAnyH_ready (rs := [12]) (by kernel_rfl) (by simp) (AllReadyH.cons rfl (fun K hK => ?_) AllReadyH.nil)
  rw [if_pos (by rfl)]
  refine wp_store_mid 163 (.tmp 8) (.tmp 19) rfl g8 0 #[.bool b, u.b0, u.b1, u.b2, u.b3, u.b4, u.b5, u.b6, u.b7] rfl rfl (b8.thereAll _ rfl) (by kernel_rfl) (by simp [Value.oneCell']) ?_
  have KS := b8.setCells #[.bool b, u.b0, u.b1, u.b2, u.b3, u.b4, u.b5, u.b6, u.b7] rfl
  have M9 : (V5.setCells g8 0 (#[.bool b, u.b0, u.b1, u.b2, u.b3, u.b4, u.b5, u.b6, u.b7] : Array Value).toList).heap[mp]? = some (.map zjj 3) := (LatP.setCells _ _ _).at_ hm (fun h => by subst h; unfold Blk at b8; rw [hm] at b8; cases b8)
  have L9 : Lat W (V5.setCells g8 0 (#[.bool b, u.b0, u.b1, u.b2, u.b3, u.b4, u.b5, u.b6, u.b7] : Array Value).toList) := Lat.setCells hg8 _ _ _ L5
  obtain ⟨V9, hV9⟩ : ∃ V, V5.setCells g8 0 (#[.bool b, u.b0, u.b1, u.b2, u.b3, u.b4, u.b5, u.b6, u.b7] : Array Value).toList = V := ⟨_, rfl⟩
  rw [hV9] at KS M9 L9 ⊢
  clear hV9
  refine hK.out _ _ ⟨L9, M9⟩ (fun hHeld6 => ?_)
  clear hK K
  try simp only [Act.put, List.getElem_toArray, List.getElem_cons_succ, List.getElem_cons_zero, List.setIfInBounds_toArray, List.set_cons_zero, List.set_cons_succ]
  refine wpAnyH_ready (rs := [13]) (by kernel_rfl) (by simp) (AllReadyH.cons rfl (fun K hK => ?_) AllReadyH.nil)
  go_simp
  refine hK.out _ _ ⟨L9, M9⟩ (fun hHeld7 => ?_)
  clear hK K
  try simp only [Act.put, List.getElem_toArray, List.getElem_cons_succ, List.getElem_cons_zero, List.setIfInBounds_toArray, List.set_cons_zero, List.set_cons_succ]
  refine wpAnyH_done (by kernel_rfl) ?_ _
  exact TAIL g8 b c u _ _ _ _ _ _ _ _ _ _ _ V9 r1 r2 r3 (hl.trans L9) KS (k6.later L9)
def BothC (sg : Int) (x y : W8) (z : Int) : Prop := ∀ w, Calls Tryz.prog 108 #[.agg (W8.one x), .agg (W8.one y), .int .u8 sg] w (zba w z)
end Go.Proofs.YtpmbglhbcjbkcaaGreat
