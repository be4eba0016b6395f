/- Several texts in one: ChX, ChH, RgA, ChI, ChP, ChJ. -/
import Derived.Test.YtpmbglhbcjbkcaaGreatH12
import Derived.Test.YtpmbglhbcjbkcaaGreatH13
import Derived.DeepKeys
import Derived.Laws.Bits64
import Derived.Deep.DeepCutAuto
namespace Go.Proofs.YtpmbglhbcjbkcaaGreat
set_option maxHeartbeats 16000000
set_option maxRecDepth 100000
open Go.RowKit
def zfG (u : W8) : List Lit := u.list.map (Lit.int .u64)
theorem zgw {u v : W8} : zfG u = zfG v ↔ u = v := by
 constructor
 ·intro h
  simp only [zfG, W8.list, List.map_cons, List.map_nil, List.cons.injEq, Lit.int.injEq, true_and, and_true] at h
  obtain ⟨h0, h1, h2, h3, h4, h5, h6, h7⟩ := h
  exact W8.ext h0 h1 h2 h3 h4 h5 h6 h7
 ·intro h; rw [h]
theorem wf64 {n : Int} (h : 0 ≤ n ∧ n < W64) : (Lit.int .u64 n).wf = true := by
 unfold W64 at h
 have e1 : IntKind.u64.min = 0 := by decide
 have e2 : IntKind.u64.max = 18446744073709551615 := by decide
 simp [Lit.wf, e1, e2]
 omega
theorem zj6 : Tryz.prog.cellsOf 36 = 1 := by kernel_rfl
theorem zj7 : Tryz.prog.cellsOf 38 = 8 := by kernel_rfl
theorem znm : Tryz.prog.cellsOf 161 = 8 := by kernel_rfl
theorem zcz {n : Int} (h : 0 ≤ n ∧ n < W64) (d : Nat) : Tryz.prog.keyLits (d + 1) 36 [.int .u64 n] = some [.int .u64 n] := by
 have hw := wf64 h
 unfold Program.keyLits
 rw [Tryz.underlying36]
 simp [hw]
theorem zlL {u : W8} (h : u.ok) (d : Nat) : Tryz.prog.keyLits (d + 2) 38 [u.b0, u.b1, u.b2, u.b3, u.b4, u.b5, u.b6, u.b7] = some (zfG u) := by
 have h0 := zcz h.at0 d
 have h1 := zcz h.at1 d
 have h2 := zcz h.at2 d
 have h3 := zcz h.at3 d
 have h4 := zcz h.at4 d
 have h5 := zcz h.at5 d
 have h6 := zcz h.at6 d
 have h7 := zcz h.at7 d
 unfold Program.keyLits
 rw [Tryz.underlying38]
 simp [zj6, zj7, List.range, List.range.loop, h0, h1, h2, h3, h4, h5, h6, h7, zfG, W8.list]
theorem zod {u : W8} (h : u.ok) (d : Nat) : Tryz.prog.keyLits (d + 2) 161 [u.b0, u.b1, u.b2, u.b3, u.b4, u.b5, u.b6, u.b7] = some (zfG u) := by
 have h0 := zcz h.at0 d
 have h1 := zcz h.at1 d
 have h2 := zcz h.at2 d
 have h3 := zcz h.at3 d
 have h4 := zcz h.at4 d
 have h5 := zcz h.at5 d
 have h6 := zcz h.at6 d
 have h7 := zcz h.at7 d
 unfold Program.keyLits
 rw [Tryz.underlying161]
 simp [zj6, znm, List.range, List.range.loop, h0, h1, h2, h3, h4, h5, h6, h7, zfG, W8.list]
theorem size_eq {u v : W8} (hu : u.ok) (hv : v.ok) (w : World) : (binOp .eql 161 (.agg (W8.one u)) (.agg (W8.one v))).run Tryz.prog w = .ok (.bool (decide (u.mag = v.mag))) w := by
 obtain ⟨r, hr, hi⟩ := run_equalIn_deep (P := Tryz.prog) 9990 10 161 (by kernel_rfl) w 10 10 (.agg (W8.one u)) (.agg (W8.one v)) _ _ (by kernel_rfl) (by kernel_rfl) (zod hu 8) (zod hv 8)
 have e : r = decide (u.mag = v.mag) := by
  rw [zgw] at hi
  rw [Bool.eq_iff_iff, decide_eq_true_eq, hi]
  exact ⟨fun h => by rw [h], fun h => W8.mag_inj hu hv h⟩
 rw [run_eql_struct, hr, e]
 rfl
theorem zi0 {P : Program} {ops : Array Oper} {rest : List Oper} {o : Oper} {a : Act} {w : World} {Q : Exit → Act → World → Prop} (hgd : o.guard = none) (op : BinOp) (t t2 : TypeId) (x y : Operand) (ho : o.op = .binOp op t x y t2)
  (X Y : Array Value) (V : Value) (hx : a.eval x = .agg X) (hy : a.eval y = .agg Y) (hm : P.eqGuardType P.depth t = false) (hrun : (binOp op t (.agg X) (.agg Y)).run P w = .ok V w)
  (h : wpList P ops Q rest (a.put o.dst V) w) : wpList P ops Q (o :: rest) a w := by
 refine wpList_plain hgd fun K hK => ?_
 unfold Oper.wp execOp
 have hg := run_eqGuard_agg (P := P) w op t x y X Y hm
 simp [ho, hx, hy, hg, hrun, Result.andThen]
 exact hK _ _ h
set_option linter.unusedSimpArgs false
theorem zlM (x : W8) (hx : x.ok) (w : World) : Calls Tryz.prog 161 #[.agg (W8.one x)] w (fun e w' => e = .returned (.bool (decide (x.mag = 0))) ∧ Lat w w') := by
 have HQ := Lib.hid (fun w => size_eq hx W8.zero_ok w)
 obtain ⟨v, hv⟩ : ∃ v, decide (x.mag = W8.zero.mag) = v := ⟨_, rfl⟩
 have hv0 : decide (x.mag = 0) = v := by rw [← hv]; rfl
 rw [hv0]
 have HQ : Hid (∀ w, (binOp .eql 161 (.agg (W8.one x)) (.agg (W8.one W8.zero))).run Tryz.prog w = .ok (.bool v) w) := by rw [hv] at HQ; exact HQ
 clear hv hv0
 go_enter Tryz.func161, Tryz.ntmps161
 go_wp2_with (refine zi0 rfl .eql 161 161 (.tmp 3) (.tmp 4) (by rfl) (W8.one x) (W8.one W8.zero) _ (by rfl) (by rfl) (by kernel_rfl) (HQ.out _) ?_)
 refine zas (Q := fun W => bodyPost _ _ _ _ _ W) ?_
 intro W hl hs k1
 go_ret
 exact ⟨rfl, hl⟩
theorem Blk.rangeAll {w : World} {g : Nat} {t : TypeId} {l : List Value} (h : Blk w g t l.toArray) : w.rangeAt g 0 l := fun j v hj => by rw [Nat.zero_add, h.cell j]; simpa using hj
theorem Blk.thereAll {w : World} {g : Nat} {t : TypeId} {cs : Array Value} (h : Blk w g t cs) (n : Nat) (hn : cs.size = n) : w.there g 0 n := fun j hj => by
 rw [Nat.zero_add]
 exact ⟨by rw [h.cell j, Array.getElem?_eq_getElem (by omega)]; rfl, h.frozen j⟩
theorem Blk.keepS {W w : World} {g : Nat} {t : TypeId} {cs : Array Value} {gs : List Nat} (h : Blk W g t cs) (hg : g ∉ gs) (hl : LatS W gs w) : Blk w g t cs := (hl.2 g h.lt hg).trans h
theorem LatS.setCells {w0 : World} {gs : List Nat} {g : Nat} (hg : g ∈ gs) (vs : List Value) : ∀ (w : World) (o : Nat), LatS w0 gs w → LatS w0 gs (w.setCells g o vs) := by
 induction vs with
 | nil => exact fun w o h => h
 | cons x r ih => exact fun w o h => ih _ _ (h.set (p := ⟨g, o, none⟩) hg x)
theorem zcG {P : Program} {md : Region.Mode} {ops : Array Oper} {Q : Exit → Act → World → Prop} {S : World → Prop} (i : Nat) (d : Tmp) {fuel : Nat} {listed : Array Bool} {a : Act} {w : World} (h0 : (ops[i]?).map (·.dst) = some (some d))
  (hs : Region.noSelect ops = true) (hf : Region.free md ops listed i = true) (hr : (Region.ready md ops listed).contains i = true)
  (hQ : ∀ c (a : Act) w, Q (.panic c) (a.put (some d) undef) w → Q (.panic c) a w) (hw : (ops[i]?).map (fun o => Region.wanted o (yielded ops a.tmps)) = some false) (hS : S w)
  (h : wpAnyH P md ops Q S fuel (listed.setIfInBounds i true) (a.put (some d) undef) w) : wpAnyH P md ops Q S (fuel + 1) listed a w := by
 cases ho : ops[i]? with
 | none => rw [ho] at h0; cases h0
 | some o =>
   rw [ho] at h0 hw
   simp only [Option.map_some, Option.some.injEq] at h0 hw
   refine wpAnyH_take (oi := o) (v := undef) ho hs hf hr (by rw [h0]; exact hQ) (.inr ⟨hw, rfl⟩) hS ?_
   rw [h0]
   exact h
theorem zd0 : (Tryz.prog.info? 161).map (·.size) = some 8 := by kernel_rfl
def zj8 (w : World) (b : Bool) (x : W8) (e : Ending) (w' : World) : Prop := e = .returned (.agg #[.bool (b && !decide (x.mag = 0)), x.b0, x.b1, x.b2, x.b3, x.b4, x.b5, x.b6, x.b7]) ∧ Lat w w'
theorem znn (b : Bool) (x : W8) (hx : x.ok) (w : World) : Calls Tryz.prog 152 #[.bool b, .agg (W8.one x)] w (zj8 w b x) := by
 have HZ := zlM x hx
 unfold zj8
 obtain ⟨v, hv⟩ : ∃ v, decide (x.mag = 0) = v := ⟨_, rfl⟩
 rw [hv] at HZ ⊢
 clear hv hx
 go_enter Tryz.func152, Tryz.ntmps152
 go_upto_region 1 with (fail)
 refine zaK (Q := fun W => Code.wp _ _ _ _ W) ?_
 intro W hl hs k1 k2
 have hne : w.heap.size ∉ [w.heap.size + 1] := by simp
 have R1 : ∀ w', LatS W [w.heap.size + 1] w' → w'.rangeAt w.heap.size 0 [x.b0, x.b1, x.b2, x.b3, x.b4, x.b5, x.b6, x.b7] := fun w' hl => Blk.rangeAll (l := [x.b0, x.b1, x.b2, x.b3, x.b4, x.b5, x.b6, x.b7]) (k1.keepS hne hl)
 have L0 := Lat.drew W
 cases b
 ·skip
  refine wp_region_held_drew (S := fun w' => LatS W [w.heap.size + 1] w') (by kernel_rfl) (L0.s _) (fun hHeld => ?_)
  generalize W.drew = V0 at L0 hHeld ⊢
  refine wpAnyH_take (i := 0) (v := .bool false) rfl (by kernel_rfl) (by kernel_rfl) (by kernel_rfl) (fun _ _ _ h => h) (Or.inl ⟨by rfl, by intro w' hS; go_simp⟩) hHeld ?_
  simp only [Act.put, List.getElem_toArray, List.getElem_cons_succ, List.getElem_cons_zero, List.setIfInBounds_toArray, List.set_cons_zero, List.set_cons_succ]
  refine wpAnyH_take (i := 1) (v := .bool false) rfl (by kernel_rfl) (by kernel_rfl) (by kernel_rfl) (fun _ _ _ h => h) (Or.inl ⟨by rfl, by intro w' hS; go_simp⟩) hHeld ?_
  simp only [Act.put, List.getElem_toArray, List.getElem_cons_succ, List.getElem_cons_zero, List.setIfInBounds_toArray, List.set_cons_zero, List.set_cons_succ]
  refine zcG 2 7 rfl (by kernel_rfl) (by kernel_rfl) (by kernel_rfl) (fun _ _ _ h => h) (by kernel_rfl) hHeld ?_
  simp only [Act.put, List.getElem_toArray, List.getElem_cons_succ, List.getElem_cons_zero, List.setIfInBounds_toArray, List.set_cons_zero, List.set_cons_succ]
  refine zcG 3 8 rfl (by kernel_rfl) (by kernel_rfl) (by kernel_rfl) (fun _ _ _ h => h) (by kernel_rfl) hHeld ?_
  simp only [Act.put, List.getElem_toArray, List.getElem_cons_succ, List.getElem_cons_zero, List.setIfInBounds_toArray, List.set_cons_zero, List.set_cons_succ]
  refine zcG 4 9 rfl (by kernel_rfl) (by kernel_rfl) (by kernel_rfl) (fun _ _ _ h => h) (by kernel_rfl) hHeld ?_
  simp only [Act.put, List.getElem_toArray, List.getElem_cons_succ, List.getElem_cons_zero, List.setIfInBounds_toArray, List.set_cons_zero, List.set_cons_succ]
  refine' wpAnyH_take (i := 6) rfl (by kernel_rfl) (by kernel_rfl) (by kernel_rfl) (fun _ _ _ h => h) (yieldsIf_load_mid (by rfl) 161 (.tmp 3) rfl w.heap.size 0 rfl _ _ R1 Tryz.underlying161 rfl zd0) hHeld ?_
  simp only [Act.put, List.getElem_toArray, List.getElem_cons_succ, List.getElem_cons_zero, List.setIfInBounds_toArray, List.set_cons_zero, List.set_cons_succ]
  have L1 := L0
  refine wpAnyH_take (i := 5) (v := .bool false) rfl (by kernel_rfl) (by kernel_rfl) (by kernel_rfl) (fun _ _ _ h => h) (Or.inl ⟨by rfl, by intro w' hS; go_simp⟩) hHeld ?_
  simp only [Act.put, List.getElem_toArray, List.getElem_cons_succ, List.getElem_cons_zero, List.setIfInBounds_toArray, List.set_cons_zero, List.set_cons_succ]
  refine wpAnyH_take (i := 7) (v := .agg #[.bool false, x.b0, x.b1, x.b2, x.b3, x.b4, x.b5, x.b6, x.b7]) rfl (by kernel_rfl) (by kernel_rfl) (by kernel_rfl) (fun _ _ _ h => h) (Or.inl ⟨by rfl, by intro w' hS; go_simp⟩) hHeld ?_
  simp only [Act.put, List.getElem_toArray, List.getElem_cons_succ, List.getElem_cons_zero, List.setIfInBounds_toArray, List.set_cons_zero, List.set_cons_succ]
  refine wpAnyH_ready (rs := [8]) (by kernel_rfl) (by simp) (AllReadyH.cons rfl (fun K hK => ?_) AllReadyH.nil)
  rw [if_pos (by rfl)]
  have K5 := (k2.later L1)
  refine wp_store_mid 163 (.tmp 4) (.tmp 12) rfl (w.heap.size + 1) 0 #[.bool false, x.b0, x.b1, x.b2, x.b3, x.b4, x.b5, x.b6, x.b7] rfl rfl (K5.thereAll _ rfl) (by kernel_rfl) (by simp [Value.oneCell']) ?_
  have KS := K5.setCells #[.bool false, x.b0, x.b1, x.b2, x.b3, x.b4, x.b5, x.b6, x.b7] rfl
  have M9 : LatS W [w.heap.size + 1] (V0.setCells (w.heap.size + 1) 0 (#[.bool false, x.b0, x.b1, x.b2, x.b3, x.b4, x.b5, x.b6, x.b7] : Array Value).toList) := LatS.setCells (by simp) _ _ _ (L1.s _)
  have L9 : Lat w (V0.setCells (w.heap.size + 1) 0 (#[.bool false, x.b0, x.b1, x.b2, x.b3, x.b4, x.b5, x.b6, x.b7] : Array Value).toList) := Lat.setCells (by omega) _ _ _ (hl.trans L1)
  obtain ⟨V9, hV9⟩ : ∃ V, V0.setCells (w.heap.size + 1) 0 (#[.bool false, x.b0, x.b1, x.b2, x.b3, x.b4, x.b5, x.b6, x.b7] : Array Value).toList = V := ⟨_, rfl⟩
  rw [hV9] at KS M9 L9 ⊢
  clear hV9 K5
  refine hK.out _ _ M9 (fun hHeld1 => ?_)
  clear hK K
  try simp only [Act.put, List.getElem_toArray, List.getElem_cons_succ, List.getElem_cons_zero, List.setIfInBounds_toArray, List.set_cons_zero, List.set_cons_succ]
  refine wpAnyH_done (by kernel_rfl) ?_ _
  go_wp2
  have e0 := KS.cell 0
  have e1 := KS.cell 1
  have e2 := KS.cell 2
  have e3 := KS.cell 3
  have e4 := KS.cell 4
  have e5 := KS.cell 5
  have e6 := KS.cell 6
  have e7 := KS.cell 7
  have e8 := KS.cell 8
  refine bodyPost_ret (v := .agg #[.bool false, x.b0, x.b1, x.b2, x.b3, x.b4, x.b5, x.b6, x.b7]) (by simp [results, Tryz.results152, go_sem, e0, e1, e2, e3, e4, e5, e6, e7, e8]) rfl ?_
  exact ⟨rfl, L9⟩
 ·skip
  refine wp_region_held_drew (S := fun w' => LatS W [w.heap.size + 1] w') (by kernel_rfl) (L0.s _) (fun hHeld => ?_)
  generalize W.drew = V0 at L0 hHeld ⊢
  refine wpAnyH_take (i := 0) (v := .bool true) rfl (by kernel_rfl) (by kernel_rfl) (by kernel_rfl) (fun _ _ _ h => h) (Or.inl ⟨by rfl, by intro w' hS; go_simp⟩) hHeld ?_
  simp only [Act.put, List.getElem_toArray, List.getElem_cons_succ, List.getElem_cons_zero, List.setIfInBounds_toArray, List.set_cons_zero, List.set_cons_succ]
  refine wpAnyH_take (i := 1) (v := .bool true) rfl (by kernel_rfl) (by kernel_rfl) (by kernel_rfl) (fun _ _ _ h => h) (Or.inl ⟨by rfl, by intro w' hS; go_simp⟩) hHeld ?_
  simp only [Act.put, List.getElem_toArray, List.getElem_cons_succ, List.getElem_cons_zero, List.setIfInBounds_toArray, List.set_cons_zero, List.set_cons_succ]
  refine' wpAnyH_take (i := 2) rfl (by kernel_rfl) (by kernel_rfl) (by kernel_rfl) (fun _ _ _ h => h) (yieldsIf_load_mid (by rfl) 161 (.tmp 3) rfl w.heap.size 0 rfl _ _ R1 Tryz.underlying161 rfl zd0) hHeld ?_
  simp only [Act.put, List.getElem_toArray, List.getElem_cons_succ, List.getElem_cons_zero, List.setIfInBounds_toArray, List.set_cons_zero, List.set_cons_succ]
  refine' wpAnyH_take (i := 6) rfl (by kernel_rfl) (by kernel_rfl) (by kernel_rfl) (fun _ _ _ h => h) (yieldsIf_load_mid (by rfl) 161 (.tmp 3) rfl w.heap.size 0 rfl _ _ R1 Tryz.underlying161 rfl zd0) hHeld ?_
  simp only [Act.put, List.getElem_toArray, List.getElem_cons_succ, List.getElem_cons_zero, List.setIfInBounds_toArray, List.set_cons_zero, List.set_cons_succ]
  refine wpAnyH_ready (rs := [3]) (by kernel_rfl) (by simp) (AllReadyH.cons rfl (fun K hK => ?_) AllReadyH.nil)
  go_simp
  refine (HZ _).mono ?_
  rintro e V1 ⟨rfl, lg⟩
  have L1 := L0.trans lg
  clear lg
  refine hK.out _ _ (L1.s _) (fun hHeld1 => ?_)
  clear hK K
  try simp only [Act.put, List.getElem_toArray, List.getElem_cons_succ, List.getElem_cons_zero, List.setIfInBounds_toArray, List.set_cons_zero, List.set_cons_succ]
  refine wpAnyH_take (i := 4) (v := .bool (!v)) rfl (by kernel_rfl) (by kernel_rfl) (by kernel_rfl) (fun _ _ _ h => h) (Or.inl ⟨by rfl, by intro w' hS; go_simp⟩) hHeld1 ?_
  simp only [Act.put, List.getElem_toArray, List.getElem_cons_succ, List.getElem_cons_zero, List.setIfInBounds_toArray, List.set_cons_zero, List.set_cons_succ]
  refine wpAnyH_take (i := 5) (v := .bool (!v)) rfl (by kernel_rfl) (by kernel_rfl) (by kernel_rfl) (fun _ _ _ h => h) (Or.inl ⟨by rfl, by intro w' hS; go_simp⟩) hHeld1 ?_
  simp only [Act.put, List.getElem_toArray, List.getElem_cons_succ, List.getElem_cons_zero, List.setIfInBounds_toArray, List.set_cons_zero, List.set_cons_succ]
  refine wpAnyH_take (i := 7) (v := .agg #[.bool (!v), x.b0, x.b1, x.b2, x.b3, x.b4, x.b5, x.b6, x.b7]) rfl (by kernel_rfl) (by kernel_rfl) (by kernel_rfl) (fun _ _ _ h => h) (Or.inl ⟨by rfl, by intro w' hS; go_simp⟩) hHeld1 ?_
  simp only [Act.put, List.getElem_toArray, List.getElem_cons_succ, List.getElem_cons_zero, List.setIfInBounds_toArray, List.set_cons_zero, List.set_cons_succ]
  refine wpAnyH_ready (rs := [8]) (by kernel_rfl) (by simp) (AllReadyH.cons rfl (fun K hK => ?_) AllReadyH.nil)
  rw [if_pos (by rfl)]
  have K5 := (k2.later L1)
  refine wp_store_mid 163 (.tmp 4) (.tmp 12) rfl (w.heap.size + 1) 0 #[.bool (!v), x.b0, x.b1, x.b2, x.b3, x.b4, x.b5, x.b6, x.b7] rfl rfl (K5.thereAll _ rfl) (by kernel_rfl) (by simp [Value.oneCell']) ?_
  have KS := K5.setCells #[.bool (!v), x.b0, x.b1, x.b2, x.b3, x.b4, x.b5, x.b6, x.b7] rfl
  have M9 : LatS W [w.heap.size + 1] (V1.setCells (w.heap.size + 1) 0 (#[.bool (!v), x.b0, x.b1, x.b2, x.b3, x.b4, x.b5, x.b6, x.b7] : Array Value).toList) := LatS.setCells (by simp) _ _ _ (L1.s _)
  have L9 : Lat w (V1.setCells (w.heap.size + 1) 0 (#[.bool (!v), x.b0, x.b1, x.b2, x.b3, x.b4, x.b5, x.b6, x.b7] : Array Value).toList) := Lat.setCells (by omega) _ _ _ (hl.trans L1)
  obtain ⟨V9, hV9⟩ : ∃ V, V1.setCells (w.heap.size + 1) 0 (#[.bool (!v), x.b0, x.b1, x.b2, x.b3, x.b4, x.b5, x.b6, x.b7] : Array Value).toList = V := ⟨_, rfl⟩
  rw [hV9] at KS M9 L9 ⊢
  clear hV9 K5
  refine hK.out _ _ M9 (fun hHeld2 => ?_)
  clear hK K
  try simp only [Act.put, List.getElem_toArray, List.getElem_cons_succ, List.getElem_cons_zero, List.setIfInBounds_toArray, List.set_cons_zero, List.set_cons_succ]
  refine wpAnyH_done (by kernel_rfl) ?_ _
  go_wp2
  have e0 := KS.cell 0
  have e1 := KS.cell 1
  have e2 := KS.cell 2
  have e3 := KS.cell 3
  have e4 := KS.cell 4
  have e5 := KS.cell 5
  have e6 := KS.cell 6
  have e7 := KS.cell 7
  have e8 := KS.cell 8
  refine bodyPost_ret (v := .agg #[.bool (!v), x.b0, x.b1, x.b2, x.b3, x.b4, x.b5, x.b6, x.b7]) (by simp [results, Tryz.results152, go_sem, e0, e1, e2, e3, e4, e5, e6, e7, e8]) rfl ?_
  exact ⟨rfl, L9⟩
structure LatP (M : Nat → Prop) (W w : World) : Prop where
 os : w.os = W.os
 tape : w.tape = W.tape
 output : w.output = W.output
 size : W.heap.size ≤ w.heap.size
 block : ∀ k, k < W.heap.size → ¬ M k → w.heap[k]? = W.heap[k]?
section
variable {M N : Nat → Prop} {W w X : World}
theorem LatP.refl (M : Nat → Prop) (W : World) : LatP M W W := ⟨rfl, rfl, rfl, Nat.le_refl _, fun _ _ _ => rfl⟩
theorem LatP.trans (h : LatP M W w) (k : LatP M w X) : LatP M W X :=
 ⟨k.os.trans h.os, k.tape.trans h.tape, k.output.trans h.output, Nat.le_trans h.size k.size, fun i hi hm => (k.block i (Nat.lt_of_lt_of_le hi h.size) hm).trans (h.block i hi hm)⟩
theorem LatP.wider (h : LatP M W w) (hMN : ∀ k, M k → N k) : LatP N W w := ⟨h.os, h.tape, h.output, h.size, fun k hk hn => h.block k hk (fun hm => hn (hMN k hm))⟩
theorem Lat.p (h : Lat W w) (M : Nat → Prop) : LatP M W w := ⟨Below.os h, Below.tape h, Below.output h, h.size, fun k hk _ => Below.block h k hk⟩
theorem LatP.lat {W0 : World} (h0 : Lat W0 W) (h : LatP M W w) (hM : ∀ k, M k → W0.heap.size ≤ k) : Lat W0 w :=
 ⟨h.os.trans (Below.os h0), h.tape.trans (Below.tape h0), h.output.trans (Below.output h0), Nat.le_trans h0.size h.size, fun k hk => (h.block k (Nat.lt_of_lt_of_le hk h0.size) (fun hm => by have := hM k hm; omega)).trans (Below.block h0 k hk)⟩
theorem Blk.keepP {g : Nat} {t : TypeId} {cs : Array Value} (h : Blk W g t cs) (hl : LatP M W w) (hg : ¬ M g) : Blk w g t cs := (hl.block g h.lt hg).trans h
end
theorem zdK {w : World} {g : Nat} {t : TypeId} {cs : Array Value} {i : Nat} {u : Value} {Q : World → Prop} (hb : Blk w g t cs)
  (h : ∀ W', Blk W' g t (cs.setIfInBounds i u) → (∀ k, k ≠ g → W'.heap[k]? = w.heap[k]?) → W'.heap.size = w.heap.size → LatP (· = g) w W' → Q W') : Q (w.setCell ⟨g, i, none⟩ u) := by
 have hs : (w.setCell ⟨g, i, none⟩ u).heap.size = w.heap.size := by simp [World.setCell]
 have hk : ∀ k, k ≠ g → (w.setCell ⟨g, i, none⟩ u).heap[k]? = w.heap[k]? := fun k hk => Below.heap_setCell w ⟨g, i, none⟩ u k hk
 exact h _ (hb.set i u) hk hs ⟨rfl, rfl, rfl, by omega, fun k _ hne => hk k hne⟩
theorem LatP.setCells {g : Nat} (vs : List Value) : ∀ (w : World) (o : Nat), LatP (· = g) w (w.setCells g o vs) := by
 induction vs with
 | nil => exact fun w o => LatP.refl _ _
 | cons x r ih =>
   intro w o
   refine LatP.trans ?_ (ih (w.setCell ⟨g, o, none⟩ x) (o + 1))
   exact ⟨rfl, rfl, rfl, by simp [World.setCell], fun k _ hk => Below.heap_setCell w ⟨g, o, none⟩ x k hk⟩
theorem zbj {w : World} {l : Nat} {o : Obj} (_hl : l < w.heap.size) : LatP (· = l) w (w.putObj l o) := by
 refine ⟨rfl, rfl, rfl, by simp [World.putObj], fun k _ hk => ?_⟩
 simp only [World.putObj]
 rw [Array.getElem?_setIfInBounds_ne (fun h => hk h.symm)]
theorem zcZ {w : World} {l : Nat} {o : Obj} (hl : l < w.heap.size) : (w.putObj l o).heap[l]? = some o := World.putObj_heap_same hl
theorem zaw {W : World} {k : Nat} {o : Obj} (h : W.heap[k]? = some o) : k < W.heap.size := (Array.getElem?_eq_some_iff.1 h).1
theorem LatP.at_ {M : Nat → Prop} {W w : World} {k : Nat} {o : Obj} (hl : LatP M W w) (h : W.heap[k]? = some o) (hk : ¬ M k) : w.heap[k]? = some o := (hl.block k (zaw h) hk).trans h
theorem LatP.narrow {g : Nat} {w w2 w4 : World} (h : LatP (· = g) w2 w4) (l : Lat w w2) (hg : w.heap.size ≤ g) : Lat w w4 :=
 ⟨h.os.trans (Below.os l), h.tape.trans (Below.tape l), h.output.trans (Below.output l), Nat.le_trans l.size h.size, fun k hk => (h.block k (Nat.lt_of_lt_of_le hk l.size) (Nat.ne_of_lt (Nat.lt_of_lt_of_le hk hg))).trans (Below.block l k hk)⟩
def zj9 (l : Nat) (rec : LoopState → Option Code → Loop) (R : Bool → World → Prop) : Exit → Act → World → Prop
 | .normal, _, w => w.heap[l]? = some (.loop (rec .busy none)) ∧ R true (w.putObj l (.loop (rec .ready none)))
 | .ret, _, w => w.heap[l]? = some (.loop (rec .busy none)) ∧ R false (w.putObj l (.loop (rec .done (some .ret))))
 | _, _, _ => False
theorem zgx {P : Program} {a : Act} {fn : FuncId} {ps : Array Tmp} {assign body : Code} {D l n : Nat} {args : Array Value} {W : World} {R : Bool → World → Prop}
  (hl : W.heap[l]? = some (.loop (zdZ a fn ps assign body D .ready none))) (hs : args.size = ps.size)
  (h : assign.wpIn (Fence.wide.inRound l) n P (Exit.then (fun a₁ w₁ => w₁.heap[l]? = some (.loop (zdZ a fn ps assign body D .ready none)) ∧
     body.wpIn (Fence.wide.inRound l) n P (zj9 l (zdZ a fn ps assign body D) R) a₁ (w₁.putObj l (.loop (zdZ a fn ps assign body D .busy none)))) (fun _ _ _ => False))
    { tmps := (ps.zip args).foldl (fun tmps (t, a) => tmps.setIfInBounds t a) a.tmps, defers := [] } W) :
  YieldAt Fence.wide n P l args W (fun e w' => ∃ b, e = .returned (.bool b) ∧ R b w') := by
 refine ⟨fn, _, assign, body, run_yield hl hs, roundIn_of_wpIn trivial ?_⟩
 refine wpIn_mono h ?_
 rintro e a₁ w₁ hq
 cases e with
 | normal =>
   obtain ⟨hl1, hb⟩ := hq
   refine ⟨_, run_beginRound hl1 rfl, ?_⟩
   refine wpIn_mono hb ?_
   rintro e a₂ w₂ hq
   cases e with
   | normal =>
     obtain ⟨h1, h2⟩ := hq
     exact ⟨_, _, run_endRound none h1, true, rfl, h2⟩
   | ret =>
     obtain ⟨h1, h2⟩ := hq
     exact ⟨_, _, run_endRound (some .ret) h1, false, rfl, h2⟩
   | exit i => exact hq.elim
   | goto t => exact hq.elim
   | panic c => exact hq.elim
   | outgrown => exact hq.elim
 | exit id => exact hq.elim
 | ret => exact hq.elim
 | goto t => exact hq.elim
 | panic c => exact hq.elim
 | outgrown => exact hq.elim
def zlN (l D : Nat) (rec : LoopState → Option Code → Loop) (Q : Exit → Act → World → Prop) (a : Act) (e : Ending) (w : World) : Prop :=
 ∃ v, e = .returned v ∧
  ((w.heap[l]? = some (.loop (rec .ready none)) ∧ Q .normal { a with defers := { target := .collected D, args := #[] } :: a.defers } (w.putObj l (.loop (rec .exhausted none)))) ∨
   (w.heap[l]? = some (.loop (rec .done (some .ret))) ∧ Q .ret { a with defers := { target := .collected D, args := #[] } :: a.defers } (w.putObj l (.loop (rec .exhausted (some .ret))))))
theorem zc0 {P : Program} {g : Operand} {ps : Array Tmp} {assign body : Code} {Q : Exit → Act → World → Prop} {a : Act} {w : World} {gf : Nat} {lb : Array Value}
  (hg : a.eval g = .func (.func gf) #[] lb) (eg : ∀ args w, (callFunc gf args).run P w = .ok (.enter gf args) w)
  (h : ∀ (fn : FuncId) (W1 : World), W1 = (w.alloc (.deferred (some []))).alloc (.loop (zdZ a fn ps assign body w.heap.size .ready none)) →
    Calls P gf (#[.func (.yield (w.heap.size + 1)) #[] #[]] ++ lb) W1 (zlN (w.heap.size + 1) w.heap.size (zdZ a fn ps assign body w.heap.size) Q a)) :
  (Code.rangeFunc g ps assign body).wp P Q a w := by
 refine (wpIn_wide (n := 3)).1 (wpIn_rangeFunc (F := Fence.wide) (n := 3) ?_)
 intro fn _
 have hro : Fence.wide.round = none := rfl
 rw [hro]
 have h' := h fn _ rfl
 obtain ⟨W1, hW1⟩ : ∃ W1, (w.alloc (.deferred (some []))).alloc (.loop (zdZ a fn ps assign body w.heap.size .ready none)) = W1 := ⟨_, rfl⟩
 rw [hW1] at h'
 refine ⟨w.heap.size + 1, [{ target := .collected w.heap.size, args := #[] }], W1, { target := .fn (.func gf) lb, args := #[.func (.yield (w.heap.size + 1)) #[] #[]] }, W1, gf,
  #[.func (.yield (w.heap.size + 1)) #[] #[]] ++ lb, W1, ?_, ?_, fun _ _ => trivial, ?_, ?_, ?_⟩
 ·have := run_enterLoop_outer (P := P) (w := w) fn a.tmps ps assign body
  rw [this, ← hW1]
  rfl
 ·clear h h' eg
  simp only [resolve, hg]
  simp [go_sem]
 ·clear h h' hg
  simp [invoke, go_sem, eg]
 ·intro hh; cases hh
 ·rw [show (3 - 1 : Nat) = 2 from rfl]
  refine callsIn_wide.2 (h'.mono ?_)
  rintro e w2 ⟨v, rfl, h⟩
  rcases h with ⟨h1, h2⟩ | ⟨h1, h2⟩
  ·exact ⟨none, _, run_endLoop h1 (by simp [zdZ]), h2⟩
  ·exact ⟨some .ret, _, run_endLoop h1 (by simp [zdZ]), wpIn_ret h2⟩
theorem LatP.setc (w : World) (g i : Nat) (v : Value) : LatP (· = g) w (w.setCell ⟨g, i, none⟩ v) := ⟨rfl, rfl, rfl, by simp [World.setCell], fun k _ hk => Below.heap_setCell w ⟨g, i, none⟩ v k hk⟩
theorem zd1 {w : World} {g : Nat} {t : TypeId} {c0 c1 c2 c3 c4 c5 c6 c7 v0 v1 v2 v3 v4 v5 v6 v7 : Value} {Q : World → Prop} (hb : Blk w g t #[c0, c1, c2, c3, c4, c5, c6, c7])
  (h : ∀ W', Blk W' g t #[v0, v1, v2, v3, v4, v5, v6, v7] → LatP (· = g) w W' → Q W') : Q ((((((((w.setCell ⟨g, 0, none⟩ v0).setCell ⟨g, 1, none⟩ v1).setCell ⟨g, 2, none⟩ v2).setCell ⟨g, 3, none⟩ v3).setCell ⟨g, 4, none⟩ v4).setCell ⟨g, 5, none⟩ v5).setCell ⟨g, 6, none⟩ v6).setCell ⟨g, 7, none⟩ v7) := by
 refine h _ ?_ ((((((((LatP.setc w g 0 v0).trans (LatP.setc (w.setCell ⟨g, 0, none⟩ v0) g 1 v1)).trans (LatP.setc ((w.setCell ⟨g, 0, none⟩ v0).setCell ⟨g, 1, none⟩ v1) g 2 v2)).trans (LatP.setc (((w.setCell ⟨g, 0, none⟩ v0).setCell ⟨g, 1, none⟩ v1).setCell ⟨g, 2, none⟩ v2) g 3 v3)).trans (LatP.setc ((((w.setCell ⟨g, 0, none⟩ v0).setCell ⟨g, 1, none⟩ v1).setCell ⟨g, 2, none⟩ v2).setCell ⟨g, 3, none⟩ v3) g 4 v4)).trans (LatP.setc (((((w.setCell ⟨g, 0, none⟩ v0).setCell ⟨g, 1, none⟩ v1).setCell ⟨g, 2, none⟩ v2).setCell ⟨g, 3, none⟩ v3).setCell ⟨g, 4, none⟩ v4) g 5 v5)).trans (LatP.setc ((((((w.setCell ⟨g, 0, none⟩ v0).setCell ⟨g, 1, none⟩ v1).setCell ⟨g, 2, none⟩ v2).setCell ⟨g, 3, none⟩ v3).setCell ⟨g, 4, none⟩ v4).setCell ⟨g, 5, none⟩ v5) g 6 v6)).trans (LatP.setc (((((((w.setCell ⟨g, 0, none⟩ v0).setCell ⟨g, 1, none⟩ v1).setCell ⟨g, 2, none⟩ v2).setCell ⟨g, 3, none⟩ v3).setCell ⟨g, 4, none⟩ v4).setCell ⟨g, 5, none⟩ v5).setCell ⟨g, 6, none⟩ v6) g 7 v7))
 have := ((((((((hb.set 0 v0).set 1 v1).set 2 v2).set 3 v3).set 4 v4).set 5 v5).set 6 v6).set 7 v7)
 simpa using this
theorem zka {w : World} {g : Nat} {t : TypeId} {c0 c1 c2 c3 c4 c5 c6 c7 c8 v0 v1 v2 v3 v4 v5 v6 v7 v8 : Value} {Q : World → Prop} (hb : Blk w g t #[c0, c1, c2, c3, c4, c5, c6, c7, c8])
  (h : ∀ W', Blk W' g t #[v0, v1, v2, v3, v4, v5, v6, v7, v8] → LatP (· = g) w W' → Q W') : Q (((((((((w.setCell ⟨g, 0, none⟩ v0).setCell ⟨g, 1, none⟩ v1).setCell ⟨g, 2, none⟩ v2).setCell ⟨g, 3, none⟩ v3).setCell ⟨g, 4, none⟩ v4).setCell ⟨g, 5, none⟩ v5).setCell ⟨g, 6, none⟩ v6).setCell ⟨g, 7, none⟩ v7).setCell ⟨g, 8, none⟩ v8) := by
 refine h _ ?_ (((((((((LatP.setc w g 0 v0).trans (LatP.setc (w.setCell ⟨g, 0, none⟩ v0) g 1 v1)).trans (LatP.setc ((w.setCell ⟨g, 0, none⟩ v0).setCell ⟨g, 1, none⟩ v1) g 2 v2)).trans (LatP.setc (((w.setCell ⟨g, 0, none⟩ v0).setCell ⟨g, 1, none⟩ v1).setCell ⟨g, 2, none⟩ v2) g 3 v3)).trans (LatP.setc ((((w.setCell ⟨g, 0, none⟩ v0).setCell ⟨g, 1, none⟩ v1).setCell ⟨g, 2, none⟩ v2).setCell ⟨g, 3, none⟩ v3) g 4 v4)).trans (LatP.setc (((((w.setCell ⟨g, 0, none⟩ v0).setCell ⟨g, 1, none⟩ v1).setCell ⟨g, 2, none⟩ v2).setCell ⟨g, 3, none⟩ v3).setCell ⟨g, 4, none⟩ v4) g 5 v5)).trans (LatP.setc ((((((w.setCell ⟨g, 0, none⟩ v0).setCell ⟨g, 1, none⟩ v1).setCell ⟨g, 2, none⟩ v2).setCell ⟨g, 3, none⟩ v3).setCell ⟨g, 4, none⟩ v4).setCell ⟨g, 5, none⟩ v5) g 6 v6)).trans (LatP.setc (((((((w.setCell ⟨g, 0, none⟩ v0).setCell ⟨g, 1, none⟩ v1).setCell ⟨g, 2, none⟩ v2).setCell ⟨g, 3, none⟩ v3).setCell ⟨g, 4, none⟩ v4).setCell ⟨g, 5, none⟩ v5).setCell ⟨g, 6, none⟩ v6) g 7 v7)).trans (LatP.setc ((((((((w.setCell ⟨g, 0, none⟩ v0).setCell ⟨g, 1, none⟩ v1).setCell ⟨g, 2, none⟩ v2).setCell ⟨g, 3, none⟩ v3).setCell ⟨g, 4, none⟩ v4).setCell ⟨g, 5, none⟩ v5).setCell ⟨g, 6, none⟩ v6).setCell ⟨g, 7, none⟩ v7) g 8 v8))
 have := (((((((((hb.set 0 v0).set 1 v1).set 2 v2).set 3 v3).set 4 v4).set 5 v5).set 6 v6).set 7 v7).set 8 v8)
 simpa using this
def zfH (w : World) (z : Int) (e : Ending) (w' : World) : Prop :=
 ∃ (b : Bool) (u : W8) (c : Bool), e = .returned (.tuple #[.agg #[.bool b, u.b0, u.b1, u.b2, u.b3, u.b4, u.b5, u.b6, u.b7], .bool c]) ∧ u.ok ∧ (c = false → z = sgn b u.mag ∧ (b = true → u.mag ≠ 0)) ∧ (c = true → z < -zaV ∨ zaV ≤ z) ∧ Lat w w'
end Go.Proofs.YtpmbglhbcjbkcaaGreat
