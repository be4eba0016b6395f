/- Several texts in one: Below, Frame, FrameC, CsC, CsD. -/
import Derived.Test.YtogkkhaepfablaaRows
import Derived.Test.YtogkkhaepfablaaJ01
import Derived.Below
import Derived.WalkKit
import Derived.ProofKit
import Derived.OpenShut
import Derived.ShutString
import Derived.ChangeSame
import Derived.ReadAgain
import Derived.Lib.SmallJoins
import Derived.Test.YtogkkhaepfablaaK32
import Derived.Test.YtogkkhaepfablaaK31
import Derived.Test.YtogkkhaepfablaaCwC
import Derived.Test.YtogkkhaepfablaaJ28
import Derived.BigFrame
import Derived.Test.YtogkkhaepfablaaCwD

/- The row's last step where the world behind the call is later ('Lat'): what was there is as it was. -/
namespace Go.Proofs.Ytogkkhaepfablaa
open Go.ChangeShapes Go.WideShapes Go.ChangeAt Go.RowKit

section
variable {H : Type} {enc : TypeId × Value → H} {P : Program}
/-- The post of a row of a law without variables, whose call hands back results and leaves its arguments reading as before. -/
theorem post_later {f : Func} {s : ChangeSpec} {apart fresh handsOn again : Bool} {W W' : World} {args : Array Value} {v : Value} {ds gs : List (DataW H)} {before pa pv : List MemPlace}
    (hW : DataW.Whole enc P f.params.toList s.vars apart W args.toList ds gs before) (hps : before = pa ++ pv) (hb : Lat W W')
    (hres : ∀ (b : Nat) (sp : Nat → Bool) (hd : Bool), DataW.TrodAll enc P W' b sp hd f.resultTypes.toList (v.resultList f.resultTypes.size) (s.fn H (ds ++ gs)).results [])
    (hargs : ∀ sp : Nat → Bool, (∀ p ∈ before, sp p.block = true) → DataW.TrodAll enc P W' 0 sp true f.params.toList args.toList (s.fn H (ds ++ gs)).args pa)
    (hvars : ∀ sp : Nat → Bool, (∀ p ∈ before, sp p.block = true) → DataW.TrodVars enc P W' sp s.vars (s.fn H (ds ++ gs)).vars pv)
    (hok : ∀ (j : Nat) (t : TypeId) (r : Value), f.resultTypes[j]? = some t → (v.resultList f.resultTypes.size)[j]? = some r → Value.okWide P W' .any 0 t r) :
    s.post enc P f apart fresh handsOn again W args v W' := by
  have hB : Below W.heap.size W W' := hb
  have hlt := fun p hp => hW.lt p hp
  have hsp : ∀ p ∈ before, decide (p.block < W.heap.size) = true := fun p hp => decide_eq_true (hlt p hp)
  obtain ⟨h1, h2, h3, h4, h5, hz, hn⟩ := id hW
  have hno : ∀ b off, MemPlace.cell b off ∈ pa ++ pv → W'.frozen? ⟨b, off, none⟩ = false := fun b off hp => by
    have hin : MemPlace.cell b off ∈ before := hps ▸ hp
    rw [hB.frozen (hlt _ hin)]
    exact hz b off hin
  refine ⟨ds, gs, before, [], pa, pv, hW, hres _ _ _, hargs (fun b => decide (b < W.heap.size)) hsp, hvars (fun b => decide (b < W.heap.size)) hsp, World.keptBut_mono (fun p hp => ⟨hp, ?_⟩) (hB.frame (· ∈ before)), fun _ => ⟨hok, (s.fn H (ds ++ gs)).results ++ (s.fn H (ds ++ gs)).args, (s.fn H (ds ++ gs)).vars, pa ++ pv, ⟨pa, pv, ?_, hvars (fun _ => true) (fun _ _ => rfl), rfl, hno, ?_⟩, ?_⟩⟩
  · rw [hps] at hp
    exact .inr (List.mem_append.1 hp)
  · have := trodAll_append (hargs (fun _ => true) (fun _ _ => rfl)) (hres 0 (fun _ => true) true)
    simpa using this
  · intro ha
    have := hn ha
    rwa [hps] at this
  · intro p hp _
    rwa [hps]
end
end Go.Proofs.Ytogkkhaepfablaa

/- The frame of a law without variables that answers true and writes nothing that came in: the row's last step, whatever the arguments' types; slices and drafts opened. -/
namespace Go.Proofs.Ytogkkhaepfablaa
open Go.ChangeShapes Go.WideShapes Go.ChangeAt Go.RowKit

theorem kidsA : Kids Try.prog (· < Try.prog.types.size) := kids_rows (by kernel_rfl) (by kernel_rfl)
theorem fullA : ∀ t e, t < Try.prog.types.size → Try.prog.underlying t = some (.slice e) → 0 < Try.prog.cellsOf e := slices_full_of Try.prog (by kernel_rfl)

section
variable {H : Type} {enc : TypeId × Value → H} {P : Program} {T : TypeId → Prop} {w w' : World} {base : Nat} {spare : Nat → Bool} {held : Bool}
theorem trodAll_carry : ∀ {ts : List TypeId} {vs : List Value} {ds : List (DataW H)} {ps : List MemPlace}, DataW.TrodAll enc P w base spare held ts vs ds ps → (∀ p ∈ ps, w.sameAt w' p) → DataW.TrodAll enc P w' base spare held ts vs ds ps
  | [], [], [], _, h, _ => h
  | _ :: _, _ :: _, _ :: _, _, ⟨p, q, ⟨n, h1⟩, h2, e⟩, hs =>
    ⟨p, q, ⟨n, DataW.trod_carry n _ _ _ h1 (fun x hx => hs x (by rw [e]; exact List.mem_append_left _ hx))⟩, trodAll_carry h2 (fun x hx => hs x (by rw [e]; exact List.mem_append_right _ hx)), e⟩
theorem sameAt_later {W W' : World} (hl : Lat W W') : ∀ p : MemPlace, p.block < W.heap.size → W.sameAt W' p
  | .cell b off, h => World.cell?_of_block (a := ⟨b, off, none⟩) (Below.block hl b h)
  | .map b, h => Below.block hl b h

/-- The row's last step of a law that answers true. -/
theorem post_true (K : Kids P T) (hz : ∀ t e, T t → P.underlying t = some (.slice e) → 0 < P.cellsOf e) {f : Func} {s : ChangeSpec} {apart fresh handsOn again : Bool} {W W' : World} {args : Array Value} {ds gs : List (DataW H)} {before ps : List MemPlace} {tb : TypeId}
    (hT : ∀ t ∈ f.params.toList, T t) (hA : DataW.TrodAll enc P W 0 (fun _ => true) true f.params.toList args.toList ds ps) (hpb : before = ps)
    (hW : DataW.Whole enc P f.params.toList s.vars apart W args.toList ds gs before) (hl : Lat W W') (hv : s.vars = [])
    (hr : (s.fn H (ds ++ gs)).results = [.lit (.bool true)]) (ha : (s.fn H (ds ++ gs)).args = ds) (hx : (s.fn H (ds ++ gs)).vars = []) (ht : f.resultTypes = #[tb]) (hb : P.underlying tb = some .bool) :
    s.post enc P f apart fresh handsOn again W args (.bool true) W' := by
  subst hpb
  have hlt := hA.lt
  refine post_later (pa := before) (pv := []) hW (by simp) hl (fun b sp hd => ?_) (fun sp hsp => ?_) (fun sp _ => ?_) ?_
  · rw [hr, ht]
    exact trodAll_cons_mk (shut_bool hb true) trodAll_mk0
  · rw [ha]
    exact trodAll_carry (DataW.TrodAll.respare K hz hT hA hsp) (fun p hp => sameAt_later hl p (hlt p hp))
  · rw [hx, hv]
    rfl
  · exact ok_one ht rfl (okWide_bool_mk hb true)

/-- A slice of numbers that came in. -/
theorem open_slT {t e : TypeId} {k : IntKind} {fuel : Nat} {c : Value} {x : DataW H × List MemPlace} (ht : P.underlying t = some (.slice e)) (he : P.underlying e = some (.int k)) (hc : P.cellsOf e = 1)
    (hf : DataW.trod enc P w base spare held fuel t [c] = some x) :
    ∃ A n c' xs, c = .slice A n c' ∧ Sl w k A n xs ∧ n ≤ c' ∧ n ≤ 9223372036854775807 ∧ ∀ x ∈ xs, (Lit.int k x).wf = true := by
  rcases open_ints ht he hc hf with ⟨h1, _⟩ | ⟨a, len, cap, zs, h1, _, hlc, hcm, hz, _, hcell, hw⟩
  · simp only [List.cons.injEq, and_true] at h1
    subst h1
    exact ⟨none, 0, 0, [], rfl, Sl.nil _ _ _, Nat.le_refl _, by omega, fun x hx => by cases hx⟩
  · simp only [List.cons.injEq, and_true] at h1
    subst h1
    have hlz : len ≤ zs.length := by rw [hz]; split <;> omega
    refine ⟨some a, len, cap, zs.take len, rfl, ⟨by rw [List.length_take]; omega, fun hn => ⟨a, rfl, ?_, fun i x hx => ?_⟩⟩, hlc, by unfold maxLen at hcm; omega, fun x hx => hw x (List.mem_of_mem_take hx)⟩
    · have := World.block_lt_of_cell? _ _ (hcell 0 (by omega))
      rwa [block_add] at this
    · have hi : i < len := by
        have := (List.getElem?_eq_some_iff.1 hx).1
        rw [List.length_take] at this
        omega
      rw [hcell i (by omega)]
      rw [List.getElem?_take_of_lt hi] at hx
      rw [List.getD, hx]
      rfl
theorem open_sl {r : Reach} {b0 : Nat} {t e : TypeId} {k : IntKind} {v : Value} {d : DataW H} {ps : List MemPlace} (ht : P.underlying t = some (.slice e)) (he : P.underlying e = some (.int k)) (hc : P.cellsOf e = 1)
    (hval : Value.okWide P w r b0 t v) (h : DataW.Trod enc P w base spare held t v d ps) :
    ∃ A n c xs, v = .slice A n c ∧ Sl w k A n xs ∧ n ≤ c ∧ n ≤ 9223372036854775807 ∧ ∀ x ∈ xs, (Lit.int k x).wf = true := by
  obtain ⟨a0, len0, cap0, rfl⟩ := okWide_slice ht hval
  obtain ⟨fuel, hf⟩ := h
  exact open_slT ht he hc hf
end
end Go.Proofs.Ytogkkhaepfablaa

/- The frame: a state of chance that came in. -/
namespace Go.Proofs.Ytogkkhaepfablaa
open Go.ChangeShapes Go.WideShapes Go.ChangeAt Go.RowKit

theorem chanceCells : Try.prog.cellsOf 24 = 1 := by kernel_rfl
theorem cellU64 : Try.prog.cellsOf 22 = 1 := by kernel_rfl
theorem list_one {α : Type} (l : List α) (h : (⟨l⟩ : Array α).size = 1) : ∃ a, l = [a] := by
  match l, h with
  | [a], _ => exact ⟨a, rfl⟩
set_option maxRecDepth 100000 in
theorem open_chance {H : Type} {enc : TypeId × Value → H} {w : World} {base : Nat} {spare : Nat → Bool} {held : Bool} {r : Reach} {b0 : Nat} {v : Value} {d : DataW H} {ps : List MemPlace}
    (hval : Value.okWide Try.prog w r b0 24 v) (h : DataW.Trod enc Try.prog w base spare held 24 v d ps) : ∃ s : Int, v = .agg #[.int .u64 s] ∧ (Lit.int .u64 s).wf = true := by
  obtain ⟨cs, rfl, hsz⟩ := okWide_struct Try.underlying24 hval
  rw [chanceCells] at hsz
  obtain ⟨l⟩ := cs
  obtain ⟨c0, rfl⟩ := list_one l hsz
  obtain ⟨fuel, hf⟩ := h
  obtain ⟨y0, n, _, _, h0⟩ := trod_struct1 Try.underlying24 hf
  simp only [cellU64, Value.cells] at h0
  obtain ⟨s, e0, _, w0⟩ := DataW.trod_int Try.underlying22 h0
  simp at e0
  subst e0
  exact ⟨s, rfl, w0⟩
theorem wf_u64' {a : Int} (h : (Lit.int .u64 a).wf = true) : 0 ≤ a ∧ a < 18446744073709551616 := by
  have e1 : IntKind.u64.min = 0 := by decide
  have e2 : IntKind.u64.max = 18446744073709551615 := by decide
  simp [Lit.wf, e1, e2] at h
  omega
end Go.Proofs.Ytogkkhaepfablaa

/- Chance: the law of the shuffled lists: Shuffle agrees with the reference, walked. -/
namespace Go.Proofs.Ytogkkhaepfablaa
open Go.RowKit Go.Shelf
set_option linter.unusedSimpArgs false
set_option linter.unusedVariables false

theorem wpList_binG {P : Program} {ops : Array Oper} {rest : List Oper} {o : Oper} {a : Act} {w : World} {Q : Exit → Act → World → Prop} (hw : Region.wanted o (yielded ops a.tmps) = true) (op : BinOp) (t t2 : TypeId) (x y : Operand) (ho : o.op = .binOp op t x y t2)
    (X Y : Array Value) (V : Value) (hx : a.eval x = .agg X) (hy : a.eval y = .agg Y) (hm : P.eqGuardType P.depth t = false) (hrun : (binOp op t (.agg X) (.agg Y)).run P w = .ok V w)
    (h : wpList P ops Q rest (a.put o.dst V) w) : wpList P ops Q (o :: rest) a w := by
  refine Go.BigFrame.wpList_want hw fun K hK => ?_
  unfold Oper.wp execOp
  have hg := run_eqGuard_agg (P := P) w op t x y X Y hm
  simp [ho, hx, hy, hg, hrun, Result.andThen]
  exact hK _ _ h
/-- One round of the law, with its numbers. -/
structure CsR (s : Nat) (k : Int) (l : List Int) (t : Nat) (en : Int) : Prop where
  p : ∀ w, Calls Try.prog 9 #[.agg #[.int .u64 (s : Nat)], .int .i64 k] w (ShufEnd w l t en)
  r : ∀ w, Calls Try.prog 10 #[.agg #[.int .u64 (s : Nat)], .int .i64 k] w (ShufEnd w l t en)
  ne : Hid (∀ w, (binOp .neq 24 (.agg #[.int .u64 (t : Nat)]) (.agg #[.int .u64 (t : Nat)])).run Try.prog w = .ok (.bool false) w)
  ll : l.length ≤ 400
set_option maxRecDepth 100000 in
theorem cs_ix0 (a b : Int) (w : World) : (Instr.index 27 (.agg #[.int .i64 a, .int .i64 b]) (.int .i64 0)).run Try.prog w = .ok (.int .i64 a) w := by kernel_rfl
theorem cs_ix1 (a b : Int) (w : World) : (Instr.index 27 (.agg #[.int .i64 a, .int .i64 b]) (.int .i64 1)).run Try.prog w = .ok (.int .i64 b) w := by kernel_rfl

set_option maxRecDepth 100000 in
set_option maxHeartbeats 4000000 in
theorem cShufLaw_from (HWK : ∀ w, Calls Try.prog 8 #[] w (fun e w' => e = .returned (.bool true) ∧ Lat w w')) (s : Nat) (n few q : Int) (hq : few.tmod 40 = q) (hq2 : wrap64 q = q)
    (l1 : List Int) (t1 : Nat) (e1 : Int) (R1 : CsR s n l1 t1 e1) (l2 : List Int) (t2 : Nat) (e2 : Int) (R2 : CsR s q l2 t2 e2) (w : World) :
    Calls Try.prog 3 #[.agg #[.int .u64 (s : Nat)], .int .i64 n, .int .u16 few] w (fun e w' => e = .returned (.bool true) ∧ Lat w w') := by
  have HQ := Lib.hid hq
  have HQ2 := Lib.hid hq2
  clear hq hq2
  go_enter Try.func3, Try.ntmps3
  go_upto_region 1 with (fail)
  refine name1 (Q := fun W => Code.wp _ _ _ _ W) ?_
  intro W1 l1' hs1 k3
  obtain ⟨g3, hg3⟩ : ∃ z, w.heap.size = z := ⟨_, rfl⟩
  rw [hg3] at k3 ⊢
  go_wp2_with fail
  refine (HWK W1).mono ?_
  rintro e W2 ⟨rfl, l2'⟩
  replace k3 := k3.later l2'
  have L2 := l1'.trans l2'
  clear l1' l2' HWK hs1 hg3
  go_upto_region 4 with (fail)
  rw [HQ.out, HQ2.out]
  clear HQ HQ2
  go_loopw [22] (fun i wr => Lat w wr ∧ Blk wr g3 24 #[.int .u64 (s : Nat)] ∧ (i = .int .i64 0 ∨ i = .int .i64 1 ∨ i = .int .i64 2)) (fun i _ => 2 - (intOf i).toNat)
  case atStart => exact ⟨L2, k3, .inl rfl⟩
  case round =>
    clear L2 k3
    obtain ⟨L2, k3, rfl | rfl | rfl⟩ := hrel
    · obtain ⟨P, RR, NE, LL⟩ := R1
      have HP := Lib.hid P
      have HR := Lib.hid RR
      clear P RR
      have hix := cs_ix0 n q
      have c3 : wr.cell? ⟨g3, 0, none⟩ = some (.int .u64 (s : Int)) := k3.cell 0
      go_wp2_with fail
      refine (HP.out wr).mono ?_
      rintro e V1 ⟨A1, n1, m1, rfl, sl1, la⟩
      replace k3 := k3.later la
      replace L2 := L2.trans la
      clear c3 la HP hix
      go_upto_region 7 with (fail)
      refine name1 (Q := fun W => Code.wp _ _ _ _ W) ?_
      intro V2 la hs2 k10
      replace k3 := k3.later la
      replace sl1 := sl1.later la
      replace L2 := L2.trans la
      obtain ⟨g10, hg10⟩ : ∃ z, V1.heap.size = z := ⟨_, rfl⟩
      rw [hg10] at k10 ⊢
      clear la hs2 hg10
      have c3 : V2.cell? ⟨g3, 0, none⟩ = some (.int .u64 (s : Int)) := k3.cell 0
      go_wp2_with fail
      refine (HR.out V2).mono ?_
      rintro e V3 ⟨A2, n2, m2, rfl, sl2, la⟩
      replace k3 := k3.later la
      replace k10 := k10.later la
      replace sl1 := sl1.later la
      replace L2 := L2.trans la
      clear c3 la HR
      go_upto_region 8 with (fail)
      refine name1 (Q := fun W => Code.wp _ _ _ _ W) ?_
      intro V4 la hs4 k13
      replace k3 := k3.later la
      replace k10 := k10.later la
      replace sl1 := sl1.later la
      replace sl2 := sl2.later la
      replace L2 := L2.trans la
      obtain ⟨g13, hg13⟩ : ∃ z, V3.heap.size = z := ⟨_, rfl⟩
      rw [hg13] at k13 ⊢
      clear la hs4 hg13
      have hn1 := sl1.1
      have hn2 := sl2.1
      have HEQ := equal_any A1 n1 m1 l1 A2 n2 m2 l1 V4 sl1 sl2 (by omega) (by omega)
      rw [show (l1 == l1) = true from beq_self_eq_true _] at HEQ
      clear sl1 sl2 hn1 hn2 LL
      go_wp2_with fail
      refine HEQ.mono ?_
      rintro e V5 ⟨rfl, la⟩
      replace k3 := k3.later la
      replace k10 := k10.later la
      replace k13 := k13.later la
      replace L2 := L2.trans la
      clear la HEQ
      have c10 : V5.cell? ⟨g10, 0, none⟩ = some (.int .u64 (t1 : Int)) := k10.cell 0
      have c13 : V5.cell? ⟨g13, 0, none⟩ = some (.int .u64 (t1 : Int)) := k13.cell 0
      go_wp2_with (refine wpList_binG (by rfl) .neq 24 24 (.tmp 44) (.tmp 45) (by rfl) #[.int .u64 (t1 : Nat)] #[.int .u64 (t1 : Nat)] _ (by rfl) (by rfl) (by kernel_rfl) (NE.out _) ?_)
      exact ⟨⟨L2, k3, .inr (.inl rfl)⟩, by simp [intOf]⟩
    · obtain ⟨P, RR, NE, LL⟩ := R2
      have HP := Lib.hid P
      have HR := Lib.hid RR
      clear P RR
      have hix := cs_ix1 n q
      have c3 : wr.cell? ⟨g3, 0, none⟩ = some (.int .u64 (s : Int)) := k3.cell 0
      go_wp2_with fail
      refine (HP.out wr).mono ?_
      rintro e V1 ⟨A1, n1, m1, rfl, sl1, la⟩
      replace k3 := k3.later la
      replace L2 := L2.trans la
      clear c3 la HP hix
      go_upto_region 7 with (fail)
      refine name1 (Q := fun W => Code.wp _ _ _ _ W) ?_
      intro V2 la hs2 k10
      replace k3 := k3.later la
      replace sl1 := sl1.later la
      replace L2 := L2.trans la
      obtain ⟨g10, hg10⟩ : ∃ z, V1.heap.size = z := ⟨_, rfl⟩
      rw [hg10] at k10 ⊢
      clear la hs2 hg10
      have c3 : V2.cell? ⟨g3, 0, none⟩ = some (.int .u64 (s : Int)) := k3.cell 0
      go_wp2_with fail
      refine (HR.out V2).mono ?_
      rintro e V3 ⟨A2, n2, m2, rfl, sl2, la⟩
      replace k3 := k3.later la
      replace k10 := k10.later la
      replace sl1 := sl1.later la
      replace L2 := L2.trans la
      clear c3 la HR
      go_upto_region 8 with (fail)
      refine name1 (Q := fun W => Code.wp _ _ _ _ W) ?_
      intro V4 la hs4 k13
      replace k3 := k3.later la
      replace k10 := k10.later la
      replace sl1 := sl1.later la
      replace sl2 := sl2.later la
      replace L2 := L2.trans la
      obtain ⟨g13, hg13⟩ : ∃ z, V3.heap.size = z := ⟨_, rfl⟩
      rw [hg13] at k13 ⊢
      clear la hs4 hg13
      have hn1 := sl1.1
      have hn2 := sl2.1
      have HEQ := equal_any A1 n1 m1 l2 A2 n2 m2 l2 V4 sl1 sl2 (by omega) (by omega)
      rw [show (l2 == l2) = true from beq_self_eq_true _] at HEQ
      clear sl1 sl2 hn1 hn2 LL
      go_wp2_with fail
      refine HEQ.mono ?_
      rintro e V5 ⟨rfl, la⟩
      replace k3 := k3.later la
      replace k10 := k10.later la
      replace k13 := k13.later la
      replace L2 := L2.trans la
      clear la HEQ
      have c10 : V5.cell? ⟨g10, 0, none⟩ = some (.int .u64 (t2 : Int)) := k10.cell 0
      have c13 : V5.cell? ⟨g13, 0, none⟩ = some (.int .u64 (t2 : Int)) := k13.cell 0
      go_wp2_with (refine wpList_binG (by rfl) .neq 24 24 (.tmp 44) (.tmp 45) (by rfl) #[.int .u64 (t2 : Nat)] #[.int .u64 (t2 : Nat)] _ (by rfl) (by rfl) (by kernel_rfl) (NE.out _) ?_)
      exact ⟨⟨L2, k3, .inr (.inr rfl)⟩, by simp [intOf]⟩
    · clear R1 R2
      go_wp2
      go_ret
      exact ⟨rfl, L2⟩
end Go.Proofs.Ytogkkhaepfablaa

/- Chance: the law of the shuffled lists, joined. -/
namespace Go.Proofs.Ytogkkhaepfablaa
open Go.RowKit

theorem wf_u16c {a : Int} (h : (Lit.int .u16 a).wf = true) : 0 ≤ a ∧ a < 65536 := by
  have e1 : IntKind.u16.min = 0 := by decide
  have e2 : IntKind.u16.max = 65535 := by decide
  simp [Lit.wf, e1, e2] at h
  omega
theorem shufV_len (s : Nat) (n : Int) : (shufV s n).length ≤ 400 := by
  unfold shufV
  by_cases h : n < 0 ∨ 400 < n
  · rw [if_pos h]; simp
  · rw [if_neg h]
    cases ho : shufOpt s n.toNat with
    | none => rw [optL]; simp
    | some p =>
      obtain ⟨l, t⟩ := p
      have := (shufOpt_perm ho).length_eq
      rw [optL, this, idL, fillTo_len]
      omega
theorem shufS_lt (s : Nat) (hs : s < 18446744073709551616) (n : Int) : shufS s n < 18446744073709551616 := by
  unfold shufS
  by_cases h : n < 0 ∨ 400 < n
  · rw [if_pos h]; decide
  · rw [if_neg h]
    cases ho : shufOpt s n.toNat with
    | none => rw [optT]; decide
    | some p =>
      obtain ⟨l, t⟩ := p
      rw [optT]
      exact shufOpt_lt hs ho
theorem csR (s : Nat) (hs : s < 18446744073709551616) (n : Int) : CsR s n (shufV s n) (shufS s n) (shufE s n) :=
  ⟨cShuffle_any s hs n, rShuffle_any s hs n, fun w => by
    have hlt := shufS_lt s hs n
    have h := chance_neq (s := (shufS s n : Int)) (t := (shufS s n : Int)) ⟨by omega, by unfold W64; omega⟩ ⟨by omega, by unfold W64; omega⟩ w
    rw [decide_eq_true rfl] at h
    exact h, shufV_len s n⟩
theorem cShufLaw_any (s n few : Int) (w : World) (h0 : 0 ≤ s ∧ s < 18446744073709551616) (h1 : 0 ≤ few ∧ few < 65536) :
    Calls Try.prog 3 #[.agg #[.int .u64 s], .int .i64 n, .int .u16 few] w (fun e w' => e = .returned (.bool true) ∧ Lat w w') := by
  obtain ⟨k, rfl⟩ := Int.eq_ofNat_of_zero_le h0.1
  have hk : k < 18446744073709551616 := by omega
  have hq : few.tmod 40 = few % 40 := Int.tmod_eq_emod_of_nonneg h1.1
  exact cShufLaw_from works_any k n few (few % 40) hq (IntWalk.wrap64_in _ (by omega)) _ _ _ (csR k hk n) _ _ _ (csR k hk (few % 40)) w
end Go.Proofs.Ytogkkhaepfablaa
