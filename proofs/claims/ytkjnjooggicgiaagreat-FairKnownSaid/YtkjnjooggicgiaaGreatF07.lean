/- Several texts in one: Below, Frame, Slp, FwK, FkA. -/
import Derived.Test.YtkjnjooggicgiaaGreatRows
import Derived.Test.YtkjnjooggicgiaaGreatJ01
import Derived.Below
import Derived.WalkKit
import Derived.ProofKit
import Derived.OpenShut
import Derived.ShutString
import Derived.ChangeSame
import Derived.ReadAgain
import Derived.Lib.SmallJoins
import Derived.Test.YtkjnjooggicgiaaGreatE09
import Derived.Test.YtkjnjooggicgiaaGreatJ26
import Derived.Test.YtkjnjooggicgiaaGreatF06
import Derived.Test.YtkjnjooggicgiaaGreatF03
import Derived.Test.YtkjnjooggicgiaaGreatE08

/- The row's last step where the world behind the call is later ('Lat'): what was there is as it was. -/
namespace Go.Proofs.YtkjnjooggicgiaaGreat
open Go.ChangeShapes Go.WideShapes Go.ChangeAt Go.RowKit

section
variable {H : Type} {enc : TypeId × Value → H} {P : Program}
/-- The post of a row of a law without variables, whose call hands back results and leaves its arguments reading as before. -/
theorem post_later {f : Func} {s : ChangeSpec} {apart fresh handsOn again : Bool} {W W' : World} {args : Array Value} {v : Value} {ds gs : List (DataW H)} {before pa pv : List MemPlace}
    (hW : DataW.Whole enc P f.params.toList s.vars apart W args.toList ds gs before) (hps : before = pa ++ pv) (hb : Lat W W')
    (hres : ∀ (b : Nat) (sp : Nat → Bool) (hd : Bool), DataW.TrodAll enc P W' b sp hd f.resultTypes.toList (v.resultList f.resultTypes.size) (s.fn H (ds ++ gs)).results [])
    (hargs : ∀ sp : Nat → Bool, (∀ p ∈ before, sp p.block = true) → DataW.TrodAll enc P W' 0 sp true f.params.toList args.toList (s.fn H (ds ++ gs)).args pa)
    (hvars : ∀ sp : Nat → Bool, (∀ p ∈ before, sp p.block = true) → DataW.TrodVars enc P W' sp s.vars (s.fn H (ds ++ gs)).vars pv)
    (hok : ∀ (j : Nat) (t : TypeId) (r : Value), f.resultTypes[j]? = some t → (v.resultList f.resultTypes.size)[j]? = some r → Value.okWide P W' .any 0 t r) :
    s.post enc P f apart fresh handsOn again W args v W' := by
  have hB : Below W.heap.size W W' := hb
  have hlt := fun p hp => hW.lt p hp
  have hsp : ∀ p ∈ before, decide (p.block < W.heap.size) = true := fun p hp => decide_eq_true (hlt p hp)
  obtain ⟨h1, h2, h3, h4, h5, hz, hn⟩ := id hW
  have hno : ∀ b off, MemPlace.cell b off ∈ pa ++ pv → W'.frozen? ⟨b, off, none⟩ = false := fun b off hp => by
    have hin : MemPlace.cell b off ∈ before := hps ▸ hp
    rw [hB.frozen (hlt _ hin)]
    exact hz b off hin
  refine ⟨ds, gs, before, [], pa, pv, hW, hres _ _ _, hargs (fun b => decide (b < W.heap.size)) hsp, hvars (fun b => decide (b < W.heap.size)) hsp, World.keptBut_mono (fun p hp => ⟨hp, ?_⟩) (hB.frame (· ∈ before)), fun _ => ⟨hok, (s.fn H (ds ++ gs)).results ++ (s.fn H (ds ++ gs)).args, (s.fn H (ds ++ gs)).vars, pa ++ pv, ⟨pa, pv, ?_, hvars (fun _ => true) (fun _ _ => rfl), rfl, hno, ?_⟩, ?_⟩⟩
  · rw [hps] at hp
    exact .inr (List.mem_append.1 hp)
  · have := trodAll_append (hargs (fun _ => true) (fun _ _ => rfl)) (hres 0 (fun _ => true) true)
    simpa using this
  · intro ha
    have := hn ha
    rwa [hps] at this
  · intro p hp _
    rwa [hps]
end
end Go.Proofs.YtkjnjooggicgiaaGreat

/- The frame of a law without variables that answers true and writes nothing that came in: the row's last step, whatever the arguments' types; slices and drafts opened. -/
namespace Go.Proofs.YtkjnjooggicgiaaGreat
open Go.ChangeShapes Go.WideShapes Go.ChangeAt Go.RowKit

theorem kidsA : Kids Tryz.prog (· < Tryz.prog.types.size) := kids_rows (by kernel_rfl) (by kernel_rfl)
theorem fullA : ∀ t e, t < Tryz.prog.types.size → Tryz.prog.underlying t = some (.slice e) → 0 < Tryz.prog.cellsOf e := slices_full_of Tryz.prog (by kernel_rfl)

section
variable {H : Type} {enc : TypeId × Value → H} {P : Program} {T : TypeId → Prop} {w w' : World} {base : Nat} {spare : Nat → Bool} {held : Bool}
theorem trodAll_carry : ∀ {ts : List TypeId} {vs : List Value} {ds : List (DataW H)} {ps : List MemPlace}, DataW.TrodAll enc P w base spare held ts vs ds ps → (∀ p ∈ ps, w.sameAt w' p) → DataW.TrodAll enc P w' base spare held ts vs ds ps
  | [], [], [], _, h, _ => h
  | _ :: _, _ :: _, _ :: _, _, ⟨p, q, ⟨n, h1⟩, h2, e⟩, hs =>
    ⟨p, q, ⟨n, DataW.trod_carry n _ _ _ h1 (fun x hx => hs x (by rw [e]; exact List.mem_append_left _ hx))⟩, trodAll_carry h2 (fun x hx => hs x (by rw [e]; exact List.mem_append_right _ hx)), e⟩
theorem sameAt_later {W W' : World} (hl : Lat W W') : ∀ p : MemPlace, p.block < W.heap.size → W.sameAt W' p
  | .cell b off, h => World.cell?_of_block (a := ⟨b, off, none⟩) (Below.block hl b h)
  | .map b, h => Below.block hl b h

/-- The row's last step of a law that answers true. -/
theorem post_true (K : Kids P T) (hz : ∀ t e, T t → P.underlying t = some (.slice e) → 0 < P.cellsOf e) {f : Func} {s : ChangeSpec} {apart fresh handsOn again : Bool} {W W' : World} {args : Array Value} {ds gs : List (DataW H)} {before ps : List MemPlace} {tb : TypeId}
    (hT : ∀ t ∈ f.params.toList, T t) (hA : DataW.TrodAll enc P W 0 (fun _ => true) true f.params.toList args.toList ds ps) (hpb : before = ps)
    (hW : DataW.Whole enc P f.params.toList s.vars apart W args.toList ds gs before) (hl : Lat W W') (hv : s.vars = [])
    (hr : (s.fn H (ds ++ gs)).results = [.lit (.bool true)]) (ha : (s.fn H (ds ++ gs)).args = ds) (hx : (s.fn H (ds ++ gs)).vars = []) (ht : f.resultTypes = #[tb]) (hb : P.underlying tb = some .bool) :
    s.post enc P f apart fresh handsOn again W args (.bool true) W' := by
  subst hpb
  have hlt := hA.lt
  refine post_later (pa := before) (pv := []) hW (by simp) hl (fun b sp hd => ?_) (fun sp hsp => ?_) (fun sp _ => ?_) ?_
  · rw [hr, ht]
    exact trodAll_cons_mk (shut_bool hb true) trodAll_mk0
  · rw [ha]
    exact trodAll_carry (DataW.TrodAll.respare K hz hT hA hsp) (fun p hp => sameAt_later hl p (hlt p hp))
  · rw [hx, hv]
    rfl
  · exact ok_one ht rfl (okWide_bool_mk hb true)

/-- A slice of numbers that came in. -/
theorem open_slT {t e : TypeId} {k : IntKind} {fuel : Nat} {c : Value} {x : DataW H × List MemPlace} (ht : P.underlying t = some (.slice e)) (he : P.underlying e = some (.int k)) (hc : P.cellsOf e = 1)
    (hf : DataW.trod enc P w base spare held fuel t [c] = some x) :
    ∃ A n c' xs, c = .slice A n c' ∧ Sl w k A n xs ∧ n ≤ c' ∧ n ≤ 9223372036854775807 ∧ ∀ x ∈ xs, (Lit.int k x).wf = true := by
  rcases open_ints ht he hc hf with ⟨h1, _⟩ | ⟨a, len, cap, zs, h1, _, hlc, hcm, hz, _, hcell, hw⟩
  · simp only [List.cons.injEq, and_true] at h1
    subst h1
    exact ⟨none, 0, 0, [], rfl, Sl.nil _ _ _, Nat.le_refl _, by omega, fun x hx => by cases hx⟩
  · simp only [List.cons.injEq, and_true] at h1
    subst h1
    have hlz : len ≤ zs.length := by rw [hz]; split <;> omega
    refine ⟨some a, len, cap, zs.take len, rfl, ⟨by rw [List.length_take]; omega, fun hn => ⟨a, rfl, ?_, fun i x hx => ?_⟩⟩, hlc, by unfold maxLen at hcm; omega, fun x hx => hw x (List.mem_of_mem_take hx)⟩
    · have := World.block_lt_of_cell? _ _ (hcell 0 (by omega))
      rwa [block_add] at this
    · have hi : i < len := by
        have := (List.getElem?_eq_some_iff.1 hx).1
        rw [List.length_take] at this
        omega
      rw [hcell i (by omega)]
      rw [List.getElem?_take_of_lt hi] at hx
      rw [List.getD, hx]
      rfl
theorem open_sl {r : Reach} {b0 : Nat} {t e : TypeId} {k : IntKind} {v : Value} {d : DataW H} {ps : List MemPlace} (ht : P.underlying t = some (.slice e)) (he : P.underlying e = some (.int k)) (hc : P.cellsOf e = 1)
    (hval : Value.okWide P w r b0 t v) (h : DataW.Trod enc P w base spare held t v d ps) :
    ∃ A n c xs, v = .slice A n c ∧ Sl w k A n xs ∧ n ≤ c ∧ n ≤ 9223372036854775807 ∧ ∀ x ∈ xs, (Lit.int k x).wf = true := by
  obtain ⟨a0, len0, cap0, rfl⟩ := okWide_slice ht hval
  obtain ⟨fuel, hf⟩ := h
  exact open_slT ht he hc hf
end
end Go.Proofs.YtkjnjooggicgiaaGreat

/- What operations of a drawn region come to: for the law of slots (with what the text Held has of it, for a seat without Held). -/
namespace Go.Proofs.YtkjnjooggicgiaaGreat
open Go.RowKit
set_option linter.unusedSimpArgs false

section
variable {P : Program} {S : World → Prop} {a : Act}
theorem yv_move {x : Operand} {v : Value} (hx : a.eval x = v) : ∀ (o : Oper) (w : World), o.op = .move x → S w → (execOp a.eval o).run P w = .ok (.value v) w := by
  intro o w ho _
  unfold execOp
  simp [ho, hx]
theorem yv_assign {x : Operand} {v : Value} {w : World} (hx : a.eval x = v) : ∀ o : Oper, o.op = .assign x → (execOp a.eval o).run P w = .ok (.value v) w := by
  intro o ho
  unfold execOp
  simp [ho, hx]
theorem yv_assignS {x : Operand} {v : Value} (hx : a.eval x = v) : ∀ (o : Oper) (w : World), o.op = .assign x → S w → (execOp a.eval o).run P w = .ok (.value v) w := fun o _ ho _ => yv_assign hx o ho
theorem yv_pick {c x y : Operand} {v : Value} (hc : a.eval c = .bool true) (hx : a.eval x = v) : ∀ (o : Oper) (w : World), o.op = .pick c x y → S w → (execOp a.eval o).run P w = .ok (.value v) w := by
  intro o w ho _
  unfold execOp
  generalize a.eval = ev at hc hx ⊢
  simp [ho, hc, hx, go_sem]
theorem yv_bin {op : BinOp} {t t2 : TypeId} {x y : Operand} {X Y : Array Value} {V : Value} (hx : a.eval x = .agg X) (hy : a.eval y = .agg Y) (hm : P.eqGuardType P.depth t = false) (hrun : ∀ w, (binOp op t (.agg X) (.agg Y)).run P w = .ok V w) :
    ∀ (o : Oper) (w : World), o.op = .binOp op t x y t2 → S w → (execOp a.eval o).run P w = .ok (.value V) w := by
  intro o w ho _
  unfold execOp
  have hg := run_eqGuard_agg (P := P) w op t x y X Y hm
  simp [ho, hx, hy, hg, hrun w]
theorem yv_load {ty : TypeId} {x : Operand} {b : Nat} {cs : List Value} {d : TypeDesc} (hx : a.eval x = .pointer (some ⟨b, 0, none⟩)) (hR : ∀ w, S w → w.rangeAt b 0 cs) (hu : P.underlying ty = some d) (hd : d.isRow = true) (hi : (P.info? ty).map (·.size) = some cs.length) :
    ∀ (o : Oper) (w : World), o.op = .load ty x → S w → (execOp a.eval o).run P w = .ok (.value (.agg cs.toArray)) w := by
  intro o w ho hS
  unfold execOp
  simp only [ho, hx, Instr.loadAt, Instr.sureAddr, Sem.run_bind, Sem.run_pure, Result.andThen_ok, run_loadVar_mid w b 0 ty cs d (hR w hS) hu hd hi]
theorem yv_call {P : Program} {f : FuncId} {args : Array Operand} {tys : Array TypeId} {vals : Array Value} {w : World} (hf : ∀ vals, (callFunc f vals).run P w = .ok (.enter f vals) w) : ∀ o : Oper, o.op = .call ⟨.value (.func f), args, tys⟩ → args.map a.eval = vals → (execOp a.eval o).run P w = .ok (.enter f vals) w := by
  intro o ho ha
  obtain ⟨d, op, ty, p, af, g⟩ := o
  simp only at ho
  subst ho
  subst ha
  unfold execOp
  go_simp
end
theorem eval_const (a : Act) (v : Value) : a.eval (.const v) = v := rfl
section
variable {P : Program} {o : Oper} {ev : Operand → Value} {w : World} {R : Value → World → Prop}
theorem Runs.val {v : Value} (h : (execOp ev o).run P w = .ok (.value v) w) (k : R v w) : Runs P o ev w R := .inl ⟨v, w, h, k⟩
theorem Runs.new {v : Value} {w' : World} (h : (execOp ev o).run P w = .ok (.value v) w') (k : R v w') : Runs P o ev w R := .inl ⟨v, w', h, k⟩
theorem Runs.call {f : FuncId} {args : Array Value} (h : (execOp ev o).run P w = .ok (.enter f args) w) (k : Calls P f args w (fun e w' => ∃ v, e = .returned v ∧ R v w')) : Runs P o ev w R := .inr ⟨f, args, h, k⟩
end
section
variable {P : Program} {a : Act} {S : World → Prop}
theorem yv_pickN {c x y : Operand} {v : Value} (hc : a.eval c = .bool false) (hx : a.eval y = v) : ∀ (o : Oper) (w : World), o.op = .pick c x y → S w → (execOp a.eval o).run P w = .ok (.value v) w := by
  intro o w ho _
  unfold execOp
  generalize a.eval = ev at hc hx ⊢
  simp [ho, hc, hx, go_sem]
end
theorem spell (n : Nat) (T : Array Value) (h : T.size = n) : T = ((List.range n).map fun k => T.getD k undef).toArray := by
  apply Array.ext
  · simp [h]
  · intro i h1 h2
    simp [Array.getD, h1]
theorem slot_getD {a : Act} {d : Tmp} {v : Value} (h : Slot a d v) : a.tmps.getD d undef = v := by
  unfold Slot at h
  rw [Array.getD_eq_getD_getElem?, h]; rfl
def BaseAll (a : Act) : List (Nat × Value) → Prop
  | [] => True
  | p :: r => Slot a p.1 p.2 ∧ BaseAll a r
theorem base_nil (a : Act) : BaseAll a [] := trivial
theorem base_cons {a : Act} {k : Nat} {v : Value} {r : List (Nat × Value)} (h : a.tmps[k]? = some v) (hr : BaseAll a r) : BaseAll a ((k, v) :: r) := ⟨h, hr⟩
theorem base_of {a : Act} {l : List (Nat × Value)} (h : BaseAll a l) : ∀ k v, l.lookup k = some v → Slot a k v := by
  induction l with
  | nil => intro k v hk; cases hk
  | cons p r ih =>
    intro k v hk
    rw [List.lookup_cons] at hk
    by_cases e : k = p.1
    · rw [e] at hk ⊢
      simp at hk
      rw [← hk]
      exact h.1
    · have e' : (k == p.1) = false := by simpa using e
      rw [e'] at hk
      exact ih h.2 k v hk
theorem AllSteps.next {P : Program} {rows : List SRow} {base : List (Nat × Value)} {W0 : World} {r : SRow} {rs : List SRow} (h1 : ∀ v w w', r.V v w → Lat w w' → r.V v w')
    (h2 : ∀ j b, r.guard = some (j, b) → ∃ rj : SRow, rows[j]? = some rj ∧ (∃ d, rj.dst = some d) ∧ j ∈ r.deps ∧ ∀ v w, rj.V v w → v = .bool b)
    (h3 : ∀ (a : Act) (w : World), Lat W0 w → (∀ k v, base.lookup k = some v → a.eval (.tmp k) = v) → (∀ (j : Nat) (rj : SRow) (d : Tmp), j ∈ r.deps → rows[j]? = some rj → rj.dst = some d → ∃ v, a.eval (.tmp d) = v ∧ rj.V v w) →
      ∀ o : Oper, o.op = r.op → Runs P o a.eval w (fun v w' => Lat w w' ∧ (r.dst.isSome = true → r.V v w'))) (hs : AllSteps P rows base W0 rs) : AllSteps P rows base W0 (r :: rs) := ⟨⟨h1, h2, h3⟩, hs⟩
theorem AllSteps.none {P : Program} {rows : List SRow} {base : List (Nat × Value)} {W0 : World} : AllSteps P rows base W0 [] := trivial
end Go.Proofs.YtkjnjooggicgiaaGreat

/- Fair: the statements' own examples, which every statement of the chapter asks first. -/
namespace Go.Proofs.YtkjnjooggicgiaaGreat
open Go.RowKit
set_option linter.unusedSimpArgs false

/-- What a call leaves that says yes. -/
def Yes9 (w : World) (e : Ending) (w' : World) : Prop := e = .returned (.bool true) ∧ Lat w w'
theorem rowB_lit {w : World} {g : Nat} {E : TypeId} {xs : List (Int × Int)} (h : Blk w g E (prs xs).flatten.toArray) : RowB w g E 2 (prs xs) := by
  refine ⟨fun x hx => ?_, _, h, ?_, fun i x hi j v hj => ?_⟩
  · obtain ⟨a, b, _, rfl⟩ := prs_mem hx
    exact ⟨rfl, fun v hv => by simp at hv; rcases hv with rfl | rfl <;> rfl⟩
  · rw [List.size_toArray, flat_length (m := 2) (fun x hx => by obtain ⟨a, b, _, rfl⟩ := prs_mem hx; rfl)]
    exact Nat.le_refl _
  · have := flat_get (m := 2) (fun x hx => by obtain ⟨a, b, _, rfl⟩ := prs_mem hx; rfl) hi hj
    simpa using this
theorem breaks_lit {P S : List Int} {xs : List (Int × Int)} (hE : hallE P S = 0) (hx : brkT P.sum S.sum (P.zip S) P.length = xs) (A1 : Option Addr) (n1 c1 : Nat) (A2 : Option Addr) (n2 c2 : Nat) (w : World) (hp : Sl w .i64 A1 n1 P) (hs : Sl w .i64 A2 n2 S) (hn1 : n1 ≤ 1000000) (hn2 : n2 ≤ 1000000) :
    Calls Tryz.prog 5 #[.slice A1 n1 c1, .slice A2 n2 c2] w (fun e w' => ∃ A c, e = .returned (.tuple #[.slice A xs.length c, .int .i64 0]) ∧ RowM w' A 2 xs.length (prs xs) ∧ Lat w w') := by
  refine (fBreaks_any A1 n1 c1 P A2 n2 c2 S w hp hs hn1 hn2).mono fun e w' h => ?_
  rcases h.2 with h2 | ⟨_, v, rfl, ho⟩
  · exact absurd hE h2.1
  · rw [hx] at ho
    obtain ⟨A, c, rfl, hr, _⟩ := ho.form
    rw [prs_len] at hr ⊢
    exact ⟨A, c, rfl, hr, h.1⟩
theorem unst_lit {P S : List Int} {m : Int} {xs : List (Int × Int)} (hE : unstE P S m = 0) (hx : unstR m (P.zip S) (pairsP (P.zip S) (P.zip S).length) = xs) (A1 : Option Addr) (n1 c1 : Nat) (A2 : Option Addr) (n2 c2 : Nat) (w : World) (hp : Sl w .i64 A1 n1 P) (hs : Sl w .i64 A2 n2 S) (hn1 : n1 ≤ 1000000) (hn2 : n2 ≤ 1000000) :
    Calls Tryz.prog 6 #[.slice A1 n1 c1, .slice A2 n2 c2, .int .i64 m] w (fun e w' => ∃ A c, e = .returned (.tuple #[.slice A xs.length c, .int .i64 0]) ∧ RowM w' A 2 xs.length (prs xs) ∧ Lat w w') := by
  refine (fUnstable_any A1 n1 c1 P A2 n2 c2 S m w hp hs hn1 hn2).mono fun e w' h => ?_
  rcases h.2 with h2 | ⟨_, v, rfl, ho⟩
  · exact absurd hE h2.1
  · rw [hx] at ho
    obtain ⟨A, c, rfl, hr, _⟩ := ho.form
    rw [prs_len] at hr ⊢
    exact ⟨A, c, rfl, hr, h.1⟩
set_option maxRecDepth 100000

theorem S_eql24 {a : Act} {x : Operand} {m n : Int} {b : Bool} (hx : a.eval x = .int .i64 m) (o : Oper) (w : World) (ho : o.op = .binOp .eql 24 x (.const (.int .i64 n)) 24) (hk : (m == n) = b) : (execOp a.eval o).run Tryz.prog w = .ok (.value (.bool b)) w := by
  obtain ⟨d, op, ty, p, af, g⟩ := o
  simp only at ho
  subst ho
  subst hk
  unfold execOp
  simp only [hx, eval_const]
  go_simp

noncomputable def fm55_rows (Y : List Value) (n d : Int) : List SRow := [
  ⟨Op.load 35 (Operand.tmp 15), some 37, none, [], fun v _ => v = .agg Y.toArray⟩,
  ⟨Op.move (Operand.tmp 5), some 38, none, [], fun v _ => v = .int .i64 n⟩,
  ⟨Op.move (Operand.tmp 6), some 39, none, [], fun v _ => v = .int .i64 d⟩,
  ⟨Op.call { callee := Callee.value (Operand.func 11), args := #[Operand.tmp 38, Operand.tmp 39], argTypes := #[3, 3] }, some 40, none, [1, 2], fun v _ => v = .agg Y.toArray⟩,
  ⟨Op.binOp BinOp.eql 35 (Operand.tmp 37) (Operand.tmp 40) 35, some 41, none, [0, 3], fun v _ => v = .bool true⟩,
  ⟨Op.move (Operand.tmp 41), some 42, none, [4, 3], fun v _ => v = .bool true⟩,
  ⟨Op.move (Operand.tmp 16), some 43, some (5, true), [5], fun v _ => v = .int .i64 0⟩,
  ⟨Op.binOp BinOp.eql 24 (Operand.tmp 43) (Operand.const (Value.int IntKind.i64 0)) 24, some 44, some (5, true), [6, 5], fun v _ => v = .bool true⟩,
  ⟨Op.pick (Operand.tmp 42) (Operand.tmp 44) (Operand.const (Value.bool false)), some 45, none, [5, 7], fun v _ => v = .bool true⟩,
  ⟨Op.move (Operand.tmp 45), some 46, none, [8, 5], fun v _ => v = .bool true⟩,
  ⟨Op.load 35 (Operand.tmp 17), some 47, some (9, true), [9], fun v _ => v = .agg Y.toArray⟩,
  ⟨Op.load 35 (Operand.tmp 15), some 48, some (9, true), [9], fun v _ => v = .agg Y.toArray⟩,
  ⟨Op.binOp BinOp.eql 35 (Operand.tmp 47) (Operand.tmp 48) 35, some 49, some (9, true), [10, 11, 9], fun v _ => v = .bool true⟩,
  ⟨Op.pick (Operand.tmp 46) (Operand.tmp 49) (Operand.const (Value.bool false)), some 50, none, [9, 12], fun v _ => v = .bool true⟩,
  ⟨Op.move (Operand.tmp 50), some 51, none, [13, 9], fun v _ => v = .bool true⟩,
  ⟨Op.move (Operand.tmp 18), some 52, some (14, true), [14], fun v _ => v = .int .i64 0⟩,
  ⟨Op.binOp BinOp.eql 24 (Operand.tmp 52) (Operand.const (Value.int IntKind.i64 0)) 24, some 53, some (14, true), [15, 14], fun v _ => v = .bool true⟩,
  ⟨Op.pick (Operand.tmp 51) (Operand.tmp 53) (Operand.const (Value.bool false)), some 54, none, [14, 16], fun v _ => v = .bool true⟩,
  ⟨Op.assign (Operand.tmp 54), some 14, none, [17, 14, 0, 1, 2, 3, 4, 5, 6, 7, 8, 9, 10, 11, 12, 13, 14, 15, 16, 17], fun v _ => v = .bool true⟩]
noncomputable def fm55_base (b15 b17 : Nat) (n d : Int) : List (Nat × Value) := [(15, .pointer (some ⟨b15, 0, none⟩)), (5, .int .i64 n), (6, .int .i64 d), (16, .int .i64 0), (17, .pointer (some ⟨b17, 0, none⟩)), (18, .int .i64 0)]

noncomputable def fw15_rows (Y : List Value) (A1 A2 A3 : Option Addr) (c1 c2 c3 : Nat) : List SRow := [
  ⟨Op.move (Operand.tmp 2), some 53, none, [], fun v _ => v = .slice A1 1 c1⟩,
  ⟨Op.build 44 #[(0, Operand.const (Value.int IntKind.i64 0)), (1, Operand.const (Value.int IntKind.i64 1))], some 54, none, [], fun v _ => v = .agg #[.int .i64 0, .int .i64 1]⟩,
  ⟨Op.buildSlice 27 1 #[(0, Operand.tmp 54)], some 55, none, [1], fun v w => ∃ g : Nat, v = .slice (some ⟨g, 0, none⟩) 1 1 ∧ Blk w g 44 #[.int .i64 0, .int .i64 1]⟩,
  ⟨Op.call { callee := Callee.value (Operand.func 10), args := #[Operand.tmp 53, Operand.tmp 55], argTypes := #[27, 27] }, some 56, none, [0, 2], fun v _ => v = .bool true⟩,
  ⟨Op.move (Operand.tmp 56), some 57, none, [3, 3], fun v _ => v = .bool true⟩,
  ⟨Op.move (Operand.tmp 3), some 58, some (4, true), [4], fun v _ => v = .int .i64 0⟩,
  ⟨Op.binOp BinOp.eql 24 (Operand.tmp 58) (Operand.const (Value.int IntKind.i64 0)) 24, some 59, some (4, true), [5, 4], fun v _ => v = .bool true⟩,
  ⟨Op.pick (Operand.tmp 57) (Operand.tmp 59) (Operand.const (Value.bool false)), some 60, none, [4, 6], fun v _ => v = .bool true⟩,
  ⟨Op.move (Operand.tmp 60), some 61, none, [7, 4], fun v _ => v = .bool true⟩,
  ⟨Op.move (Operand.tmp 4), some 62, some (8, true), [8], fun v _ => v = .slice A2 2 c2⟩,
  ⟨Op.build 44 #[(0, Operand.const (Value.int IntKind.i64 0)), (1, Operand.const (Value.int IntKind.i64 (-1)))], some 63, some (8, true), [8], fun v _ => v = .agg #[.int .i64 0, .int .i64 (-1)]⟩,
  ⟨Op.build 44 #[(0, Operand.const (Value.int IntKind.i64 1)), (1, Operand.const (Value.int IntKind.i64 1))], some 64, some (8, true), [8], fun v _ => v = .agg #[.int .i64 1, .int .i64 1]⟩,
  ⟨Op.buildSlice 27 2 #[(0, Operand.tmp 63), (1, Operand.tmp 64)], some 65, some (8, true), [10, 11, 8], fun v w => ∃ g : Nat, v = .slice (some ⟨g, 0, none⟩) 2 2 ∧ Blk w g 44 #[.int .i64 0, .int .i64 (-1), .int .i64 1, .int .i64 1]⟩,
  ⟨Op.call { callee := Callee.value (Operand.func 10), args := #[Operand.tmp 62, Operand.tmp 65], argTypes := #[27, 27] }, some 66, some (8, true), [9, 12, 8, 8], fun v _ => v = .bool true⟩,
  ⟨Op.pick (Operand.tmp 61) (Operand.tmp 66) (Operand.const (Value.bool false)), some 67, none, [8, 13], fun v _ => v = .bool true⟩,
  ⟨Op.move (Operand.tmp 67), some 68, none, [14, 13], fun v _ => v = .bool true⟩,
  ⟨Op.move (Operand.tmp 5), some 69, some (15, true), [15], fun v _ => v = .int .i64 0⟩,
  ⟨Op.binOp BinOp.eql 24 (Operand.tmp 69) (Operand.const (Value.int IntKind.i64 0)) 24, some 70, some (15, true), [16, 15], fun v _ => v = .bool true⟩,
  ⟨Op.pick (Operand.tmp 68) (Operand.tmp 70) (Operand.const (Value.bool false)), some 71, none, [15, 17], fun v _ => v = .bool true⟩,
  ⟨Op.move (Operand.tmp 71), some 72, none, [18, 15], fun v _ => v = .bool true⟩,
  ⟨Op.call { callee := Callee.value (Operand.func 12), args := #[Operand.const (Value.int IntKind.i64 14), Operand.const (Value.int IntKind.i64 9), Operand.const (Value.int IntKind.i64 2), Operand.const (Value.int IntKind.i64 5), Operand.const (Value.int IntKind.i64 1), Operand.const (Value.int IntKind.i64 1), Operand.const (Value.int IntKind.i64 45)], argTypes := #[3, 3, 3, 3, 3, 3, 3] }, some 73, some (19, true), [19, 19], fun v _ => v = .bool true⟩,
  ⟨Op.pick (Operand.tmp 72) (Operand.tmp 73) (Operand.const (Value.bool false)), some 74, none, [19, 20], fun v _ => v = .bool true⟩,
  ⟨Op.move (Operand.tmp 74), some 75, none, [21, 20], fun v _ => v = .bool true⟩,
  ⟨Op.call { callee := Callee.value (Operand.func 12), args := #[Operand.const (Value.int IntKind.i64 12), Operand.const (Value.int IntKind.i64 9), Operand.const (Value.int IntKind.i64 2), Operand.const (Value.int IntKind.i64 5), Operand.const (Value.int IntKind.i64 1), Operand.const (Value.int IntKind.i64 1), Operand.const (Value.int IntKind.i64 2)], argTypes := #[3, 3, 3, 3, 3, 3, 3] }, some 76, some (22, true), [22, 22], fun v _ => v = .bool true⟩,
  ⟨Op.pick (Operand.tmp 75) (Operand.tmp 76) (Operand.const (Value.bool false)), some 77, none, [22, 23], fun v _ => v = .bool true⟩,
  ⟨Op.move (Operand.tmp 77), some 78, none, [24, 23], fun v _ => v = .bool true⟩,
  ⟨Op.call { callee := Callee.value (Operand.func 12), args := #[Operand.const (Value.int IntKind.i64 13), Operand.const (Value.int IntKind.i64 9), Operand.const (Value.int IntKind.i64 2), Operand.const (Value.int IntKind.i64 5), Operand.const (Value.int IntKind.i64 1), Operand.const (Value.int IntKind.i64 1), Operand.const (Value.int IntKind.i64 9)], argTypes := #[3, 3, 3, 3, 3, 3, 3] }, some 79, some (25, true), [25, 25], fun v _ => v = .bool true⟩,
  ⟨Op.pick (Operand.tmp 78) (Operand.tmp 79) (Operand.const (Value.bool false)), some 80, none, [25, 26], fun v _ => v = .bool true⟩,
  ⟨Op.move (Operand.tmp 80), some 81, none, [27, 26], fun v _ => v = .bool true⟩,
  ⟨Op.call { callee := Callee.value (Operand.func 12), args := #[Operand.const (Value.int IntKind.i64 11), Operand.const (Value.int IntKind.i64 9), Operand.const (Value.int IntKind.i64 2), Operand.const (Value.int IntKind.i64 5), Operand.const (Value.int IntKind.i64 1), Operand.const (Value.int IntKind.i64 1), Operand.const (Value.int IntKind.i64 5)], argTypes := #[3, 3, 3, 3, 3, 3, 3] }, some 82, some (28, true), [28, 28], fun v _ => v = .bool true⟩,
  ⟨Op.pick (Operand.tmp 81) (Operand.tmp 82) (Operand.const (Value.bool false)), some 83, none, [28, 29], fun v _ => v = .bool true⟩,
  ⟨Op.move (Operand.tmp 83), some 84, none, [30, 29], fun v _ => v = .bool true⟩,
  ⟨Op.call { callee := Callee.value (Operand.func 12), args := #[Operand.const (Value.int IntKind.i64 15), Operand.const (Value.int IntKind.i64 9), Operand.const (Value.int IntKind.i64 2), Operand.const (Value.int IntKind.i64 5), Operand.const (Value.int IntKind.i64 1), Operand.const (Value.int IntKind.i64 1), Operand.const (Value.int IntKind.i64 9)], argTypes := #[3, 3, 3, 3, 3, 3, 3] }, some 85, some (31, true), [31, 31], fun v _ => v = .bool true⟩,
  ⟨Op.pick (Operand.tmp 84) (Operand.tmp 85) (Operand.const (Value.bool false)), some 86, none, [31, 32], fun v _ => v = .bool true⟩,
  ⟨Op.move (Operand.tmp 86), some 87, none, [33, 32], fun v _ => v = .bool true⟩,
  ⟨Op.move (Operand.tmp 7), some 88, some (34, true), [34], fun v _ => v = .int .i64 7⟩,
  ⟨Op.binOp BinOp.eql 24 (Operand.tmp 88) (Operand.const (Value.int IntKind.i64 7)) 24, some 89, some (34, true), [35, 34], fun v _ => v = .bool true⟩,
  ⟨Op.pick (Operand.tmp 87) (Operand.tmp 89) (Operand.const (Value.bool false)), some 90, none, [34, 36], fun v _ => v = .bool true⟩,
  ⟨Op.move (Operand.tmp 90), some 91, none, [37, 34], fun v _ => v = .bool true⟩,
  ⟨Op.move (Operand.tmp 8), some 92, some (38, true), [38], fun v _ => v = .bool true⟩,
  ⟨Op.pick (Operand.tmp 91) (Operand.tmp 92) (Operand.const (Value.bool false)), some 93, none, [38, 39], fun v _ => v = .bool true⟩,
  ⟨Op.move (Operand.tmp 93), some 94, none, [40, 38], fun v _ => v = .bool true⟩,
  ⟨Op.move (Operand.tmp 9), some 95, some (41, true), [41], fun v _ => v = .int .i64 0⟩,
  ⟨Op.binOp BinOp.eql 24 (Operand.tmp 95) (Operand.const (Value.int IntKind.i64 0)) 24, some 96, some (41, true), [42, 41], fun v _ => v = .bool true⟩,
  ⟨Op.pick (Operand.tmp 94) (Operand.tmp 96) (Operand.const (Value.bool false)), some 97, none, [41, 43], fun v _ => v = .bool true⟩,
  ⟨Op.move (Operand.tmp 97), some 98, none, [44, 41], fun v _ => v = .bool true⟩,
  ⟨Op.move (Operand.tmp 10), some 99, some (45, true), [45], fun v _ => v = .bool false⟩,
  ⟨Op.unOp UnOp.not 4 (Operand.tmp 99), some 100, some (45, true), [46, 45], fun v _ => v = .bool true⟩,
  ⟨Op.pick (Operand.tmp 98) (Operand.tmp 100) (Operand.const (Value.bool false)), some 101, none, [45, 47], fun v _ => v = .bool true⟩,
  ⟨Op.move (Operand.tmp 101), some 102, none, [48, 45], fun v _ => v = .bool true⟩,
  ⟨Op.move (Operand.tmp 11), some 103, some (49, true), [49], fun v _ => v = .int .i64 0⟩,
  ⟨Op.binOp BinOp.eql 24 (Operand.tmp 103) (Operand.const (Value.int IntKind.i64 0)) 24, some 104, some (49, true), [50, 49], fun v _ => v = .bool true⟩,
  ⟨Op.pick (Operand.tmp 102) (Operand.tmp 104) (Operand.const (Value.bool false)), some 105, none, [49, 51], fun v _ => v = .bool true⟩,
  ⟨Op.move (Operand.tmp 105), some 106, none, [52, 49], fun v _ => v = .bool true⟩,
  ⟨Op.move (Operand.tmp 12), some 107, some (53, true), [53], fun v _ => v = .slice A3 1 c3⟩,
  ⟨Op.build 44 #[(0, Operand.const (Value.int IntKind.i64 0)), (1, Operand.const (Value.int IntKind.i64 2))], some 108, some (53, true), [53], fun v _ => v = .agg #[.int .i64 0, .int .i64 2]⟩,
  ⟨Op.buildSlice 27 1 #[(0, Operand.tmp 108)], some 109, some (53, true), [55, 53], fun v w => ∃ g : Nat, v = .slice (some ⟨g, 0, none⟩) 1 1 ∧ Blk w g 44 #[.int .i64 0, .int .i64 2]⟩,
  ⟨Op.call { callee := Callee.value (Operand.func 10), args := #[Operand.tmp 107, Operand.tmp 109], argTypes := #[27, 27] }, some 110, some (53, true), [54, 56, 53, 53], fun v _ => v = .bool true⟩,
  ⟨Op.pick (Operand.tmp 106) (Operand.tmp 110) (Operand.const (Value.bool false)), some 111, none, [53, 57], fun v _ => v = .bool true⟩,
  ⟨Op.move (Operand.tmp 111), some 112, none, [58, 57], fun v _ => v = .bool true⟩,
  ⟨Op.move (Operand.tmp 13), some 113, some (59, true), [59], fun v _ => v = .int .i64 0⟩,
  ⟨Op.binOp BinOp.eql 24 (Operand.tmp 113) (Operand.const (Value.int IntKind.i64 0)) 24, some 114, some (59, true), [60, 59], fun v _ => v = .bool true⟩,
  ⟨Op.pick (Operand.tmp 112) (Operand.tmp 114) (Operand.const (Value.bool false)), some 115, none, [59, 61], fun v _ => v = .bool true⟩,
  ⟨Op.move (Operand.tmp 115), some 116, none, [62, 59], fun v _ => v = .bool true⟩,
  ⟨Op.load 35 (Operand.tmp 14), some 117, some (63, true), [63], fun v _ => v = .agg Y.toArray⟩,
  ⟨Op.call { callee := Callee.value (Operand.func 11), args := #[Operand.const (Value.int IntKind.i64 (-1)), Operand.const (Value.int IntKind.i64 3)], argTypes := #[3, 3] }, some 118, some (63, true), [63, 63], fun v _ => v = .agg Y.toArray⟩,
  ⟨Op.binOp BinOp.eql 35 (Operand.tmp 117) (Operand.tmp 118) 35, some 119, some (63, true), [64, 65, 63], fun v _ => v = .bool true⟩,
  ⟨Op.pick (Operand.tmp 116) (Operand.tmp 119) (Operand.const (Value.bool false)), some 120, none, [63, 66], fun v _ => v = .bool true⟩,
  ⟨Op.move (Operand.tmp 120), some 121, none, [67, 65], fun v _ => v = .bool true⟩,
  ⟨Op.move (Operand.tmp 15), some 122, some (68, true), [68], fun v _ => v = .int .i64 0⟩,
  ⟨Op.binOp BinOp.eql 24 (Operand.tmp 122) (Operand.const (Value.int IntKind.i64 0)) 24, some 123, some (68, true), [69, 68], fun v _ => v = .bool true⟩,
  ⟨Op.pick (Operand.tmp 121) (Operand.tmp 123) (Operand.const (Value.bool false)), some 124, none, [68, 70], fun v _ => v = .bool true⟩,
  ⟨Op.assign (Operand.tmp 124), some 0, none, [71, 68, 0, 1, 2, 3, 4, 5, 6, 7, 8, 9, 10, 11, 12, 13, 14, 15, 16, 17, 18, 19, 20, 21, 22, 23, 24, 25, 26, 27, 28, 29, 30, 31, 32, 33, 34, 35, 36, 37, 38, 39, 40, 41, 42, 43, 44, 45, 46, 47, 48, 49, 50, 51, 52, 53, 54, 55, 56, 57, 58, 59, 60, 61, 62, 63, 64, 65, 66, 67, 68, 69, 70, 71], fun v _ => v = .bool true⟩]
noncomputable def fw15_base (b14 : Nat) (A1 A2 A3 : Option Addr) (c1 c2 c3 : Nat) : List (Nat × Value) := [(2, .slice A1 1 c1), (3, .int .i64 0), (4, .slice A2 2 c2), (5, .int .i64 0), (7, .int .i64 7), (8, .bool true), (9, .int .i64 0), (10, .bool false), (11, .int .i64 0), (12, .slice A3 1 c3), (13, .int .i64 0), (14, .pointer (some ⟨b14, 0, none⟩)), (15, .int .i64 0)]

set_option maxHeartbeats 4000000 in
theorem law_measures (m p s q t n d : Int) (w : World) (h0 : 0 < d) (h1 : d ≤ 9223372036854775807) (h2 : -9223372036854775808 ≤ n) (h3 : n ≤ 9223372036854775807) (hm1 : mX m p s q t = shA n d ∧ mE m p s q t = 0) (hm2 : mX m q t p s = shA n d ∧ mE m q t p s = 0) :
    Calls Tryz.prog 12 #[.int .i64 m, .int .i64 p, .int .i64 s, .int .i64 q, .int .i64 t, .int .i64 n, .int .i64 d] w (Yes9 w) := by
  have HM1 := fun w => fMeasure_any m p s q t w
  have HM2 := fun w => fMeasure_any m q t p s w
  rw [hm1.1, hm1.2] at HM1
  rw [hm2.1, hm2.2] at HM2
  have HF := fun w => l9_of n d w h0 h1 h2 h3
  have G := shA_good n d
  obtain ⟨X, hX⟩ : ∃ X, shA n d = X := ⟨_, rfl⟩
  rw [hX] at HM1 HM2 HF G
  have i1 := Lib.hid G.info
  have z1 := Lib.hid G.1
  have c1 := Lib.hid G.2.1
  have E1 := fun w => G.eql w
  have hgd := Lib.hid shGuard
  clear G hX h0 h1 h2 h3 hm1 hm2
  go_enter Tryz.func12, Tryz.ntmps12
  go_wp2_with fail
  refine (HM1 w).mono ?_
  rintro e V0 ⟨rfl, lv⟩
  have K0 := Blk.new V0 35 #[.int .u64 W8.zero.a0, .int .u64 W8.zero.a1, .int .u64 W8.zero.a2, .int .u64 W8.zero.a3, .int .u64 W8.zero.a4, .int .u64 W8.zero.a5, .int .u64 W8.zero.a6, .int .u64 W8.zero.a7, .int .u64 W8.zero.a0, .int .u64 W8.zero.a1, .int .u64 W8.zero.a2, .int .u64 W8.zero.a3, .int .u64 W8.zero.a4, .int .u64 W8.zero.a5, .int .u64 W8.zero.a6, .int .u64 W8.zero.a7]
  go_wp2_with (refine wpList_put rfl 35 (.tmp 15) (.tmp 26) (by rfl) (by rfl) V0.heap.size (by rfl) X (by rfl) K0 (by rw [z1.out]; rfl) i1.out c1.out ?_; intro U0 hput; have B1 := hput.blk; have m1 := hput.lat w (lv.trans (Lat.alloc _ _)) (by have := lv.size; omega))
  have LL := m1
  clear K0 hput lv m1 HM1
  refine (HM2 U0).mono ?_
  rintro e V1 ⟨rfl, lv⟩
  have K0 := Blk.new V1 35 #[.int .u64 W8.zero.a0, .int .u64 W8.zero.a1, .int .u64 W8.zero.a2, .int .u64 W8.zero.a3, .int .u64 W8.zero.a4, .int .u64 W8.zero.a5, .int .u64 W8.zero.a6, .int .u64 W8.zero.a7, .int .u64 W8.zero.a0, .int .u64 W8.zero.a1, .int .u64 W8.zero.a2, .int .u64 W8.zero.a3, .int .u64 W8.zero.a4, .int .u64 W8.zero.a5, .int .u64 W8.zero.a6, .int .u64 W8.zero.a7]
  go_wp2_with (refine wpList_put rfl 35 (.tmp 17) (.tmp 35) (by rfl) (by rfl) V1.heap.size (by rfl) X (by rfl) K0 (by rw [z1.out]; rfl) i1.out c1.out ?_; intro U1 hput; have B2 := hput.blk; have m1 := hput.lat U0 (lv.trans (Lat.alloc _ _)) (by have := lv.size; omega))
  have B1 := B1.later m1
  have LL := LL.trans m1
  clear K0 hput lv m1 HM2
  rename_i KN hKN
  obtain ⟨Y, rfl⟩ : ∃ Y : List Value, X = Y.toArray := ⟨X.toList, by simp⟩
  have R15 : ∀ w', Lat U1 w' → w'.rangeAt V0.heap.size 0 Y := fun w' hl => (B1.later hl).rangeAll
  have R17 : ∀ w', Lat U1 w' → w'.rangeAt V1.heap.size 0 Y := fun w' hl => (B2.later hl).rangeAll
  have J : (Tryz.prog.info? 35).map (·.size) = some Y.length := by have := i1.out; simpa using this
  clear B1 B2 i1 z1 c1
  refine wp_region_slots (fm55_rows Y n d) (fm55_base V0.heap.size V1.heap.size n d) 55 19 [[], [], [], [1, 2], [0, 3], [4, 3], [5], [6, 5], [5, 7], [8, 5], [9], [9], [10, 11, 9], [9, 12], [13, 9], [14], [15, 14], [14, 16], [17, 14, 0, 1, 2, 3, 4, 5, 6, 7, 8, 9, 10, 11, 12, 13, 14, 15, 16, 17]] (by kernel_rfl) (by kernel_rfl) (by kernel_rfl) (by kernel_rfl) (by kernel_rfl) (by kernel_rfl) (by rfl) rfl ?_ ?_ ?_
  · exact base_of (base_cons (by rfl) (base_cons (by rfl) (base_cons (by rfl) (base_cons (by rfl) (base_cons (by rfl) (base_cons (by rfl) (base_nil _)))))))
  · refine AllSteps.next (fun _ _ _ h _ => h) (fun j b h => by cases h) (fun a w hl hb hd o ho => by have e1 := hb 15 _ rfl; exact Runs.val (yv_load (S := Lat U1) e1 R15 Tryz.underlying35 rfl J o w ho hl) ⟨Lat.refl _, fun _ => rfl⟩) ?_
    refine AllSteps.next (fun _ _ _ h _ => h) (fun j b h => by cases h) (fun a w hl hb hd o ho => by have e1 := hb 5 _ rfl; exact Runs.val (yv_move (S := fun _ => True) e1 o w ho trivial) ⟨Lat.refl _, fun _ => rfl⟩) ?_
    refine AllSteps.next (fun _ _ _ h _ => h) (fun j b h => by cases h) (fun a w hl hb hd o ho => by have e1 := hb 6 _ rfl; exact Runs.val (yv_move (S := fun _ => True) e1 o w ho trivial) ⟨Lat.refl _, fun _ => rfl⟩) ?_
    refine AllSteps.next (fun _ _ _ h _ => h) (fun j b h => by cases h) (fun a w hl hb hd o ho => by obtain ⟨v1, e1, q1⟩ := hd 1 _ _ (by simp) rfl rfl; subst q1; obtain ⟨v2, e2, q2⟩ := hd 2 _ _ (by simp) rfl rfl; subst q2; exact Runs.call (yv_call (f := 11) (fun _ => by go_simp) o ho (by simp only [List.map_toArray, List.map_cons, List.map_nil, eval_const, e1, e2])) ((HF w).mono fun e w' h => ⟨_, h.1, h.2, fun _ => rfl⟩)) ?_
    refine AllSteps.next (fun _ _ _ h _ => h) (fun j b h => by cases h) (fun a w hl hb hd o ho => by obtain ⟨v1, e1, q1⟩ := hd 0 _ _ (by simp) rfl rfl; obtain ⟨v2, e2, q2⟩ := hd 3 _ _ (by simp) rfl rfl; subst q1; subst q2; exact Runs.val (yv_bin (S := fun _ => True) e1 e2 hgd.out E1 o w ho trivial) ⟨Lat.refl _, fun _ => rfl⟩) ?_
    refine AllSteps.next (fun _ _ _ h _ => h) (fun j b h => by cases h) (fun a w hl hb hd o ho => by obtain ⟨v1, e1, q1⟩ := hd 4 _ _ (by simp) rfl rfl; subst q1; exact Runs.val (yv_move (S := fun _ => True) e1 o w ho trivial) ⟨Lat.refl _, fun _ => rfl⟩) ?_
    refine AllSteps.next (fun _ _ _ h _ => h) (fun j b h => by cases h; exact ⟨_, rfl, ⟨_, rfl⟩, by simp, fun _ _ h => h⟩) (fun a w hl hb hd o ho => by have e1 := hb 16 _ rfl; exact Runs.val (yv_move (S := fun _ => True) e1 o w ho trivial) ⟨Lat.refl _, fun _ => rfl⟩) ?_
    refine AllSteps.next (fun _ _ _ h _ => h) (fun j b h => by cases h; exact ⟨_, rfl, ⟨_, rfl⟩, by simp, fun _ _ h => h⟩) (fun a w hl hb hd o ho => by obtain ⟨v1, e1, q1⟩ := hd 6 _ _ (by simp) rfl rfl; subst q1; exact Runs.val (S_eql24 e1 o w ho (by decide)) ⟨Lat.refl _, fun _ => rfl⟩) ?_
    refine AllSteps.next (fun _ _ _ h _ => h) (fun j b h => by cases h) (fun a w hl hb hd o ho => by obtain ⟨v1, e1, q1⟩ := hd 5 _ _ (by simp) rfl rfl; obtain ⟨v2, e2, q2⟩ := hd 7 _ _ (by simp) rfl rfl; subst q1; subst q2; exact Runs.val (yv_pick (S := fun _ => True) e1 e2 o w ho trivial) ⟨Lat.refl _, fun _ => rfl⟩) ?_
    refine AllSteps.next (fun _ _ _ h _ => h) (fun j b h => by cases h) (fun a w hl hb hd o ho => by obtain ⟨v1, e1, q1⟩ := hd 8 _ _ (by simp) rfl rfl; subst q1; exact Runs.val (yv_move (S := fun _ => True) e1 o w ho trivial) ⟨Lat.refl _, fun _ => rfl⟩) ?_
    refine AllSteps.next (fun _ _ _ h _ => h) (fun j b h => by cases h; exact ⟨_, rfl, ⟨_, rfl⟩, by simp, fun _ _ h => h⟩) (fun a w hl hb hd o ho => by have e1 := hb 17 _ rfl; exact Runs.val (yv_load (S := Lat U1) e1 R17 Tryz.underlying35 rfl J o w ho hl) ⟨Lat.refl _, fun _ => rfl⟩) ?_
    refine AllSteps.next (fun _ _ _ h _ => h) (fun j b h => by cases h; exact ⟨_, rfl, ⟨_, rfl⟩, by simp, fun _ _ h => h⟩) (fun a w hl hb hd o ho => by have e1 := hb 15 _ rfl; exact Runs.val (yv_load (S := Lat U1) e1 R15 Tryz.underlying35 rfl J o w ho hl) ⟨Lat.refl _, fun _ => rfl⟩) ?_
    refine AllSteps.next (fun _ _ _ h _ => h) (fun j b h => by cases h; exact ⟨_, rfl, ⟨_, rfl⟩, by simp, fun _ _ h => h⟩) (fun a w hl hb hd o ho => by obtain ⟨v1, e1, q1⟩ := hd 10 _ _ (by simp) rfl rfl; obtain ⟨v2, e2, q2⟩ := hd 11 _ _ (by simp) rfl rfl; subst q1; subst q2; exact Runs.val (yv_bin (S := fun _ => True) e1 e2 hgd.out E1 o w ho trivial) ⟨Lat.refl _, fun _ => rfl⟩) ?_
    refine AllSteps.next (fun _ _ _ h _ => h) (fun j b h => by cases h) (fun a w hl hb hd o ho => by obtain ⟨v1, e1, q1⟩ := hd 9 _ _ (by simp) rfl rfl; obtain ⟨v2, e2, q2⟩ := hd 12 _ _ (by simp) rfl rfl; subst q1; subst q2; exact Runs.val (yv_pick (S := fun _ => True) e1 e2 o w ho trivial) ⟨Lat.refl _, fun _ => rfl⟩) ?_
    refine AllSteps.next (fun _ _ _ h _ => h) (fun j b h => by cases h) (fun a w hl hb hd o ho => by obtain ⟨v1, e1, q1⟩ := hd 13 _ _ (by simp) rfl rfl; subst q1; exact Runs.val (yv_move (S := fun _ => True) e1 o w ho trivial) ⟨Lat.refl _, fun _ => rfl⟩) ?_
    refine AllSteps.next (fun _ _ _ h _ => h) (fun j b h => by cases h; exact ⟨_, rfl, ⟨_, rfl⟩, by simp, fun _ _ h => h⟩) (fun a w hl hb hd o ho => by have e1 := hb 18 _ rfl; exact Runs.val (yv_move (S := fun _ => True) e1 o w ho trivial) ⟨Lat.refl _, fun _ => rfl⟩) ?_
    refine AllSteps.next (fun _ _ _ h _ => h) (fun j b h => by cases h; exact ⟨_, rfl, ⟨_, rfl⟩, by simp, fun _ _ h => h⟩) (fun a w hl hb hd o ho => by obtain ⟨v1, e1, q1⟩ := hd 15 _ _ (by simp) rfl rfl; subst q1; exact Runs.val (S_eql24 e1 o w ho (by decide)) ⟨Lat.refl _, fun _ => rfl⟩) ?_
    refine AllSteps.next (fun _ _ _ h _ => h) (fun j b h => by cases h) (fun a w hl hb hd o ho => by obtain ⟨v1, e1, q1⟩ := hd 14 _ _ (by simp) rfl rfl; obtain ⟨v2, e2, q2⟩ := hd 16 _ _ (by simp) rfl rfl; subst q1; subst q2; exact Runs.val (yv_pick (S := fun _ => True) e1 e2 o w ho trivial) ⟨Lat.refl _, fun _ => rfl⟩) ?_
    refine AllSteps.next (fun _ _ _ h _ => h) (fun j b h => by cases h) (fun a w hl hb hd o ho => by obtain ⟨v1, e1, q1⟩ := hd 17 _ _ (by simp) rfl rfl; subst q1; exact Runs.val (yv_assignS (S := fun _ => True) e1 o w ho trivial) ⟨Lat.refl _, fun _ => rfl⟩) ?_
    exact AllSteps.none
  · intro a W hsz hdf hL _ hsl
    obtain ⟨v, h0, hv⟩ := hsl 18 _ _ rfl rfl
    have hv' : v = .bool true := hv
    subst hv'
    unfold Slot at h0
    refine hKN _ _ (wp_ret ?_)
    refine bodyPost_ret (v := .bool true) (by simp [results, Tryz.results12, go_sem, h0]) hdf ?_
    exact ⟨rfl, LL.trans hL⟩

theorem lm_14_9_2_5_1_1_45 (w : World) : Calls Tryz.prog 12 #[.int .i64 14, .int .i64 9, .int .i64 2, .int .i64 5, .int .i64 1, .int .i64 1, .int .i64 45] w (Yes9 w) := law_measures 14 9 2 5 1 1 45 w (by decide) (by decide) (by decide) (by decide) (by constructor <;> kernel_rfl) (by constructor <;> kernel_rfl)
theorem lm_12_9_2_5_1_1_2 (w : World) : Calls Tryz.prog 12 #[.int .i64 12, .int .i64 9, .int .i64 2, .int .i64 5, .int .i64 1, .int .i64 1, .int .i64 2] w (Yes9 w) := law_measures 12 9 2 5 1 1 2 w (by decide) (by decide) (by decide) (by decide) (by constructor <;> kernel_rfl) (by constructor <;> kernel_rfl)
theorem lm_13_9_2_5_1_1_9 (w : World) : Calls Tryz.prog 12 #[.int .i64 13, .int .i64 9, .int .i64 2, .int .i64 5, .int .i64 1, .int .i64 1, .int .i64 9] w (Yes9 w) := law_measures 13 9 2 5 1 1 9 w (by decide) (by decide) (by decide) (by decide) (by constructor <;> kernel_rfl) (by constructor <;> kernel_rfl)
theorem lm_11_9_2_5_1_1_5 (w : World) : Calls Tryz.prog 12 #[.int .i64 11, .int .i64 9, .int .i64 2, .int .i64 5, .int .i64 1, .int .i64 1, .int .i64 5] w (Yes9 w) := law_measures 11 9 2 5 1 1 5 w (by decide) (by decide) (by decide) (by decide) (by constructor <;> kernel_rfl) (by constructor <;> kernel_rfl)
theorem lm_15_9_2_5_1_1_9 (w : World) : Calls Tryz.prog 12 #[.int .i64 15, .int .i64 9, .int .i64 2, .int .i64 5, .int .i64 1, .int .i64 1, .int .i64 9] w (Yes9 w) := law_measures 15 9 2 5 1 1 9 w (by decide) (by decide) (by decide) (by decide) (by constructor <;> kernel_rfl) (by constructor <;> kernel_rfl)

theorem lw_m : mE 13 9 2 5 0 = 7 := by kernel_rfl
theorem lw_h1 : mvH 14 9 3 3 0 = true ∧ mvE 14 9 3 3 0 = 0 := by constructor <;> kernel_rfl
theorem lw_h2 : mvH 15 9 3 3 0 = false ∧ mvE 15 9 3 3 0 = 0 := by constructor <;> kernel_rfl
theorem lw_b : biasX [9, 5, 3] [2, 1, 1] 1 = shA (-1) 3 ∧ biasE [9, 5, 3] [2, 1, 1] 1 = 0 := by constructor <;> kernel_rfl
set_option maxHeartbeats 8000000 in
theorem wakes9_any (w : World) : Calls Tryz.prog 4 #[] w (Yes9 w) := by
  have HB1 := fun (A B : Option Addr) (c c' : Nat) w (h : Sl w .i64 A 3 [9, 5, 3]) (h' : Sl w .i64 B 3 [4, 1, 0]) => breaks_lit (P := [9, 5, 3]) (S := [4, 1, 0]) (xs := [(0, 1)]) (by decide +kernel) (by decide +kernel) A 3 c B 3 c' w h h' (by decide) (by decide)
  have HB2 := fun (A B : Option Addr) (c c' : Nat) w (h : Sl w .i64 A 3 [8, 1, 1]) (h' : Sl w .i64 B 3 [2, 2, 1]) => breaks_lit (P := [8, 1, 1]) (S := [2, 2, 1]) (xs := [(0, -1), (1, 1)]) (by decide +kernel) (by decide +kernel) A 3 c B 3 c' w h h' (by decide) (by decide)
  have HU := fun (A B : Option Addr) (c c' : Nat) w (h : Sl w .i64 A 3 [9, 5, 3]) (h' : Sl w .i64 B 3 [3, 1, 0]) => unst_lit (P := [9, 5, 3]) (S := [3, 1, 0]) (m := 14) (xs := [(0, 2)]) (by decide +kernel) (by decide +kernel) A 3 c B 3 c' w h h' (by decide) (by decide)
  have HBi := fun (A B : Option Addr) (c c' : Nat) w (h : Sl w .i64 A 3 [9, 5, 3]) (h' : Sl w .i64 B 3 [2, 1, 1]) => fBias_few A 3 c [9, 5, 3] B 3 c' [2, 1, 1] 1 w h h' (by decide) (by decide) (by decide)
  have HM := fun w => fMeasure_any 13 9 2 5 0 w
  have HH1 := fun w => fHelps_any 14 9 3 3 0 w
  have HH2 := fun w => fHelps_any 15 9 3 3 0 w
  have HF := fun w => l9_of (-1) 3 w (by decide) (by decide) (by decide) (by decide)
  rw [lw_m] at HM
  rw [lw_h1.1, lw_h1.2] at HH1
  rw [lw_h2.1, lw_h2.2] at HH2
  rw [lw_b.1, lw_b.2] at HBi
  have G := shA_good (-1) 3
  have G2 := mX_good 13 9 2 5 0
  obtain ⟨X, hX⟩ : ∃ X, shA (-1) 3 = X := ⟨_, rfl⟩
  obtain ⟨X2, hX2⟩ : ∃ X, mX 13 9 2 5 0 = X := ⟨_, rfl⟩
  rw [hX] at HBi HF G
  rw [hX2] at HM G2
  have i1 := Lib.hid G.info
  have z1 := Lib.hid G.1
  have c1' := Lib.hid G.2.1
  have i2 := Lib.hid G2.info
  have z2 := Lib.hid G2.1
  have c2' := Lib.hid G2.2.1
  have E1 := fun w => G.eql w
  have hgd := Lib.hid shGuard
  clear G hX G2 hX2
  go_enter Tryz.func4, Tryz.ntmps4
  go_wp2_with fail
  refine name2 (Q := fun W => Calls _ _ _ W _) ?_
  intro W1 L1 hs1 k1 kb
  refine (HB1 _ _ _ _ W1 (Sl.of_blk' (t := 3) k1 rfl) (Sl.of_blk' (t := 3) kb rfl)).mono ?_
  rintro e V1 ⟨A1, c1, rfl, r1, lv⟩
  have k1 := k1.later lv
  have LL := L1.trans lv
  clear HB1 kb hs1 lv L1
  go_wp2_with fail
  refine name2 (Q := fun W => Calls _ _ _ W _) ?_
  intro W2 L2 hs2 ka kb
  refine (HB2 _ _ _ _ W2 (Sl.of_blk' (t := 3) ka rfl) (Sl.of_blk' (t := 3) kb rfl)).mono ?_
  rintro e V2 ⟨A2, c2, rfl, r2, lv⟩
  have k1 := (k1.later L2).later lv
  have r1 := (r1.later L2).later lv
  have LL := (LL.trans L2).trans lv
  clear HB2 ka kb hs2 lv L2
  go_wp2_with fail
  refine (HM V2).mono ?_
  rintro e V3 ⟨rfl, lv⟩
  have K0 := Blk.new V3 35 #[.int .u64 W8.zero.a0, .int .u64 W8.zero.a1, .int .u64 W8.zero.a2, .int .u64 W8.zero.a3, .int .u64 W8.zero.a4, .int .u64 W8.zero.a5, .int .u64 W8.zero.a6, .int .u64 W8.zero.a7, .int .u64 W8.zero.a0, .int .u64 W8.zero.a1, .int .u64 W8.zero.a2, .int .u64 W8.zero.a3, .int .u64 W8.zero.a4, .int .u64 W8.zero.a5, .int .u64 W8.zero.a6, .int .u64 W8.zero.a7]
  go_wp2_with (refine wpList_put rfl 35 (.tmp 6) (.tmp 31) (by rfl) (by rfl) V3.heap.size (by rfl) X2 (by rfl) K0 (by rw [z2.out]; rfl) i2.out c2'.out ?_; intro U3 hput; have m1 := hput.lat V2 (lv.trans (Lat.alloc _ _)) (by have := lv.size; omega))
  have k1 := k1.later m1
  have r1 := r1.later m1
  have r2 := r2.later m1
  have LL := LL.trans m1
  clear K0 hput lv m1 HM i2 z2 c2'
  refine (HH1 U3).mono ?_
  rintro e V4 ⟨rfl, lv⟩
  have k1 := k1.later lv
  have r1 := r1.later lv
  have r2 := r2.later lv
  have LL := LL.trans lv
  clear HH1 lv
  go_wp2_with fail
  refine (HH2 V4).mono ?_
  rintro e V5 ⟨rfl, lv⟩
  have k1 := k1.later lv
  have r1 := r1.later lv
  have r2 := r2.later lv
  have LL := LL.trans lv
  clear HH2 lv
  go_wp2_with fail
  refine name1 (Q := fun W => Calls _ _ _ W _) ?_
  intro W6 L6 hs6 kb
  refine (HU _ _ _ _ W6 (Sl.of_blk' (t := 3) (k1.later L6) rfl) (Sl.of_blk' (t := 3) kb rfl)).mono ?_
  rintro e V6 ⟨A3, c3, rfl, r3, lv⟩
  have k1 := (k1.later L6).later lv
  have r1 := (r1.later L6).later lv
  have r2 := (r2.later L6).later lv
  have LL := (LL.trans L6).trans lv
  clear HU kb hs6 lv L6
  go_wp2_with fail
  refine name1 (Q := fun W => Calls _ _ _ W _) ?_
  intro W7 L7 hs7 kb
  refine (HBi _ _ _ _ W7 (Sl.of_blk' (t := 3) (k1.later L7) rfl) (Sl.of_blk' (t := 3) kb rfl)).mono ?_
  rintro e V7 ⟨rfl, lv⟩
  have r1 := (r1.later L7).later lv
  have r2 := (r2.later L7).later lv
  have r3 := (r3.later L7).later lv
  have LL := LL.trans L7
  have K0 := Blk.new V7 35 #[.int .u64 W8.zero.a0, .int .u64 W8.zero.a1, .int .u64 W8.zero.a2, .int .u64 W8.zero.a3, .int .u64 W8.zero.a4, .int .u64 W8.zero.a5, .int .u64 W8.zero.a6, .int .u64 W8.zero.a7, .int .u64 W8.zero.a0, .int .u64 W8.zero.a1, .int .u64 W8.zero.a2, .int .u64 W8.zero.a3, .int .u64 W8.zero.a4, .int .u64 W8.zero.a5, .int .u64 W8.zero.a6, .int .u64 W8.zero.a7]
  clear HBi kb hs7 k1
  go_wp2_with (refine wpList_put rfl 35 (.tmp 14) (.tmp 51) (by rfl) (by rfl) V7.heap.size (by rfl) X (by rfl) K0 (by rw [z1.out]; rfl) i1.out c1'.out ?_; intro U7 hput; have B1 := hput.blk; have m1 := hput.lat W7 (lv.trans (Lat.alloc _ _)) (by have := lv.size; omega); have m2 := hput.lat V7 (Lat.alloc _ _) (Nat.le_refl _))
  have r1 := r1.later m2
  have r2 := r2.later m2
  have r3 := r3.later m2
  have LL := LL.trans m1
  clear K0 hput lv m1 m2
  rename_i KN hKN
  obtain ⟨Y, rfl⟩ : ∃ Y : List Value, X = Y.toArray := ⟨X.toList, by simp⟩
  have R14 : ∀ w', Lat U7 w' → w'.rangeAt V7.heap.size 0 Y := fun w' hl => (B1.later hl).rangeAll
  have J : (Tryz.prog.info? 35).map (·.size) = some Y.length := by have := i1.out; simpa using this
  clear B1 i1 z1 c1'
  refine wp_region_slots (fw15_rows Y A1 A2 A3 c1 c2 c3) (fw15_base V7.heap.size A1 A2 A3 c1 c2 c3) 125 73 [[], [], [1], [0, 2], [3, 3], [4], [5, 4], [4, 6], [7, 4], [8], [8], [8], [10, 11, 8], [9, 12, 8, 8], [8, 13], [14, 13], [15], [16, 15], [15, 17], [18, 15], [19, 19], [19, 20], [21, 20], [22, 22], [22, 23], [24, 23], [25, 25], [25, 26], [27, 26], [28, 28], [28, 29], [30, 29], [31, 31], [31, 32], [33, 32], [34], [35, 34], [34, 36], [37, 34], [38], [38, 39], [40, 38], [41], [42, 41], [41, 43], [44, 41], [45], [46, 45], [45, 47], [48, 45], [49], [50, 49], [49, 51], [52, 49], [53], [53], [55, 53], [54, 56, 53, 53], [53, 57], [58, 57], [59], [60, 59], [59, 61], [62, 59], [63], [63, 63], [64, 65, 63], [63, 66], [67, 65], [68], [69, 68], [68, 70], [71, 68, 0, 1, 2, 3, 4, 5, 6, 7, 8, 9, 10, 11, 12, 13, 14, 15, 16, 17, 18, 19, 20, 21, 22, 23, 24, 25, 26, 27, 28, 29, 30, 31, 32, 33, 34, 35, 36, 37, 38, 39, 40, 41, 42, 43, 44, 45, 46, 47, 48, 49, 50, 51, 52, 53, 54, 55, 56, 57, 58, 59, 60, 61, 62, 63, 64, 65, 66, 67, 68, 69, 70, 71]] (by kernel_rfl) (by kernel_rfl) (by kernel_rfl) (by kernel_rfl) (by kernel_rfl) (by kernel_rfl) (by rfl) rfl ?_ ?_ ?_
  · exact base_of (base_cons (by rfl) (base_cons (by rfl) (base_cons (by rfl) (base_cons (by rfl) (base_cons (by rfl) (base_cons (by rfl) (base_cons (by rfl) (base_cons (by rfl) (base_cons (by rfl) (base_cons (by rfl) (base_cons (by rfl) (base_cons (by rfl) (base_cons (by rfl) (base_nil _))))))))))))))
  · refine AllSteps.next (fun _ _ _ h _ => h) (fun j b h => by cases h) (fun a w hl hb hd o ho => by have e1 := hb 2 _ rfl; exact Runs.val (yv_move (S := fun _ => True) e1 o w ho trivial) ⟨Lat.refl _, fun _ => rfl⟩) ?_
    refine AllSteps.next (fun _ _ _ h _ => h) (fun j b h => by cases h) (fun a w hl hb hd o ho => by obtain ⟨d, op, ty, p, af, g⟩ := o; simp only at ho; subst ho; exact Runs.val (by unfold execOp; simp only [eval_const]; go_simp) ⟨Lat.refl _, fun _ => rfl⟩) ?_
    refine AllSteps.next (fun v w w' h l => by obtain ⟨g, h1, h2⟩ := h; exact ⟨g, h1, h2.later l⟩) (fun j b h => by cases h) (fun a w hl hb hd o ho => by obtain ⟨v1, e1, q1⟩ := hd 1 _ _ (by simp) rfl rfl; subst q1; obtain ⟨d, op, ty, p, af, g⟩ := o; simp only at ho; subst ho; exact Runs.new (w' := w.alloc (.cells #[.int .i64 0, .int .i64 1] 44)) (by unfold execOp; generalize a.eval = ev at e1 ⊢; first | (simp only [e1]; go_simp; done) | (go_simp; simp only [e1]; go_simp; try rfl)) ⟨Lat.alloc _ _, fun _ => ⟨_, rfl, Blk.new _ _ _⟩⟩) ?_
    refine AllSteps.next (fun _ _ _ h _ => h) (fun j b h => by cases h) (fun a w hl hb hd o ho => by obtain ⟨v1, e1, q1⟩ := hd 0 _ _ (by simp) rfl rfl; subst q1; obtain ⟨v2, e2, q2⟩ := hd 2 _ _ (by simp) rfl rfl; obtain ⟨g2, rfl, b2⟩ := q2; exact Runs.call (yv_call (f := 10) (fun _ => by go_simp) o ho (by simp only [List.map_toArray, List.map_cons, List.map_nil, e1, e2])) ((equal22_yes A1 1 c1 [(0, 1)] (some ⟨g2, 0, none⟩) 1 w (r1.later hl) (rowB_lit (xs := [(0, 1)]) b2).row (by decide)).mono fun e w' h => ⟨_, h.1, h.2, fun _ => rfl⟩)) ?_
    refine AllSteps.next (fun _ _ _ h _ => h) (fun j b h => by cases h) (fun a w hl hb hd o ho => by obtain ⟨v1, e1, q1⟩ := hd 3 _ _ (by simp) rfl rfl; subst q1; exact Runs.val (yv_move (S := fun _ => True) e1 o w ho trivial) ⟨Lat.refl _, fun _ => rfl⟩) ?_
    refine AllSteps.next (fun _ _ _ h _ => h) (fun j b h => by cases h; exact ⟨_, rfl, ⟨_, rfl⟩, by simp, fun _ _ h => h⟩) (fun a w hl hb hd o ho => by have e1 := hb 3 _ rfl; exact Runs.val (yv_move (S := fun _ => True) e1 o w ho trivial) ⟨Lat.refl _, fun _ => rfl⟩) ?_
    refine AllSteps.next (fun _ _ _ h _ => h) (fun j b h => by cases h; exact ⟨_, rfl, ⟨_, rfl⟩, by simp, fun _ _ h => h⟩) (fun a w hl hb hd o ho => by obtain ⟨v1, e1, q1⟩ := hd 5 _ _ (by simp) rfl rfl; subst q1; exact Runs.val (S_eql24 e1 o w ho (by decide)) ⟨Lat.refl _, fun _ => rfl⟩) ?_
    refine AllSteps.next (fun _ _ _ h _ => h) (fun j b h => by cases h) (fun a w hl hb hd o ho => by obtain ⟨v1, e1, q1⟩ := hd 4 _ _ (by simp) rfl rfl; obtain ⟨v2, e2, q2⟩ := hd 6 _ _ (by simp) rfl rfl; subst q1; subst q2; exact Runs.val (yv_pick (S := fun _ => True) e1 e2 o w ho trivial) ⟨Lat.refl _, fun _ => rfl⟩) ?_
    refine AllSteps.next (fun _ _ _ h _ => h) (fun j b h => by cases h) (fun a w hl hb hd o ho => by obtain ⟨v1, e1, q1⟩ := hd 7 _ _ (by simp) rfl rfl; subst q1; exact Runs.val (yv_move (S := fun _ => True) e1 o w ho trivial) ⟨Lat.refl _, fun _ => rfl⟩) ?_
    refine AllSteps.next (fun _ _ _ h _ => h) (fun j b h => by cases h; exact ⟨_, rfl, ⟨_, rfl⟩, by simp, fun _ _ h => h⟩) (fun a w hl hb hd o ho => by have e1 := hb 4 _ rfl; exact Runs.val (yv_move (S := fun _ => True) e1 o w ho trivial) ⟨Lat.refl _, fun _ => rfl⟩) ?_
    refine AllSteps.next (fun _ _ _ h _ => h) (fun j b h => by cases h; exact ⟨_, rfl, ⟨_, rfl⟩, by simp, fun _ _ h => h⟩) (fun a w hl hb hd o ho => by obtain ⟨d, op, ty, p, af, g⟩ := o; simp only at ho; subst ho; exact Runs.val (by unfold execOp; simp only [eval_const]; go_simp) ⟨Lat.refl _, fun _ => rfl⟩) ?_
    refine AllSteps.next (fun _ _ _ h _ => h) (fun j b h => by cases h; exact ⟨_, rfl, ⟨_, rfl⟩, by simp, fun _ _ h => h⟩) (fun a w hl hb hd o ho => by obtain ⟨d, op, ty, p, af, g⟩ := o; simp only at ho; subst ho; exact Runs.val (by unfold execOp; simp only [eval_const]; go_simp) ⟨Lat.refl _, fun _ => rfl⟩) ?_
    refine AllSteps.next (fun v w w' h l => by obtain ⟨g, h1, h2⟩ := h; exact ⟨g, h1, h2.later l⟩) (fun j b h => by cases h; exact ⟨_, rfl, ⟨_, rfl⟩, by simp, fun _ _ h => h⟩) (fun a w hl hb hd o ho => by obtain ⟨v1, e1, q1⟩ := hd 10 _ _ (by simp) rfl rfl; subst q1; obtain ⟨v2, e2, q2⟩ := hd 11 _ _ (by simp) rfl rfl; subst q2; obtain ⟨d, op, ty, p, af, g⟩ := o; simp only at ho; subst ho; exact Runs.new (w' := w.alloc (.cells #[.int .i64 0, .int .i64 (-1), .int .i64 1, .int .i64 1] 44)) (by unfold execOp; generalize a.eval = ev at e1 e2 ⊢; first | (simp only [e1, e2]; go_simp; done) | (go_simp; simp only [e1, e2]; go_simp; try rfl)) ⟨Lat.alloc _ _, fun _ => ⟨_, rfl, Blk.new _ _ _⟩⟩) ?_
    refine AllSteps.next (fun _ _ _ h _ => h) (fun j b h => by cases h; exact ⟨_, rfl, ⟨_, rfl⟩, by simp, fun _ _ h => h⟩) (fun a w hl hb hd o ho => by obtain ⟨v1, e1, q1⟩ := hd 9 _ _ (by simp) rfl rfl; subst q1; obtain ⟨v2, e2, q2⟩ := hd 12 _ _ (by simp) rfl rfl; obtain ⟨g2, rfl, b2⟩ := q2; exact Runs.call (yv_call (f := 10) (fun _ => by go_simp) o ho (by simp only [List.map_toArray, List.map_cons, List.map_nil, e1, e2])) ((equal22_yes A2 2 c2 [(0, -1), (1, 1)] (some ⟨g2, 0, none⟩) 2 w (r2.later hl) (rowB_lit (xs := [(0, -1), (1, 1)]) b2).row (by decide)).mono fun e w' h => ⟨_, h.1, h.2, fun _ => rfl⟩)) ?_
    refine AllSteps.next (fun _ _ _ h _ => h) (fun j b h => by cases h) (fun a w hl hb hd o ho => by obtain ⟨v1, e1, q1⟩ := hd 8 _ _ (by simp) rfl rfl; obtain ⟨v2, e2, q2⟩ := hd 13 _ _ (by simp) rfl rfl; subst q1; subst q2; exact Runs.val (yv_pick (S := fun _ => True) e1 e2 o w ho trivial) ⟨Lat.refl _, fun _ => rfl⟩) ?_
    refine AllSteps.next (fun _ _ _ h _ => h) (fun j b h => by cases h) (fun a w hl hb hd o ho => by obtain ⟨v1, e1, q1⟩ := hd 14 _ _ (by simp) rfl rfl; subst q1; exact Runs.val (yv_move (S := fun _ => True) e1 o w ho trivial) ⟨Lat.refl _, fun _ => rfl⟩) ?_
    refine AllSteps.next (fun _ _ _ h _ => h) (fun j b h => by cases h; exact ⟨_, rfl, ⟨_, rfl⟩, by simp, fun _ _ h => h⟩) (fun a w hl hb hd o ho => by have e1 := hb 5 _ rfl; exact Runs.val (yv_move (S := fun _ => True) e1 o w ho trivial) ⟨Lat.refl _, fun _ => rfl⟩) ?_
    refine AllSteps.next (fun _ _ _ h _ => h) (fun j b h => by cases h; exact ⟨_, rfl, ⟨_, rfl⟩, by simp, fun _ _ h => h⟩) (fun a w hl hb hd o ho => by obtain ⟨v1, e1, q1⟩ := hd 16 _ _ (by simp) rfl rfl; subst q1; exact Runs.val (S_eql24 e1 o w ho (by decide)) ⟨Lat.refl _, fun _ => rfl⟩) ?_
    refine AllSteps.next (fun _ _ _ h _ => h) (fun j b h => by cases h) (fun a w hl hb hd o ho => by obtain ⟨v1, e1, q1⟩ := hd 15 _ _ (by simp) rfl rfl; obtain ⟨v2, e2, q2⟩ := hd 17 _ _ (by simp) rfl rfl; subst q1; subst q2; exact Runs.val (yv_pick (S := fun _ => True) e1 e2 o w ho trivial) ⟨Lat.refl _, fun _ => rfl⟩) ?_
    refine AllSteps.next (fun _ _ _ h _ => h) (fun j b h => by cases h) (fun a w hl hb hd o ho => by obtain ⟨v1, e1, q1⟩ := hd 18 _ _ (by simp) rfl rfl; subst q1; exact Runs.val (yv_move (S := fun _ => True) e1 o w ho trivial) ⟨Lat.refl _, fun _ => rfl⟩) ?_
    refine AllSteps.next (fun _ _ _ h _ => h) (fun j b h => by cases h; exact ⟨_, rfl, ⟨_, rfl⟩, by simp, fun _ _ h => h⟩) (fun a w hl hb hd o ho => by exact Runs.call (yv_call (f := 12) (fun _ => by go_simp) o ho (by simp only [List.map_toArray, List.map_cons, List.map_nil, eval_const])) ((lm_14_9_2_5_1_1_45 w).mono fun e w' h => ⟨_, h.1, h.2, fun _ => rfl⟩)) ?_
    refine AllSteps.next (fun _ _ _ h _ => h) (fun j b h => by cases h) (fun a w hl hb hd o ho => by obtain ⟨v1, e1, q1⟩ := hd 19 _ _ (by simp) rfl rfl; obtain ⟨v2, e2, q2⟩ := hd 20 _ _ (by simp) rfl rfl; subst q1; subst q2; exact Runs.val (yv_pick (S := fun _ => True) e1 e2 o w ho trivial) ⟨Lat.refl _, fun _ => rfl⟩) ?_
    refine AllSteps.next (fun _ _ _ h _ => h) (fun j b h => by cases h) (fun a w hl hb hd o ho => by obtain ⟨v1, e1, q1⟩ := hd 21 _ _ (by simp) rfl rfl; subst q1; exact Runs.val (yv_move (S := fun _ => True) e1 o w ho trivial) ⟨Lat.refl _, fun _ => rfl⟩) ?_
    refine AllSteps.next (fun _ _ _ h _ => h) (fun j b h => by cases h; exact ⟨_, rfl, ⟨_, rfl⟩, by simp, fun _ _ h => h⟩) (fun a w hl hb hd o ho => by exact Runs.call (yv_call (f := 12) (fun _ => by go_simp) o ho (by simp only [List.map_toArray, List.map_cons, List.map_nil, eval_const])) ((lm_12_9_2_5_1_1_2 w).mono fun e w' h => ⟨_, h.1, h.2, fun _ => rfl⟩)) ?_
    refine AllSteps.next (fun _ _ _ h _ => h) (fun j b h => by cases h) (fun a w hl hb hd o ho => by obtain ⟨v1, e1, q1⟩ := hd 22 _ _ (by simp) rfl rfl; obtain ⟨v2, e2, q2⟩ := hd 23 _ _ (by simp) rfl rfl; subst q1; subst q2; exact Runs.val (yv_pick (S := fun _ => True) e1 e2 o w ho trivial) ⟨Lat.refl _, fun _ => rfl⟩) ?_
    refine AllSteps.next (fun _ _ _ h _ => h) (fun j b h => by cases h) (fun a w hl hb hd o ho => by obtain ⟨v1, e1, q1⟩ := hd 24 _ _ (by simp) rfl rfl; subst q1; exact Runs.val (yv_move (S := fun _ => True) e1 o w ho trivial) ⟨Lat.refl _, fun _ => rfl⟩) ?_
    refine AllSteps.next (fun _ _ _ h _ => h) (fun j b h => by cases h; exact ⟨_, rfl, ⟨_, rfl⟩, by simp, fun _ _ h => h⟩) (fun a w hl hb hd o ho => by exact Runs.call (yv_call (f := 12) (fun _ => by go_simp) o ho (by simp only [List.map_toArray, List.map_cons, List.map_nil, eval_const])) ((lm_13_9_2_5_1_1_9 w).mono fun e w' h => ⟨_, h.1, h.2, fun _ => rfl⟩)) ?_
    refine AllSteps.next (fun _ _ _ h _ => h) (fun j b h => by cases h) (fun a w hl hb hd o ho => by obtain ⟨v1, e1, q1⟩ := hd 25 _ _ (by simp) rfl rfl; obtain ⟨v2, e2, q2⟩ := hd 26 _ _ (by simp) rfl rfl; subst q1; subst q2; exact Runs.val (yv_pick (S := fun _ => True) e1 e2 o w ho trivial) ⟨Lat.refl _, fun _ => rfl⟩) ?_
    refine AllSteps.next (fun _ _ _ h _ => h) (fun j b h => by cases h) (fun a w hl hb hd o ho => by obtain ⟨v1, e1, q1⟩ := hd 27 _ _ (by simp) rfl rfl; subst q1; exact Runs.val (yv_move (S := fun _ => True) e1 o w ho trivial) ⟨Lat.refl _, fun _ => rfl⟩) ?_
    refine AllSteps.next (fun _ _ _ h _ => h) (fun j b h => by cases h; exact ⟨_, rfl, ⟨_, rfl⟩, by simp, fun _ _ h => h⟩) (fun a w hl hb hd o ho => by exact Runs.call (yv_call (f := 12) (fun _ => by go_simp) o ho (by simp only [List.map_toArray, List.map_cons, List.map_nil, eval_const])) ((lm_11_9_2_5_1_1_5 w).mono fun e w' h => ⟨_, h.1, h.2, fun _ => rfl⟩)) ?_
    refine AllSteps.next (fun _ _ _ h _ => h) (fun j b h => by cases h) (fun a w hl hb hd o ho => by obtain ⟨v1, e1, q1⟩ := hd 28 _ _ (by simp) rfl rfl; obtain ⟨v2, e2, q2⟩ := hd 29 _ _ (by simp) rfl rfl; subst q1; subst q2; exact Runs.val (yv_pick (S := fun _ => True) e1 e2 o w ho trivial) ⟨Lat.refl _, fun _ => rfl⟩) ?_
    refine AllSteps.next (fun _ _ _ h _ => h) (fun j b h => by cases h) (fun a w hl hb hd o ho => by obtain ⟨v1, e1, q1⟩ := hd 30 _ _ (by simp) rfl rfl; subst q1; exact Runs.val (yv_move (S := fun _ => True) e1 o w ho trivial) ⟨Lat.refl _, fun _ => rfl⟩) ?_
    refine AllSteps.next (fun _ _ _ h _ => h) (fun j b h => by cases h; exact ⟨_, rfl, ⟨_, rfl⟩, by simp, fun _ _ h => h⟩) (fun a w hl hb hd o ho => by exact Runs.call (yv_call (f := 12) (fun _ => by go_simp) o ho (by simp only [List.map_toArray, List.map_cons, List.map_nil, eval_const])) ((lm_15_9_2_5_1_1_9 w).mono fun e w' h => ⟨_, h.1, h.2, fun _ => rfl⟩)) ?_
    refine AllSteps.next (fun _ _ _ h _ => h) (fun j b h => by cases h) (fun a w hl hb hd o ho => by obtain ⟨v1, e1, q1⟩ := hd 31 _ _ (by simp) rfl rfl; obtain ⟨v2, e2, q2⟩ := hd 32 _ _ (by simp) rfl rfl; subst q1; subst q2; exact Runs.val (yv_pick (S := fun _ => True) e1 e2 o w ho trivial) ⟨Lat.refl _, fun _ => rfl⟩) ?_
    refine AllSteps.next (fun _ _ _ h _ => h) (fun j b h => by cases h) (fun a w hl hb hd o ho => by obtain ⟨v1, e1, q1⟩ := hd 33 _ _ (by simp) rfl rfl; subst q1; exact Runs.val (yv_move (S := fun _ => True) e1 o w ho trivial) ⟨Lat.refl _, fun _ => rfl⟩) ?_
    refine AllSteps.next (fun _ _ _ h _ => h) (fun j b h => by cases h; exact ⟨_, rfl, ⟨_, rfl⟩, by simp, fun _ _ h => h⟩) (fun a w hl hb hd o ho => by have e1 := hb 7 _ rfl; exact Runs.val (yv_move (S := fun _ => True) e1 o w ho trivial) ⟨Lat.refl _, fun _ => rfl⟩) ?_
    refine AllSteps.next (fun _ _ _ h _ => h) (fun j b h => by cases h; exact ⟨_, rfl, ⟨_, rfl⟩, by simp, fun _ _ h => h⟩) (fun a w hl hb hd o ho => by obtain ⟨v1, e1, q1⟩ := hd 35 _ _ (by simp) rfl rfl; subst q1; exact Runs.val (S_eql24 e1 o w ho (by decide)) ⟨Lat.refl _, fun _ => rfl⟩) ?_
    refine AllSteps.next (fun _ _ _ h _ => h) (fun j b h => by cases h) (fun a w hl hb hd o ho => by obtain ⟨v1, e1, q1⟩ := hd 34 _ _ (by simp) rfl rfl; obtain ⟨v2, e2, q2⟩ := hd 36 _ _ (by simp) rfl rfl; subst q1; subst q2; exact Runs.val (yv_pick (S := fun _ => True) e1 e2 o w ho trivial) ⟨Lat.refl _, fun _ => rfl⟩) ?_
    refine AllSteps.next (fun _ _ _ h _ => h) (fun j b h => by cases h) (fun a w hl hb hd o ho => by obtain ⟨v1, e1, q1⟩ := hd 37 _ _ (by simp) rfl rfl; subst q1; exact Runs.val (yv_move (S := fun _ => True) e1 o w ho trivial) ⟨Lat.refl _, fun _ => rfl⟩) ?_
    refine AllSteps.next (fun _ _ _ h _ => h) (fun j b h => by cases h; exact ⟨_, rfl, ⟨_, rfl⟩, by simp, fun _ _ h => h⟩) (fun a w hl hb hd o ho => by have e1 := hb 8 _ rfl; exact Runs.val (yv_move (S := fun _ => True) e1 o w ho trivial) ⟨Lat.refl _, fun _ => rfl⟩) ?_
    refine AllSteps.next (fun _ _ _ h _ => h) (fun j b h => by cases h) (fun a w hl hb hd o ho => by obtain ⟨v1, e1, q1⟩ := hd 38 _ _ (by simp) rfl rfl; obtain ⟨v2, e2, q2⟩ := hd 39 _ _ (by simp) rfl rfl; subst q1; subst q2; exact Runs.val (yv_pick (S := fun _ => True) e1 e2 o w ho trivial) ⟨Lat.refl _, fun _ => rfl⟩) ?_
    refine AllSteps.next (fun _ _ _ h _ => h) (fun j b h => by cases h) (fun a w hl hb hd o ho => by obtain ⟨v1, e1, q1⟩ := hd 40 _ _ (by simp) rfl rfl; subst q1; exact Runs.val (yv_move (S := fun _ => True) e1 o w ho trivial) ⟨Lat.refl _, fun _ => rfl⟩) ?_
    refine AllSteps.next (fun _ _ _ h _ => h) (fun j b h => by cases h; exact ⟨_, rfl, ⟨_, rfl⟩, by simp, fun _ _ h => h⟩) (fun a w hl hb hd o ho => by have e1 := hb 9 _ rfl; exact Runs.val (yv_move (S := fun _ => True) e1 o w ho trivial) ⟨Lat.refl _, fun _ => rfl⟩) ?_
    refine AllSteps.next (fun _ _ _ h _ => h) (fun j b h => by cases h; exact ⟨_, rfl, ⟨_, rfl⟩, by simp, fun _ _ h => h⟩) (fun a w hl hb hd o ho => by obtain ⟨v1, e1, q1⟩ := hd 42 _ _ (by simp) rfl rfl; subst q1; exact Runs.val (S_eql24 e1 o w ho (by decide)) ⟨Lat.refl _, fun _ => rfl⟩) ?_
    refine AllSteps.next (fun _ _ _ h _ => h) (fun j b h => by cases h) (fun a w hl hb hd o ho => by obtain ⟨v1, e1, q1⟩ := hd 41 _ _ (by simp) rfl rfl; obtain ⟨v2, e2, q2⟩ := hd 43 _ _ (by simp) rfl rfl; subst q1; subst q2; exact Runs.val (yv_pick (S := fun _ => True) e1 e2 o w ho trivial) ⟨Lat.refl _, fun _ => rfl⟩) ?_
    refine AllSteps.next (fun _ _ _ h _ => h) (fun j b h => by cases h) (fun a w hl hb hd o ho => by obtain ⟨v1, e1, q1⟩ := hd 44 _ _ (by simp) rfl rfl; subst q1; exact Runs.val (yv_move (S := fun _ => True) e1 o w ho trivial) ⟨Lat.refl _, fun _ => rfl⟩) ?_
    refine AllSteps.next (fun _ _ _ h _ => h) (fun j b h => by cases h; exact ⟨_, rfl, ⟨_, rfl⟩, by simp, fun _ _ h => h⟩) (fun a w hl hb hd o ho => by have e1 := hb 10 _ rfl; exact Runs.val (yv_move (S := fun _ => True) e1 o w ho trivial) ⟨Lat.refl _, fun _ => rfl⟩) ?_
    refine AllSteps.next (fun _ _ _ h _ => h) (fun j b h => by cases h; exact ⟨_, rfl, ⟨_, rfl⟩, by simp, fun _ _ h => h⟩) (fun a w hl hb hd o ho => by obtain ⟨v1, e1, q1⟩ := hd 46 _ _ (by simp) rfl rfl; subst q1; obtain ⟨d, op, ty, p, af, g⟩ := o; simp only at ho; subst ho; exact Runs.val (by unfold execOp; simp only [e1]; go_simp) ⟨Lat.refl _, fun _ => rfl⟩) ?_
    refine AllSteps.next (fun _ _ _ h _ => h) (fun j b h => by cases h) (fun a w hl hb hd o ho => by obtain ⟨v1, e1, q1⟩ := hd 45 _ _ (by simp) rfl rfl; obtain ⟨v2, e2, q2⟩ := hd 47 _ _ (by simp) rfl rfl; subst q1; subst q2; exact Runs.val (yv_pick (S := fun _ => True) e1 e2 o w ho trivial) ⟨Lat.refl _, fun _ => rfl⟩) ?_
    refine AllSteps.next (fun _ _ _ h _ => h) (fun j b h => by cases h) (fun a w hl hb hd o ho => by obtain ⟨v1, e1, q1⟩ := hd 48 _ _ (by simp) rfl rfl; subst q1; exact Runs.val (yv_move (S := fun _ => True) e1 o w ho trivial) ⟨Lat.refl _, fun _ => rfl⟩) ?_
    refine AllSteps.next (fun _ _ _ h _ => h) (fun j b h => by cases h; exact ⟨_, rfl, ⟨_, rfl⟩, by simp, fun _ _ h => h⟩) (fun a w hl hb hd o ho => by have e1 := hb 11 _ rfl; exact Runs.val (yv_move (S := fun _ => True) e1 o w ho trivial) ⟨Lat.refl _, fun _ => rfl⟩) ?_
    refine AllSteps.next (fun _ _ _ h _ => h) (fun j b h => by cases h; exact ⟨_, rfl, ⟨_, rfl⟩, by simp, fun _ _ h => h⟩) (fun a w hl hb hd o ho => by obtain ⟨v1, e1, q1⟩ := hd 50 _ _ (by simp) rfl rfl; subst q1; exact Runs.val (S_eql24 e1 o w ho (by decide)) ⟨Lat.refl _, fun _ => rfl⟩) ?_
    refine AllSteps.next (fun _ _ _ h _ => h) (fun j b h => by cases h) (fun a w hl hb hd o ho => by obtain ⟨v1, e1, q1⟩ := hd 49 _ _ (by simp) rfl rfl; obtain ⟨v2, e2, q2⟩ := hd 51 _ _ (by simp) rfl rfl; subst q1; subst q2; exact Runs.val (yv_pick (S := fun _ => True) e1 e2 o w ho trivial) ⟨Lat.refl _, fun _ => rfl⟩) ?_
    refine AllSteps.next (fun _ _ _ h _ => h) (fun j b h => by cases h) (fun a w hl hb hd o ho => by obtain ⟨v1, e1, q1⟩ := hd 52 _ _ (by simp) rfl rfl; subst q1; exact Runs.val (yv_move (S := fun _ => True) e1 o w ho trivial) ⟨Lat.refl _, fun _ => rfl⟩) ?_
    refine AllSteps.next (fun _ _ _ h _ => h) (fun j b h => by cases h; exact ⟨_, rfl, ⟨_, rfl⟩, by simp, fun _ _ h => h⟩) (fun a w hl hb hd o ho => by have e1 := hb 12 _ rfl; exact Runs.val (yv_move (S := fun _ => True) e1 o w ho trivial) ⟨Lat.refl _, fun _ => rfl⟩) ?_
    refine AllSteps.next (fun _ _ _ h _ => h) (fun j b h => by cases h; exact ⟨_, rfl, ⟨_, rfl⟩, by simp, fun _ _ h => h⟩) (fun a w hl hb hd o ho => by obtain ⟨d, op, ty, p, af, g⟩ := o; simp only at ho; subst ho; exact Runs.val (by unfold execOp; simp only [eval_const]; go_simp) ⟨Lat.refl _, fun _ => rfl⟩) ?_
    refine AllSteps.next (fun v w w' h l => by obtain ⟨g, h1, h2⟩ := h; exact ⟨g, h1, h2.later l⟩) (fun j b h => by cases h; exact ⟨_, rfl, ⟨_, rfl⟩, by simp, fun _ _ h => h⟩) (fun a w hl hb hd o ho => by obtain ⟨v1, e1, q1⟩ := hd 55 _ _ (by simp) rfl rfl; subst q1; obtain ⟨d, op, ty, p, af, g⟩ := o; simp only at ho; subst ho; exact Runs.new (w' := w.alloc (.cells #[.int .i64 0, .int .i64 2] 44)) (by unfold execOp; generalize a.eval = ev at e1 ⊢; first | (simp only [e1]; go_simp; done) | (go_simp; simp only [e1]; go_simp; try rfl)) ⟨Lat.alloc _ _, fun _ => ⟨_, rfl, Blk.new _ _ _⟩⟩) ?_
    refine AllSteps.next (fun _ _ _ h _ => h) (fun j b h => by cases h; exact ⟨_, rfl, ⟨_, rfl⟩, by simp, fun _ _ h => h⟩) (fun a w hl hb hd o ho => by obtain ⟨v1, e1, q1⟩ := hd 54 _ _ (by simp) rfl rfl; subst q1; obtain ⟨v2, e2, q2⟩ := hd 56 _ _ (by simp) rfl rfl; obtain ⟨g2, rfl, b2⟩ := q2; exact Runs.call (yv_call (f := 10) (fun _ => by go_simp) o ho (by simp only [List.map_toArray, List.map_cons, List.map_nil, e1, e2])) ((equal22_yes A3 1 c3 [(0, 2)] (some ⟨g2, 0, none⟩) 1 w (r3.later hl) (rowB_lit (xs := [(0, 2)]) b2).row (by decide)).mono fun e w' h => ⟨_, h.1, h.2, fun _ => rfl⟩)) ?_
    refine AllSteps.next (fun _ _ _ h _ => h) (fun j b h => by cases h) (fun a w hl hb hd o ho => by obtain ⟨v1, e1, q1⟩ := hd 53 _ _ (by simp) rfl rfl; obtain ⟨v2, e2, q2⟩ := hd 57 _ _ (by simp) rfl rfl; subst q1; subst q2; exact Runs.val (yv_pick (S := fun _ => True) e1 e2 o w ho trivial) ⟨Lat.refl _, fun _ => rfl⟩) ?_
    refine AllSteps.next (fun _ _ _ h _ => h) (fun j b h => by cases h) (fun a w hl hb hd o ho => by obtain ⟨v1, e1, q1⟩ := hd 58 _ _ (by simp) rfl rfl; subst q1; exact Runs.val (yv_move (S := fun _ => True) e1 o w ho trivial) ⟨Lat.refl _, fun _ => rfl⟩) ?_
    refine AllSteps.next (fun _ _ _ h _ => h) (fun j b h => by cases h; exact ⟨_, rfl, ⟨_, rfl⟩, by simp, fun _ _ h => h⟩) (fun a w hl hb hd o ho => by have e1 := hb 13 _ rfl; exact Runs.val (yv_move (S := fun _ => True) e1 o w ho trivial) ⟨Lat.refl _, fun _ => rfl⟩) ?_
    refine AllSteps.next (fun _ _ _ h _ => h) (fun j b h => by cases h; exact ⟨_, rfl, ⟨_, rfl⟩, by simp, fun _ _ h => h⟩) (fun a w hl hb hd o ho => by obtain ⟨v1, e1, q1⟩ := hd 60 _ _ (by simp) rfl rfl; subst q1; exact Runs.val (S_eql24 e1 o w ho (by decide)) ⟨Lat.refl _, fun _ => rfl⟩) ?_
    refine AllSteps.next (fun _ _ _ h _ => h) (fun j b h => by cases h) (fun a w hl hb hd o ho => by obtain ⟨v1, e1, q1⟩ := hd 59 _ _ (by simp) rfl rfl; obtain ⟨v2, e2, q2⟩ := hd 61 _ _ (by simp) rfl rfl; subst q1; subst q2; exact Runs.val (yv_pick (S := fun _ => True) e1 e2 o w ho trivial) ⟨Lat.refl _, fun _ => rfl⟩) ?_
    refine AllSteps.next (fun _ _ _ h _ => h) (fun j b h => by cases h) (fun a w hl hb hd o ho => by obtain ⟨v1, e1, q1⟩ := hd 62 _ _ (by simp) rfl rfl; subst q1; exact Runs.val (yv_move (S := fun _ => True) e1 o w ho trivial) ⟨Lat.refl _, fun _ => rfl⟩) ?_
    refine AllSteps.next (fun _ _ _ h _ => h) (fun j b h => by cases h; exact ⟨_, rfl, ⟨_, rfl⟩, by simp, fun _ _ h => h⟩) (fun a w hl hb hd o ho => by have e1 := hb 14 _ rfl; exact Runs.val (yv_load (S := Lat U7) e1 R14 Tryz.underlying35 rfl J o w ho hl) ⟨Lat.refl _, fun _ => rfl⟩) ?_
    refine AllSteps.next (fun _ _ _ h _ => h) (fun j b h => by cases h; exact ⟨_, rfl, ⟨_, rfl⟩, by simp, fun _ _ h => h⟩) (fun a w hl hb hd o ho => by exact Runs.call (yv_call (f := 11) (fun _ => by go_simp) o ho (by simp only [List.map_toArray, List.map_cons, List.map_nil, eval_const])) ((HF w).mono fun e w' h => ⟨_, h.1, h.2, fun _ => rfl⟩)) ?_
    refine AllSteps.next (fun _ _ _ h _ => h) (fun j b h => by cases h; exact ⟨_, rfl, ⟨_, rfl⟩, by simp, fun _ _ h => h⟩) (fun a w hl hb hd o ho => by obtain ⟨v1, e1, q1⟩ := hd 64 _ _ (by simp) rfl rfl; obtain ⟨v2, e2, q2⟩ := hd 65 _ _ (by simp) rfl rfl; subst q1; subst q2; exact Runs.val (yv_bin (S := fun _ => True) e1 e2 hgd.out E1 o w ho trivial) ⟨Lat.refl _, fun _ => rfl⟩) ?_
    refine AllSteps.next (fun _ _ _ h _ => h) (fun j b h => by cases h) (fun a w hl hb hd o ho => by obtain ⟨v1, e1, q1⟩ := hd 63 _ _ (by simp) rfl rfl; obtain ⟨v2, e2, q2⟩ := hd 66 _ _ (by simp) rfl rfl; subst q1; subst q2; exact Runs.val (yv_pick (S := fun _ => True) e1 e2 o w ho trivial) ⟨Lat.refl _, fun _ => rfl⟩) ?_
    refine AllSteps.next (fun _ _ _ h _ => h) (fun j b h => by cases h) (fun a w hl hb hd o ho => by obtain ⟨v1, e1, q1⟩ := hd 67 _ _ (by simp) rfl rfl; subst q1; exact Runs.val (yv_move (S := fun _ => True) e1 o w ho trivial) ⟨Lat.refl _, fun _ => rfl⟩) ?_
    refine AllSteps.next (fun _ _ _ h _ => h) (fun j b h => by cases h; exact ⟨_, rfl, ⟨_, rfl⟩, by simp, fun _ _ h => h⟩) (fun a w hl hb hd o ho => by have e1 := hb 15 _ rfl; exact Runs.val (yv_move (S := fun _ => True) e1 o w ho trivial) ⟨Lat.refl _, fun _ => rfl⟩) ?_
    refine AllSteps.next (fun _ _ _ h _ => h) (fun j b h => by cases h; exact ⟨_, rfl, ⟨_, rfl⟩, by simp, fun _ _ h => h⟩) (fun a w hl hb hd o ho => by obtain ⟨v1, e1, q1⟩ := hd 69 _ _ (by simp) rfl rfl; subst q1; exact Runs.val (S_eql24 e1 o w ho (by decide)) ⟨Lat.refl _, fun _ => rfl⟩) ?_
    refine AllSteps.next (fun _ _ _ h _ => h) (fun j b h => by cases h) (fun a w hl hb hd o ho => by obtain ⟨v1, e1, q1⟩ := hd 68 _ _ (by simp) rfl rfl; obtain ⟨v2, e2, q2⟩ := hd 70 _ _ (by simp) rfl rfl; subst q1; subst q2; exact Runs.val (yv_pick (S := fun _ => True) e1 e2 o w ho trivial) ⟨Lat.refl _, fun _ => rfl⟩) ?_
    refine AllSteps.next (fun _ _ _ h _ => h) (fun j b h => by cases h) (fun a w hl hb hd o ho => by obtain ⟨v1, e1, q1⟩ := hd 71 _ _ (by simp) rfl rfl; subst q1; exact Runs.val (yv_assignS (S := fun _ => True) e1 o w ho trivial) ⟨Lat.refl _, fun _ => rfl⟩) ?_
    exact AllSteps.none
  · intro a W hsz hdf hL _ hsl
    obtain ⟨v, h0, hv⟩ := hsl 72 _ _ rfl rfl
    have hv' : v = .bool true := hv
    subst hv'
    unfold Slot at h0
    refine hKN _ _ (wp_ret ?_)
    refine bodyPost_ret (v := .bool true) (by simp [results, Tryz.results4, go_sem, h0]) hdf ?_
    exact ⟨rfl, LL.trans hL⟩
end Go.Proofs.YtkjnjooggicgiaaGreat

/- FairKnown: the facts of its examples, and its last region. -/
namespace Go.Proofs.YtkjnjooggicgiaaGreat
open Go.RowKit
set_option linter.unusedSimpArgs false

theorem arr5 : (Tryz.prog.info? 38).map (·.size) = some 5 := by kernel_rfl
theorem str3 : (Tryz.prog.info? 25).map (·.size) = some 3 := by kernel_rfl
theorem row3 {w : World} {g : Nat} {t : TypeId} {cs : Array Value} {o : Nat} {x y z : Value} (h : Blk w g t cs) (h0 : cs[o]? = some x) (h1 : cs[o + 1]? = some y) (h2 : cs[o + 2]? = some z) : w.rangeAt g o [x, y, z] := by
  intro q v hq
  match q, hq with
  | 0, hq => cases hq; rw [h.cell]; exact h0
  | 1, hq => cases hq; rw [h.cell]; exact h1
  | 2, hq => cases hq; rw [h.cell]; exact h2
theorem row5 {w : World} {g : Nat} {t : TypeId} {cs : Array Value} {o : Nat} {x y z u v : Value} (h : Blk w g t cs) (h0 : cs[o]? = some x) (h1 : cs[o + 1]? = some y) (h2 : cs[o + 2]? = some z) (h3 : cs[o + 3]? = some u) (h4 : cs[o + 4]? = some v) : w.rangeAt g o [x, y, z, u, v] := by
  intro q v hq
  match q, hq with
  | 0, hq => cases hq; rw [h.cell]; exact h0
  | 1, hq => cases hq; rw [h.cell]; exact h1
  | 2, hq => cases hq; rw [h.cell]; exact h2
  | 3, hq => cases hq; rw [h.cell]; exact h3
  | 4, hq => cases hq; rw [h.cell]; exact h4
theorem breaks_no {P S : List Int} {er : Int} (hE : hallE P S = er) (h0 : er ≠ 0) (A1 : Option Addr) (n1 c1 : Nat) (A2 : Option Addr) (n2 c2 : Nat) (w : World) (hp : Sl w .i64 A1 n1 P) (hs : Sl w .i64 A2 n2 S) (hn1 : n1 ≤ 1000000) (hn2 : n2 ≤ 1000000) :
    Calls Tryz.prog 5 #[.slice A1 n1 c1, .slice A2 n2 c2] w (fun e w' => e = .returned (.tuple #[.slice none 0 0, .int .i64 er]) ∧ Lat w w') := by
  refine (fBreaks_any A1 n1 c1 P A2 n2 c2 S w hp hs hn1 hn2).mono fun e w' h => ?_
  rcases h.2 with ⟨_, rfl⟩ | ⟨h2, _⟩
  · rw [hE]; exact ⟨rfl, h.1⟩
  · exact absurd (hE.symm.trans h2) h0
theorem unst_no {P S : List Int} {m er : Int} (hE : unstE P S m = er) (h0 : er ≠ 0) (A1 : Option Addr) (n1 c1 : Nat) (A2 : Option Addr) (n2 c2 : Nat) (w : World) (hp : Sl w .i64 A1 n1 P) (hs : Sl w .i64 A2 n2 S) (hn1 : n1 ≤ 1000000) (hn2 : n2 ≤ 1000000) :
    Calls Tryz.prog 6 #[.slice A1 n1 c1, .slice A2 n2 c2, .int .i64 m] w (fun e w' => e = .returned (.tuple #[.slice none 0 0, .int .i64 er]) ∧ Lat w w') := by
  refine (fUnstable_any A1 n1 c1 P A2 n2 c2 S m w hp hs hn1 hn2).mono fun e w' h => ?_
  rcases h.2 with ⟨_, rfl⟩ | ⟨h2, _⟩
  · rw [hE]; exact ⟨rfl, h.1⟩
  · exact absurd (hE.symm.trans h2) h0
theorem unstE_no {P S : List Int} {er : Int} (m : Int) (hE : hallE P S = er) (h0 : er ≠ 0) : unstE P S m = er := by rw [unstE, if_neg (by rw [hE]; exact h0), hE]
theorem biasE_no {P S : List Int} {er : Int} (k : Int) (hE : hallE P S = er) (h0 : er ≠ 0) : biasE P S k = er := by rw [biasE, if_neg (by rw [hE]; exact h0), hE]
theorem biasX_good (P S : List Int) (k : Int) : GoodX (biasX P S k) := by unfold biasX; split; exact gapX_good _ _; exact zA_good
theorem bias_lit {P S : List Int} {k er : Int} (hE : biasE P S k = er) (hf : P.length < 20) : ∃ X, GoodX X ∧ ∀ (A1 : Option Addr) (n1 c1 : Nat) (A2 : Option Addr) (n2 c2 : Nat) (w : World) (_ : Sl w .i64 A1 n1 P) (_ : Sl w .i64 A2 n2 S) (_ : n1 ≤ 1000000) (_ : n2 ≤ 1000000), Calls Tryz.prog 7 #[.slice A1 n1 c1, .slice A2 n2 c2, .int .i64 k] w (ShR w X er) :=
  ⟨_, biasX_good P S k, fun A1 n1 c1 A2 n2 c2 w hp hs hn1 hn2 => hE ▸ fBias_few A1 n1 c1 P A2 n2 c2 S k w hp hs hn1 hn2 hf⟩
theorem kf_h0 : hallE [] [] = 60 := by decide +kernel
theorem kf_h1 : hallE [0] [-1] = 60 := by decide +kernel
theorem kf_h2 : hallE [9, 5, 3] [1, 1] = 2 := by decide +kernel
theorem kf_h3 : hallE [9, 5, 3] [1, 1, 1, 1] = 2 := by decide +kernel
theorem kf_h4 : hallE [9, 5, 3] [0, 0, 0] = 2 := by decide +kernel
theorem kf_h5 : hallE [9, 5, 3] [-1, 1, 1] = 2 := by decide +kernel
theorem kf_h6 : hallE [9, 5, 3] [1000, 1, 0] = 2 := by decide +kernel
theorem kf_h7 : hallE [9, 5, 3] [1001, 0, 0] = 2 := by decide +kernel
theorem kf_m0 : mE 10 1 1 1 1 = 2 ∧ mvE 10 1 1 1 1 = 2 := by decide +kernel
theorem kf_m1 : mE 16 1 1 1 1 = 2 ∧ mvE 16 1 1 1 1 = 2 := by decide +kernel
theorem kf_m2 : mE 14 0 1 1 1 = 2 ∧ mvE 14 0 1 1 1 = 2 := by decide +kernel
theorem kf_m3 : mE 14 1 (-1) 1 1 = 2 ∧ mvE 14 1 (-1) 1 1 = 2 := by decide +kernel
theorem kf_m4 : mE 14 1 1001 1 1 = 2 ∧ mvE 14 1 1001 1 1 = 2 := by decide +kernel
theorem kf_m5 : mE 14 1 1 0 1 = 2 ∧ mvE 14 1 1 0 1 = 2 := by decide +kernel
theorem kf_m6 : mE 14 1 1 1000000001 1 = 2 ∧ mvE 14 1 1 1000000001 1 = 2 := by decide +kernel
theorem kf_m7 : mE 14 1 1 1 1001 = 2 ∧ mvE 14 1 1 1 1001 = 2 := by decide +kernel
theorem kf_x : ∀ j, j < 8 → ∃ m p s q t : Int, (#[(.int .i64 10 : Value), .int .i64 1, .int .i64 1, .int .i64 1, .int .i64 1, .int .i64 16, .int .i64 1, .int .i64 1, .int .i64 1, .int .i64 1, .int .i64 14, .int .i64 0, .int .i64 1, .int .i64 1, .int .i64 1, .int .i64 14, .int .i64 1, .int .i64 (-1), .int .i64 1, .int .i64 1, .int .i64 14, .int .i64 1, .int .i64 1001, .int .i64 1, .int .i64 1, .int .i64 14, .int .i64 1, .int .i64 1, .int .i64 0, .int .i64 1, .int .i64 14, .int .i64 1, .int .i64 1, .int .i64 1000000001, .int .i64 1, .int .i64 14, .int .i64 1, .int .i64 1, .int .i64 1, .int .i64 1001] : Array Value)[j * 5]? = some (.int .i64 m) ∧ (#[(.int .i64 10 : Value), .int .i64 1, .int .i64 1, .int .i64 1, .int .i64 1, .int .i64 16, .int .i64 1, .int .i64 1, .int .i64 1, .int .i64 1, .int .i64 14, .int .i64 0, .int .i64 1, .int .i64 1, .int .i64 1, .int .i64 14, .int .i64 1, .int .i64 (-1), .int .i64 1, .int .i64 1, .int .i64 14, .int .i64 1, .int .i64 1001, .int .i64 1, .int .i64 1, .int .i64 14, .int .i64 1, .int .i64 1, .int .i64 0, .int .i64 1, .int .i64 14, .int .i64 1, .int .i64 1, .int .i64 1000000001, .int .i64 1, .int .i64 14, .int .i64 1, .int .i64 1, .int .i64 1, .int .i64 1001] : Array Value)[j * 5 + 1]? = some (.int .i64 p) ∧ (#[(.int .i64 10 : Value), .int .i64 1, .int .i64 1, .int .i64 1, .int .i64 1, .int .i64 16, .int .i64 1, .int .i64 1, .int .i64 1, .int .i64 1, .int .i64 14, .int .i64 0, .int .i64 1, .int .i64 1, .int .i64 1, .int .i64 14, .int .i64 1, .int .i64 (-1), .int .i64 1, .int .i64 1, .int .i64 14, .int .i64 1, .int .i64 1001, .int .i64 1, .int .i64 1, .int .i64 14, .int .i64 1, .int .i64 1, .int .i64 0, .int .i64 1, .int .i64 14, .int .i64 1, .int .i64 1, .int .i64 1000000001, .int .i64 1, .int .i64 14, .int .i64 1, .int .i64 1, .int .i64 1, .int .i64 1001] : Array Value)[j * 5 + 2]? = some (.int .i64 s) ∧ (#[(.int .i64 10 : Value), .int .i64 1, .int .i64 1, .int .i64 1, .int .i64 1, .int .i64 16, .int .i64 1, .int .i64 1, .int .i64 1, .int .i64 1, .int .i64 14, .int .i64 0, .int .i64 1, .int .i64 1, .int .i64 1, .int .i64 14, .int .i64 1, .int .i64 (-1), .int .i64 1, .int .i64 1, .int .i64 14, .int .i64 1, .int .i64 1001, .int .i64 1, .int .i64 1, .int .i64 14, .int .i64 1, .int .i64 1, .int .i64 0, .int .i64 1, .int .i64 14, .int .i64 1, .int .i64 1, .int .i64 1000000001, .int .i64 1, .int .i64 14, .int .i64 1, .int .i64 1, .int .i64 1, .int .i64 1001] : Array Value)[j * 5 + 3]? = some (.int .i64 q) ∧ (#[(.int .i64 10 : Value), .int .i64 1, .int .i64 1, .int .i64 1, .int .i64 1, .int .i64 16, .int .i64 1, .int .i64 1, .int .i64 1, .int .i64 1, .int .i64 14, .int .i64 0, .int .i64 1, .int .i64 1, .int .i64 1, .int .i64 14, .int .i64 1, .int .i64 (-1), .int .i64 1, .int .i64 1, .int .i64 14, .int .i64 1, .int .i64 1001, .int .i64 1, .int .i64 1, .int .i64 14, .int .i64 1, .int .i64 1, .int .i64 0, .int .i64 1, .int .i64 14, .int .i64 1, .int .i64 1, .int .i64 1000000001, .int .i64 1, .int .i64 14, .int .i64 1, .int .i64 1, .int .i64 1, .int .i64 1001] : Array Value)[j * 5 + 4]? = some (.int .i64 t) ∧ mE m p s q t = 2 ∧ mvE m p s q t = 2 := by
  intro j hj
  match j, hj with
  | 0, _ => exact ⟨10, 1, 1, 1, 1, rfl, rfl, rfl, rfl, rfl, kf_m0.1, kf_m0.2⟩
  | 1, _ => exact ⟨16, 1, 1, 1, 1, rfl, rfl, rfl, rfl, rfl, kf_m1.1, kf_m1.2⟩
  | 2, _ => exact ⟨14, 0, 1, 1, 1, rfl, rfl, rfl, rfl, rfl, kf_m2.1, kf_m2.2⟩
  | 3, _ => exact ⟨14, 1, -1, 1, 1, rfl, rfl, rfl, rfl, rfl, kf_m3.1, kf_m3.2⟩
  | 4, _ => exact ⟨14, 1, 1001, 1, 1, rfl, rfl, rfl, rfl, rfl, kf_m4.1, kf_m4.2⟩
  | 5, _ => exact ⟨14, 1, 1, 0, 1, rfl, rfl, rfl, rfl, rfl, kf_m5.1, kf_m5.2⟩
  | 6, _ => exact ⟨14, 1, 1, 1000000001, 1, rfl, rfl, rfl, rfl, rfl, kf_m6.1, kf_m6.2⟩
  | 7, _ => exact ⟨14, 1, 1, 1, 1001, rfl, rfl, rfl, rfl, rfl, kf_m7.1, kf_m7.2⟩
theorem kf_a : mvE 14 1 0 1 1 = 2 := by decide +kernel
theorem kf_b : mvE 14 1 1 1 1000 = 2 := by decide +kernel
theorem kf_d : unstE [9, 5, 3] [1, 1, 1] 16 = 2 := by decide +kernel
theorem kf_e : biasE [9, 5, 3] [1, 1, 1] 0 = 2 := by decide +kernel
theorem kf_f : biasE [9, 5, 3] [1, 1, 1] 2 = 2 := by decide +kernel
theorem kf_g : biasE [9, 5, 3] [1, 1, 0] 1 = 7 := by decide +kernel
theorem kf_h : biasE [4, 0, 0] [1, 0, 0] 1 = 2 := by decide +kernel
theorem kf_i : mvH 12 4 1 5 0 = false ∧ mvE 12 4 1 5 0 = 0 := by constructor <;> kernel_rfl
theorem kf_j : mvH 13 4 2 5 0 = true ∧ mvE 13 4 2 5 0 = 0 := by constructor <;> kernel_rfl
theorem kf_l : mX 15 1 1000 1000000000 0 = shA 1000000000000 1 ∧ mE 15 1 1000 1000000000 0 = 0 := by constructor <;> kernel_rfl
theorem lm_11_7_0_5_0_0_1 (w : World) : Calls Tryz.prog 12 #[.int .i64 11, .int .i64 7, .int .i64 0, .int .i64 5, .int .i64 0, .int .i64 0, .int .i64 1] w (Yes9 w) := law_measures 11 7 0 5 0 0 1 w (by decide) (by decide) (by decide) (by decide) (by constructor <;> kernel_rfl) (by constructor <;> kernel_rfl)
set_option maxRecDepth 100000
theorem name10 {w : World} {t1 t2 t3 t4 t5 t6 t7 t8 t9 t10 : TypeId} {c1 c2 c3 c4 c5 c6 c7 c8 c9 c10 : Array Value} {Q : World → Prop}
    (h : ∀ W, Lat w W → w.heap.size + 9 < W.heap.size → Blk W (w.heap.size) t1 c1 → Blk W (w.heap.size + 1) t2 c2 → Blk W (w.heap.size + 1 + 1) t3 c3 → Blk W (w.heap.size + 1 + 1 + 1) t4 c4 → Blk W (w.heap.size + 1 + 1 + 1 + 1) t5 c5 → Blk W (w.heap.size + 1 + 1 + 1 + 1 + 1) t6 c6 → Blk W (w.heap.size + 1 + 1 + 1 + 1 + 1 + 1) t7 c7 → Blk W (w.heap.size + 1 + 1 + 1 + 1 + 1 + 1 + 1) t8 c8 → Blk W (w.heap.size + 1 + 1 + 1 + 1 + 1 + 1 + 1 + 1) t9 c9 → Blk W (w.heap.size + 1 + 1 + 1 + 1 + 1 + 1 + 1 + 1 + 1) t10 c10 → Q W) : Q ((((((((((w.alloc (.cells c1 t1)).alloc (.cells c2 t2)).alloc (.cells c3 t3)).alloc (.cells c4 t4)).alloc (.cells c5 t5)).alloc (.cells c6 t6)).alloc (.cells c7 t7)).alloc (.cells c8 t8)).alloc (.cells c9 t9)).alloc (.cells c10 t10)) :=
  h _ ((((((((((Lat.alloc _ _).trans (Lat.alloc _ _)).trans (Lat.alloc _ _)).trans (Lat.alloc _ _)).trans (Lat.alloc _ _)).trans (Lat.alloc _ _)).trans (Lat.alloc _ _)).trans (Lat.alloc _ _)).trans (Lat.alloc _ _)).trans (Lat.alloc _ _)) (by simp) (by have := (((((((((Blk.new w t1 c1).alloc (.cells c2 t2)).alloc (.cells c3 t3)).alloc (.cells c4 t4)).alloc (.cells c5 t5)).alloc (.cells c6 t6)).alloc (.cells c7 t7)).alloc (.cells c8 t8)).alloc (.cells c9 t9)).alloc (.cells c10 t10); simpa using this)
    (by have := ((((((((Blk.new (w.alloc (.cells c1 t1)) t2 c2).alloc (.cells c3 t3)).alloc (.cells c4 t4)).alloc (.cells c5 t5)).alloc (.cells c6 t6)).alloc (.cells c7 t7)).alloc (.cells c8 t8)).alloc (.cells c9 t9)).alloc (.cells c10 t10); simpa using this)
    (by have := (((((((Blk.new ((w.alloc (.cells c1 t1)).alloc (.cells c2 t2)) t3 c3).alloc (.cells c4 t4)).alloc (.cells c5 t5)).alloc (.cells c6 t6)).alloc (.cells c7 t7)).alloc (.cells c8 t8)).alloc (.cells c9 t9)).alloc (.cells c10 t10); simpa using this)
    (by have := ((((((Blk.new (((w.alloc (.cells c1 t1)).alloc (.cells c2 t2)).alloc (.cells c3 t3)) t4 c4).alloc (.cells c5 t5)).alloc (.cells c6 t6)).alloc (.cells c7 t7)).alloc (.cells c8 t8)).alloc (.cells c9 t9)).alloc (.cells c10 t10); simpa using this)
    (by have := (((((Blk.new ((((w.alloc (.cells c1 t1)).alloc (.cells c2 t2)).alloc (.cells c3 t3)).alloc (.cells c4 t4)) t5 c5).alloc (.cells c6 t6)).alloc (.cells c7 t7)).alloc (.cells c8 t8)).alloc (.cells c9 t9)).alloc (.cells c10 t10); simpa using this)
    (by have := ((((Blk.new (((((w.alloc (.cells c1 t1)).alloc (.cells c2 t2)).alloc (.cells c3 t3)).alloc (.cells c4 t4)).alloc (.cells c5 t5)) t6 c6).alloc (.cells c7 t7)).alloc (.cells c8 t8)).alloc (.cells c9 t9)).alloc (.cells c10 t10); simpa using this)
    (by have := (((Blk.new ((((((w.alloc (.cells c1 t1)).alloc (.cells c2 t2)).alloc (.cells c3 t3)).alloc (.cells c4 t4)).alloc (.cells c5 t5)).alloc (.cells c6 t6)) t7 c7).alloc (.cells c8 t8)).alloc (.cells c9 t9)).alloc (.cells c10 t10); simpa using this)
    (by have := ((Blk.new (((((((w.alloc (.cells c1 t1)).alloc (.cells c2 t2)).alloc (.cells c3 t3)).alloc (.cells c4 t4)).alloc (.cells c5 t5)).alloc (.cells c6 t6)).alloc (.cells c7 t7)) t8 c8).alloc (.cells c9 t9)).alloc (.cells c10 t10); simpa using this)
    (by have := (Blk.new ((((((((w.alloc (.cells c1 t1)).alloc (.cells c2 t2)).alloc (.cells c3 t3)).alloc (.cells c4 t4)).alloc (.cells c5 t5)).alloc (.cells c6 t6)).alloc (.cells c7 t7)).alloc (.cells c8 t8)) t9 c9).alloc (.cells c10 t10); simpa using this)
    (by have := Blk.new (((((((((w.alloc (.cells c1 t1)).alloc (.cells c2 t2)).alloc (.cells c3 t3)).alloc (.cells c4 t4)).alloc (.cells c5 t5)).alloc (.cells c6 t6)).alloc (.cells c7 t7)).alloc (.cells c8 t8)).alloc (.cells c9 t9)) t10 c10; simpa using this)
noncomputable def fk3_rows (Y : List Value) (A1 : Option Addr) (c1 : Nat) : List SRow := [
  ⟨Op.move (Operand.tmp 17), some 217, none, [], fun v _ => v = .int .i64 2⟩,
  ⟨Op.binOp BinOp.eql 24 (Operand.tmp 217) (Operand.const (Value.int IntKind.i64 2)) 24, some 218, none, [0], fun v _ => v = .bool true⟩,
  ⟨Op.move (Operand.tmp 218), some 219, none, [1], fun v _ => v = .bool true⟩,
  ⟨Op.move (Operand.tmp 19), some 220, some (2, true), [2], fun v _ => v = .int .i64 2⟩,
  ⟨Op.binOp BinOp.eql 24 (Operand.tmp 220) (Operand.const (Value.int IntKind.i64 2)) 24, some 221, some (2, true), [3, 2], fun v _ => v = .bool true⟩,
  ⟨Op.pick (Operand.tmp 219) (Operand.tmp 221) (Operand.const (Value.bool false)), some 222, none, [2, 4], fun v _ => v = .bool true⟩,
  ⟨Op.move (Operand.tmp 222), some 223, none, [5, 2], fun v _ => v = .bool true⟩,
  ⟨Op.move (Operand.tmp 21), some 224, some (6, true), [6], fun v _ => v = .int .i64 2⟩,
  ⟨Op.binOp BinOp.eql 24 (Operand.tmp 224) (Operand.const (Value.int IntKind.i64 2)) 24, some 225, some (6, true), [7, 6], fun v _ => v = .bool true⟩,
  ⟨Op.pick (Operand.tmp 223) (Operand.tmp 225) (Operand.const (Value.bool false)), some 226, none, [6, 8], fun v _ => v = .bool true⟩,
  ⟨Op.move (Operand.tmp 226), some 227, none, [9, 6], fun v _ => v = .bool true⟩,
  ⟨Op.move (Operand.tmp 23), some 228, some (10, true), [10], fun v _ => v = .int .i64 2⟩,
  ⟨Op.binOp BinOp.eql 24 (Operand.tmp 228) (Operand.const (Value.int IntKind.i64 2)) 24, some 229, some (10, true), [11, 10], fun v _ => v = .bool true⟩,
  ⟨Op.pick (Operand.tmp 227) (Operand.tmp 229) (Operand.const (Value.bool false)), some 230, none, [10, 12], fun v _ => v = .bool true⟩,
  ⟨Op.move (Operand.tmp 230), some 231, none, [13, 10], fun v _ => v = .bool true⟩,
  ⟨Op.move (Operand.tmp 25), some 232, some (14, true), [14], fun v _ => v = .int .i64 2⟩,
  ⟨Op.binOp BinOp.eql 24 (Operand.tmp 232) (Operand.const (Value.int IntKind.i64 2)) 24, some 233, some (14, true), [15, 14], fun v _ => v = .bool true⟩,
  ⟨Op.pick (Operand.tmp 231) (Operand.tmp 233) (Operand.const (Value.bool false)), some 234, none, [14, 16], fun v _ => v = .bool true⟩,
  ⟨Op.move (Operand.tmp 234), some 235, none, [17, 14], fun v _ => v = .bool true⟩,
  ⟨Op.move (Operand.tmp 27), some 236, some (18, true), [18], fun v _ => v = .int .i64 7⟩,
  ⟨Op.binOp BinOp.eql 24 (Operand.tmp 236) (Operand.const (Value.int IntKind.i64 7)) 24, some 237, some (18, true), [19, 18], fun v _ => v = .bool true⟩,
  ⟨Op.pick (Operand.tmp 235) (Operand.tmp 237) (Operand.const (Value.bool false)), some 238, none, [18, 20], fun v _ => v = .bool true⟩,
  ⟨Op.move (Operand.tmp 238), some 239, none, [21, 18], fun v _ => v = .bool true⟩,
  ⟨Op.move (Operand.tmp 29), some 240, some (22, true), [22], fun v _ => v = .int .i64 2⟩,
  ⟨Op.binOp BinOp.eql 24 (Operand.tmp 240) (Operand.const (Value.int IntKind.i64 2)) 24, some 241, some (22, true), [23, 22], fun v _ => v = .bool true⟩,
  ⟨Op.pick (Operand.tmp 239) (Operand.tmp 241) (Operand.const (Value.bool false)), some 242, none, [22, 24], fun v _ => v = .bool true⟩,
  ⟨Op.move (Operand.tmp 242), some 243, none, [25, 22], fun v _ => v = .bool true⟩,
  ⟨Op.move (Operand.tmp 30), some 244, some (26, true), [26], fun v _ => v = .bool false⟩,
  ⟨Op.unOp UnOp.not 4 (Operand.tmp 244), some 245, some (26, true), [27, 26], fun v _ => v = .bool true⟩,
  ⟨Op.pick (Operand.tmp 243) (Operand.tmp 245) (Operand.const (Value.bool false)), some 246, none, [26, 28], fun v _ => v = .bool true⟩,
  ⟨Op.move (Operand.tmp 246), some 247, none, [29, 26], fun v _ => v = .bool true⟩,
  ⟨Op.move (Operand.tmp 31), some 248, some (30, true), [30], fun v _ => v = .int .i64 0⟩,
  ⟨Op.binOp BinOp.eql 24 (Operand.tmp 248) (Operand.const (Value.int IntKind.i64 0)) 24, some 249, some (30, true), [31, 30], fun v _ => v = .bool true⟩,
  ⟨Op.pick (Operand.tmp 247) (Operand.tmp 249) (Operand.const (Value.bool false)), some 250, none, [30, 32], fun v _ => v = .bool true⟩,
  ⟨Op.move (Operand.tmp 250), some 251, none, [33, 30], fun v _ => v = .bool true⟩,
  ⟨Op.move (Operand.tmp 32), some 252, some (34, true), [34], fun v _ => v = .bool true⟩,
  ⟨Op.pick (Operand.tmp 251) (Operand.tmp 252) (Operand.const (Value.bool false)), some 253, none, [34, 35], fun v _ => v = .bool true⟩,
  ⟨Op.move (Operand.tmp 253), some 254, none, [36, 34], fun v _ => v = .bool true⟩,
  ⟨Op.move (Operand.tmp 33), some 255, some (37, true), [37], fun v _ => v = .int .i64 0⟩,
  ⟨Op.binOp BinOp.eql 24 (Operand.tmp 255) (Operand.const (Value.int IntKind.i64 0)) 24, some 256, some (37, true), [38, 37], fun v _ => v = .bool true⟩,
  ⟨Op.pick (Operand.tmp 254) (Operand.tmp 256) (Operand.const (Value.bool false)), some 257, none, [37, 39], fun v _ => v = .bool true⟩,
  ⟨Op.move (Operand.tmp 257), some 258, none, [40, 37], fun v _ => v = .bool true⟩,
  ⟨Op.move (Operand.tmp 34), some 259, some (41, true), [41], fun v _ => v = .slice A1 3 c1⟩,
  ⟨Op.build 44 #[(0, Operand.const (Value.int IntKind.i64 0)), (1, Operand.const (Value.int IntKind.i64 1))], some 260, some (41, true), [41], fun v _ => v = .agg #[.int .i64 0, .int .i64 1]⟩,
  ⟨Op.build 44 #[(0, Operand.const (Value.int IntKind.i64 1)), (1, Operand.const (Value.int IntKind.i64 (-1)))], some 261, some (41, true), [41], fun v _ => v = .agg #[.int .i64 1, .int .i64 (-1)]⟩,
  ⟨Op.build 44 #[(0, Operand.const (Value.int IntKind.i64 2)), (1, Operand.const (Value.int IntKind.i64 (-1)))], some 262, some (41, true), [41], fun v _ => v = .agg #[.int .i64 2, .int .i64 (-1)]⟩,
  ⟨Op.buildSlice 27 3 #[(0, Operand.tmp 260), (1, Operand.tmp 261), (2, Operand.tmp 262)], some 263, some (41, true), [43, 44, 45, 41], fun v w => ∃ g : Nat, v = .slice (some ⟨g, 0, none⟩) 3 3 ∧ Blk w g 44 #[.int .i64 0, .int .i64 1, .int .i64 1, .int .i64 (-1), .int .i64 2, .int .i64 (-1)]⟩,
  ⟨Op.call { callee := Callee.value (Operand.func 10), args := #[Operand.tmp 259, Operand.tmp 263], argTypes := #[27, 27] }, some 264, some (41, true), [42, 46, 41, 41], fun v _ => v = .bool true⟩,
  ⟨Op.pick (Operand.tmp 258) (Operand.tmp 264) (Operand.const (Value.bool false)), some 265, none, [41, 47], fun v _ => v = .bool true⟩,
  ⟨Op.move (Operand.tmp 265), some 266, none, [48, 47], fun v _ => v = .bool true⟩,
  ⟨Op.move (Operand.tmp 35), some 267, some (49, true), [49], fun v _ => v = .int .i64 0⟩,
  ⟨Op.binOp BinOp.eql 24 (Operand.tmp 267) (Operand.const (Value.int IntKind.i64 0)) 24, some 268, some (49, true), [50, 49], fun v _ => v = .bool true⟩,
  ⟨Op.pick (Operand.tmp 266) (Operand.tmp 268) (Operand.const (Value.bool false)), some 269, none, [49, 51], fun v _ => v = .bool true⟩,
  ⟨Op.move (Operand.tmp 269), some 270, none, [52, 49], fun v _ => v = .bool true⟩,
  ⟨Op.load 35 (Operand.tmp 36), some 271, some (53, true), [53], fun v _ => v = .agg Y.toArray⟩,
  ⟨Op.call { callee := Callee.value (Operand.func 11), args := #[Operand.const (Value.int IntKind.i64 1000000000000), Operand.const (Value.int IntKind.i64 1)], argTypes := #[3, 3] }, some 272, some (53, true), [53, 53], fun v _ => v = .agg Y.toArray⟩,
  ⟨Op.binOp BinOp.eql 35 (Operand.tmp 271) (Operand.tmp 272) 35, some 273, some (53, true), [54, 55, 53], fun v _ => v = .bool true⟩,
  ⟨Op.pick (Operand.tmp 270) (Operand.tmp 273) (Operand.const (Value.bool false)), some 274, none, [53, 56], fun v _ => v = .bool true⟩,
  ⟨Op.move (Operand.tmp 274), some 275, none, [57, 55], fun v _ => v = .bool true⟩,
  ⟨Op.move (Operand.tmp 37), some 276, some (58, true), [58], fun v _ => v = .int .i64 0⟩,
  ⟨Op.binOp BinOp.eql 24 (Operand.tmp 276) (Operand.const (Value.int IntKind.i64 0)) 24, some 277, some (58, true), [59, 58], fun v _ => v = .bool true⟩,
  ⟨Op.pick (Operand.tmp 275) (Operand.tmp 277) (Operand.const (Value.bool false)), some 278, none, [58, 60], fun v _ => v = .bool true⟩,
  ⟨Op.move (Operand.tmp 278), some 279, none, [61, 58], fun v _ => v = .bool true⟩,
  ⟨Op.call { callee := Callee.value (Operand.func 12), args := #[Operand.const (Value.int IntKind.i64 11), Operand.const (Value.int IntKind.i64 7), Operand.const (Value.int IntKind.i64 0), Operand.const (Value.int IntKind.i64 5), Operand.const (Value.int IntKind.i64 0), Operand.const (Value.int IntKind.i64 0), Operand.const (Value.int IntKind.i64 1)], argTypes := #[3, 3, 3, 3, 3, 3, 3] }, some 280, some (62, true), [62, 62], fun v _ => v = .bool true⟩,
  ⟨Op.pick (Operand.tmp 279) (Operand.tmp 280) (Operand.const (Value.bool false)), some 281, none, [62, 63], fun v _ => v = .bool true⟩,
  ⟨Op.assign (Operand.tmp 281), some 0, none, [64, 63, 0, 1, 2, 3, 4, 5, 6, 7, 8, 9, 10, 11, 12, 13, 14, 15, 16, 17, 18, 19, 20, 21, 22, 23, 24, 25, 26, 27, 28, 29, 30, 31, 32, 33, 34, 35, 36, 37, 38, 39, 40, 41, 42, 43, 44, 45, 46, 47, 48, 49, 50, 51, 52, 53, 54, 55, 56, 57, 58, 59, 60, 61, 62, 63, 64], fun v _ => v = .bool true⟩]
noncomputable def fk3_base (b36 : Nat) (A1 : Option Addr) (c1 : Nat) : List (Nat × Value) := [(17, .int .i64 2), (19, .int .i64 2), (21, .int .i64 2), (23, .int .i64 2), (25, .int .i64 2), (27, .int .i64 7), (29, .int .i64 2), (30, .bool false), (31, .int .i64 0), (32, .bool true), (33, .int .i64 0), (34, .slice A1 3 c1), (35, .int .i64 0), (36, .pointer (some ⟨b36, 0, none⟩)), (37, .int .i64 0)]
end Go.Proofs.YtkjnjooggicgiaaGreat
