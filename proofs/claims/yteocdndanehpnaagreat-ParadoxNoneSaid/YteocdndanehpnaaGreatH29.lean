/- Several texts in one: Inv, InvL, InvM, InvG, InvH, InvN, InvO, InvP. -/
import Derived.Test.YteocdndanehpnaaGreatH01
import Derived.Orders
import Derived.OrdersHeld
import Derived.OwnWalkIn
import Derived.Test.YteocdndanehpnaaGreatH17
namespace Go.Proofs.YteocdndanehpnaaGreat
open Go.RowKit
set_option linter.unusedSimpArgs false
section
def depsOf (ops : Array Oper) : List (List Nat) := ops.toList.map fun o => (o.after.toList.filter (Region.binds .any)).map (·.on)
structure MaskIs (listed : Array Bool) (n m : Nat) : Prop where
 size : listed.size = n
 bit : ∀ i, i < n → listed[i]? = some (m.testBit i)
theorem MaskIs.zero (n : Nat) : MaskIs (Array.replicate n false) n 0 := ⟨by simp, fun i hi => by simp [hi]⟩
theorem MaskIs.set {listed : Array Bool} {n m : Nat} (h : MaskIs listed n m) (i : Nat) : MaskIs (listed.setIfInBounds i true) n (m ||| 2 ^ i) :=
 ⟨by simp [h.size], fun j hj => by
  rw [Nat.testBit_or, Nat.testBit_two_pow]
  by_cases e : i = j
  ·subst e
   simp [h.size, hj]
  ·rw [Array.getElem?_setIfInBounds_ne e, h.bit j hj]
   simp [e]⟩
theorem MaskIs.getD {listed : Array Bool} {n m i : Nat} (h : MaskIs listed n m) (hi : i < n) (d : Bool) : listed.getD i d = m.testBit i := by
 rw [Array.getD_eq_getD_getElem?, h.bit i hi]; rfl
def leftM (n m : Nat) : Nat := (List.range n).countP fun i => !m.testBit i
theorem countP_less {p q : Nat → Bool} : ∀ {l : List Nat}, (∀ x, p x = true → q x = true) → ∀ {i : Nat}, i ∈ l → p i = false → q i = true → l.countP p < l.countP q
 | [], _, _, hi, _, _ => by cases hi
 | y :: r, h, i, hi, hp, hq => by
   rw [List.countP_cons, List.countP_cons]
   have h2 : r.countP p ≤ r.countP q := List.countP_mono_left (fun x _ => h x)
   rcases List.mem_cons.1 hi with rfl | hi
   ·rw [hp, hq]; simp; omega
   ·have h3 := countP_less h hi hp hq
    have h4 := h y
    cases e1 : p y <;> cases e2 : q y <;> simp_all <;> omega
theorem leftM_less {n m i : Nat} (hi : i < n) (h : m.testBit i = false) : leftM n (m ||| 2 ^ i) < leftM n m := by
 refine countP_less (fun x hx => ?_) (List.mem_range.2 hi) ?_ (by simp [h])
 ·simp only [Nat.testBit_or, Bool.not_or, Bool.and_eq_true] at hx
  exact hx.1
 ·simp [Nat.testBit_or, Nat.testBit_two_pow_self]
theorem leftM_all {n m : Nat} (h : leftM n m = 0) : ∀ i, i < n → m.testBit i = true := by
 intro i hi
 have := (List.countP_eq_zero.1 h) i (List.mem_range.2 hi)
 simpa using this
end
section
variable {P : Program} {ops : Array Oper} {Q : Exit → Act → World → Prop}
def InvStep (P : Program) (ops : Array Oper) (Q : Exit → Act → World → Prop) (I : Nat → Act → World → Prop) (i : Nat) : Prop :=
 ∀ (o : Oper) (m : Nat) (a : Act) (w : World), ops[i]? = some o → m.testBit i = false → (∀ j ∈ ((depsOf ops)[i]?).getD [], m.testBit j = true) → I m a w →
  wpOp P ops Q i (I (m ||| 2 ^ i)) a w
theorem wpAny_inv {n : Nat} (hn : ops.size = n) {tbl : List (List Nat)} (ht : depsOf ops = tbl) (hd : ((List.range n).all fun i => ((tbl[i]?).getD []).all fun j => decide (j < i)) = true)
  {I : Nat → Act → World → Prop} (hstep : ∀ i, i < n → InvStep P ops Q I i) (hend : ∀ m a w, (∀ i, i < n → m.testBit i = true) → I m a w → Q .normal a w) :
  ∀ (fuel : Nat) (listed : Array Bool) (m : Nat) (a : Act) (w : World), MaskIs listed n m → leftM n m ≤ fuel → I m a w → wpAny P .any ops Q fuel listed a w := by
 have hready : ∀ (listed : Array Bool) (m : Nat), MaskIs listed n m → Region.ready .any ops listed = [] → ∀ i, i < n → m.testBit i = true := by
  intro listed m hm hr i
  induction i using Nat.strongRecOn with
  | ind i ih =>
    intro hi
    cases hb : m.testBit i with
    | true => rfl
    | false =>
      exfalso
      have hlt : i < ops.size := by omega
      have : i ∈ Region.ready .any ops listed := by
       refine mem_ready.2 ⟨by rw [hm.getD hi, hb], ops[i], Array.getElem?_eq_getElem hlt, fun e he hbd => ?_⟩
       have hmem : e.on ∈ ((tbl[i]?).getD []) := by
        rw [← ht]
        unfold depsOf
        rw [List.getElem?_map, Array.getElem?_toList, Array.getElem?_eq_getElem hlt]
        simp only [Option.map_some, Option.getD_some]
        exact List.mem_map.2 ⟨e, List.mem_filter.2 ⟨Array.mem_toList_iff.2 he, hbd⟩, rfl⟩
       have h1 := List.all_eq_true.1 hd i (List.mem_range.2 hi)
       have h2 := of_decide_eq_true (List.all_eq_true.1 h1 _ hmem)
       rw [hm.getD (by omega)]
       exact ih _ h2 (by omega)
      rw [hr] at this
      cases this
 intro fuel
 induction fuel with
 | zero =>
   intro listed m a w hm hl hI
   have hall := leftM_all (Nat.le_zero.1 hl)
   refine ⟨?_, hend _ _ _ hall hI⟩
   refine List.eq_nil_iff_forall_not_mem.2 fun i hi => ?_
   obtain ⟨h1, o, h2, _⟩ := mem_ready.1 hi
   have hin : i < n := by rw [← hn]; exact (Array.getElem?_eq_some_iff.1 h2).1
   rw [hm.getD hin, hall i hin] at h1
   cases h1
 | succ fuel ih =>
   intro listed m a w hm hl hI
   refine ⟨fun hr => hend _ _ _ (hready listed m hm hr) hI, fun i hi => ?_⟩
   obtain ⟨h1, o, h2, h3⟩ := mem_ready.1 hi
   have hin : i < n := by rw [← hn]; exact (Array.getElem?_eq_some_iff.1 h2).1
   rw [hm.getD hin] at h1
   refine wpOp_mono (fun a' w' h => ih _ _ a' w' (hm.set i) ?_ h) (hstep i hin o m a w h2 h1 ?_ hI)
   ·have := leftM_less hin h1; omega
   ·intro j hj
    have hj' : ∃ e ∈ o.after, Region.binds .any e = true ∧ e.on = j := by
     unfold depsOf at hj
     rw [List.getElem?_map, Array.getElem?_toList, h2] at hj
     simp only [Option.map_some, Option.getD_some] at hj
     obtain ⟨e, he, rfl⟩ := List.mem_map.1 hj
     obtain ⟨h4, h5⟩ := List.mem_filter.1 he
     exact ⟨e, Array.mem_toList_iff.1 h4, h5, rfl⟩
    obtain ⟨e, he, hb, rfl⟩ := hj'
    have h4 := h3 e he hb
    by_cases hjn : e.on < n
    ·rw [hm.getD hjn] at h4; exact h4
    ·rw [Array.getD_eq_getD_getElem?, Array.getElem?_eq_none (by rw [hm.size]; omega)] at h4
     cases h4
theorem wp_region_inv {id : Nat} {a : Act} {w : World} (n : Nat) (tbl : List (List Nat)) (I : Nat → Act → World → Prop) (hm : P.follows .mixedOrders = true) (hn : ops.size = n) (ht : depsOf ops = tbl)
  (hd : ((List.range n).all fun i => ((tbl[i]?).getD []).all fun j => decide (j < i)) = true) (h0 : I 0 a w.drew) (hstep : ∀ i, i < n → InvStep P ops Q I i)
  (hend : ∀ m a w, (∀ i, i < n → m.testBit i = true) → I m a w → Q .normal a w) : (Code.region id ops true).wp P Q a w := by
 refine wp_region_any hm ?_
 refine wpAny_inv hn ht hd hstep hend _ _ 0 _ _ (by rw [hn]; exact MaskIs.zero n) ?_ h0
 rw [hn]
 exact Nat.le_trans List.countP_le_length (by simp)
end
structure SRow where
 op : Op
 dst : Option Tmp
 guard : Option (Nat × Bool)
 deps : List Nat
 V : Value → World → Prop
def SRow.key (r : SRow) : Op × Option Tmp × Option (Nat × Bool) × List Nat := (r.op, r.dst, r.guard, r.deps)
def keyO (o : Oper) : Op × Option Tmp × Option (Nat × Bool) × List Nat := (o.op, o.dst, o.guard, (o.after.toList.filter (Region.binds .any)).map (·.on))
def Runs (P : Program) (o : Oper) (ev : Operand → Value) (w : World) (R : Value → World → Prop) : Prop :=
 (∃ v w', (execOp ev o).run P w = .ok (.value v) w' ∧ R v w') ∨ (∃ f args, (execOp ev o).run P w = .ok (.enter f args) w ∧ Calls P f args w (fun e w' => ∃ v, e = .returned v ∧ R v w'))
def Slot (a : Act) (d : Tmp) (v : Value) : Prop := a.tmps[d]? = some v
theorem Slot.ev {a : Act} {d : Tmp} {v : Value} (h : Slot a d v) : a.eval (.tmp d) = v := by
 unfold Slot at h
 simp [Act.eval, h]
structure SInv (rows : List SRow) (base : List (Nat × Value)) (N : Nat) (W0 : World) (m : Nat) (a : Act) (w : World) : Prop where
 size : a.tmps.size = N
 defers : a.defers = []
 lat : Lat W0 w
 base : ∀ k v, base.lookup k = some v → Slot a k v
 slot : ∀ (j : Nat) (r : SRow) (d : Tmp), m.testBit j = true → rows[j]? = some r → r.dst = some d → ∃ v, Slot a d v ∧ r.V v w
def distinct (rows : List SRow) (base : List (Nat × Value)) (N : Nat) : Bool :=
 let ds := rows.filterMap (·.dst)
 ds.all (fun d => decide (d < N) && (base.lookup d).isNone) && go ds
where go : List Nat → Bool
 | [] => true
 | d :: r => !r.contains d && go r
theorem go_inj {rows : List SRow} (h : distinct.go (rows.filterMap (·.dst)) = true) : ∀ {i j : Nat} {ri rj : SRow} {d : Tmp}, rows[i]? = some ri → rows[j]? = some rj → ri.dst = some d → rj.dst = some d → i = j := by
 induction rows with
 | nil => intro i j ri rj d h1; simp at h1
 | cons r rs ih =>
   have htail : distinct.go (rs.filterMap (·.dst)) = true := by
    rw [List.filterMap_cons] at h
    cases hr : r.dst with
    | none => rw [hr] at h; exact h
    | some d => rw [hr] at h; simp only [distinct.go, Bool.and_eq_true] at h; exact h.2
   have hfresh : ∀ {d : Tmp} {j : Nat} {rj : SRow}, r.dst = some d → rs[j]? = some rj → rj.dst = some d → False := by
    intro d j rj hr h1 h2
    rw [List.filterMap_cons, hr] at h
    simp only [distinct.go, Bool.and_eq_true, Bool.not_eq_true'] at h
    have hm : d ∈ rs.filterMap (·.dst) := List.mem_filterMap.2 ⟨rj, List.mem_of_getElem? h1, h2⟩
    have := h.1
    rw [List.contains_eq_mem] at this
    simp [hm] at this
   intro i j ri rj d h1 h2 h3 h4
   cases i with
   | zero =>
     simp only [List.getElem?_cons_zero, Option.some.injEq] at h1
     subst h1
     cases j with
     | zero => rfl
     | succ j => exact (hfresh h3 (by simpa using h2) h4).elim
   | succ i =>
     cases j with
     | zero =>
       simp only [List.getElem?_cons_zero, Option.some.injEq] at h2
       subst h2
       exact (hfresh h4 (by simpa using h1) h3).elim
     | succ j => rw [ih htail (i := i) (j := j) (by simpa using h1) (by simpa using h2) h3 h4]
end Go.Proofs.YteocdndanehpnaaGreat
namespace Go.Proofs.YteocdndanehpnaaGreat
open Go.RowKit
set_option linter.unusedSimpArgs false
end Go.Proofs.YteocdndanehpnaaGreat
namespace Go.Proofs.YteocdndanehpnaaGreat
open Go.RowKit
set_option linter.unusedSimpArgs false
end Go.Proofs.YteocdndanehpnaaGreat
namespace Go.Proofs.YteocdndanehpnaaGreat
open Go.RowKit
set_option linter.unusedSimpArgs false
section
end
end Go.Proofs.YteocdndanehpnaaGreat
namespace Go.Proofs.YteocdndanehpnaaGreat
open Go.RowKit
set_option linter.unusedSimpArgs false
def RunsS (P : Program) (o : Oper) (ev : Operand → Value) (w : World) (R : Value → World → Prop) (S : World → Prop) : Prop :=
 Runs P o ev w R ∨ ∃ w', (execOp ev o).run P w = .ok .skip w' ∧ S w'
def GStep (P : Program) (rows : List SRow) (base : List (Nat × Value)) (N : Nat) (tbl : List (List Nat)) (G : Nat → Act → World → Prop) (i : Nat) (r : SRow) : Prop :=
 (∀ v w w', r.V v w → r.V v w') ∧
 (∀ j b, r.guard = some (j, b) → ∃ rj : SRow, rows[j]? = some rj ∧ (∃ d, rj.dst = some d) ∧ j ∈ r.deps ∧ ∀ v w, rj.V v w → v = .bool b) ∧
 ∀ (m : Nat) (a : Act) (w : World), G m a w → a.tmps.size = N → m.testBit i = false → (∀ j ∈ r.deps, m.testBit j = true) → (∀ k, m.testBit k = true → ∀ j ∈ (tbl[k]?).getD [], m.testBit j = true) →
  (∀ k v, base.lookup k = some v → a.eval (.tmp k) = v) → (∀ (j : Nat) (rj : SRow) (d : Tmp), j ∈ r.deps → rows[j]? = some rj → rj.dst = some d → ∃ v, Slot a d v ∧ rj.V v w) →
  ∀ o : Oper, o.op = r.op → RunsS P o a.eval w (fun v w' => (r.dst.isSome = true → r.V v w') ∧ G (m ||| 2 ^ i) (a.put r.dst v) w') (fun w' => r.dst = Option.none ∧ G (m ||| 2 ^ i) a w')
def AllStepsH (P : Program) (rows : List SRow) (base : List (Nat × Value)) (N : Nat) (tbl : List (List Nat)) (G : Nat → Act → World → Prop) : Nat → List SRow → Prop
 | _, [] => True
 | i, r :: rs => GStep P rows base N tbl G i r ∧ AllStepsH P rows base N tbl G (i + 1) rs
theorem AllStepsH.get {P : Program} {rows : List SRow} {base : List (Nat × Value)} {N : Nat} {tbl : List (List Nat)} {G : Nat → Act → World → Prop} : ∀ {l : List SRow} {i : Nat}, AllStepsH P rows base N tbl G i l → ∀ k r, l[k]? = some r → GStep P rows base N tbl G (i + k) r
 | [], _, _, k, r, h => by simp at h
 | x :: xs, i, h, 0, r, hr => by
   simp only [List.getElem?_cons_zero, Option.some.injEq] at hr
   subst hr
   exact h.1
 | x :: xs, i, h, k + 1, r, hr => by
   have := h.2.get k r (by simpa using hr)
   rw [Nat.add_assoc, Nat.add_comm 1 k] at this
   exact this
theorem AllStepsH.none {P : Program} {rows : List SRow} {base : List (Nat × Value)} {N : Nat} {tbl : List (List Nat)} {G : Nat → Act → World → Prop} {i : Nat} : AllStepsH P rows base N tbl G i [] := trivial
theorem AllStepsH.next {P : Program} {rows : List SRow} {base : List (Nat × Value)} {N : Nat} {tbl : List (List Nat)} {G : Nat → Act → World → Prop} {i : Nat} {r : SRow} {rs : List SRow} (h1 : ∀ v w w', r.V v w → r.V v w')
  (h2 : ∀ j b, r.guard = some (j, b) → ∃ rj : SRow, rows[j]? = some rj ∧ (∃ d, rj.dst = some d) ∧ j ∈ r.deps ∧ ∀ v w, rj.V v w → v = .bool b)
  (h3 : ∀ (m : Nat) (a : Act) (w : World), G m a w → a.tmps.size = N → m.testBit i = false → (∀ j ∈ r.deps, m.testBit j = true) → (∀ k, m.testBit k = true → ∀ j ∈ (tbl[k]?).getD [], m.testBit j = true) →
    (∀ k v, base.lookup k = some v → a.eval (.tmp k) = v) → (∀ (j : Nat) (rj : SRow) (d : Tmp), j ∈ r.deps → rows[j]? = some rj → rj.dst = some d → ∃ v, Slot a d v ∧ rj.V v w) →
    ∀ o : Oper, o.op = r.op → RunsS P o a.eval w (fun v w' => (r.dst.isSome = true → r.V v w') ∧ G (m ||| 2 ^ i) (a.put r.dst v) w') (fun w' => r.dst = Option.none ∧ G (m ||| 2 ^ i) a w')) (hr : AllStepsH P rows base N tbl G (i + 1) rs) : AllStepsH P rows base N tbl G i (r :: rs) := ⟨⟨h1, h2, h3⟩, hr⟩
structure HInv (rows : List SRow) (base : List (Nat × Value)) (tbl : List (List Nat)) (N : Nat) (G : Nat → Act → World → Prop) (m : Nat) (a : Act) (w : World) : Prop where
 size : a.tmps.size = N
 defers : a.defers = []
 base : ∀ k v, base.lookup k = some v → Slot a k v
 slot : ∀ (j : Nat) (r : SRow) (d : Tmp), m.testBit j = true → rows[j]? = some r → r.dst = some d → ∃ v, Slot a d v ∧ r.V v w
 closed : ∀ k, m.testBit k = true → ∀ j ∈ (tbl[k]?).getD [], m.testBit j = true
 g : G m a w
set_option maxHeartbeats 2000000 in
theorem wp_region_ghost {P : Program} {ops : Array Oper} {Q : Exit → Act → World → Prop} {id : Nat} {a : Act} {w : World} (rows : List SRow) (base : List (Nat × Value)) (N n : Nat) (tbl : List (List Nat)) (G : Nat → Act → World → Prop)
  (hm : P.follows .mixedOrders = true) (hn : ops.size = n) (ht : depsOf ops = tbl) (hd : ((List.range n).all fun i => ((tbl[i]?).getD []).all fun j => decide (j < i)) = true) (hk : ops.toList.map keyO = rows.map SRow.key)
  (hdis : distinct rows base N = true) (hsz : a.tmps.size = N) (hdf : a.defers = []) (hb : ∀ k v, base.lookup k = some v → Slot a k v) (h0 : G 0 a w.drew) (hstep : AllStepsH P rows base N tbl G 0 rows)
  (hend : ∀ m a W, (∀ i, i < n → m.testBit i = true) → a.tmps.size = N → a.defers = [] → G m a W → (∀ k v, base.lookup k = some v → Slot a k v) → (∀ (j : Nat) r d, rows[j]? = some r → r.dst = some d → ∃ v, Slot a d v ∧ r.V v W) → Q .normal a W) : (Code.region id ops true).wp P Q a w := by
 have hrow : ∀ {i : Nat} {o : Oper}, ops[i]? = some o → ∃ r, rows[i]? = some r ∧ keyO o = r.key := by
  intro i o ho
  have h1 : (ops.toList.map keyO)[i]? = some (keyO o) := by simp [ho]
  rw [hk, List.getElem?_map] at h1
  cases hr : rows[i]? with
  | none => rw [hr] at h1; cases h1
  | some r => rw [hr] at h1; simp only [Option.map_some, Option.some.injEq] at h1; exact ⟨r, rfl, h1.symm⟩
 simp only [distinct, Bool.and_eq_true] at hdis
 obtain ⟨hdis1, hdis2⟩ := hdis
 have hdst : ∀ {i : Nat} {r : SRow} {d : Tmp}, rows[i]? = some r → r.dst = some d → d < N ∧ base.lookup d = none := by
  intro i r d h1 h2
  have := List.all_eq_true.1 hdis1 d (List.mem_filterMap.2 ⟨r, List.mem_of_getElem? h1, h2⟩)
  simpa using this
 have hlen : rows.length = n := by
  have := congrArg List.length hk
  simp at this
  omega
 have hstart : HInv rows base tbl N G 0 a w.drew := ⟨hsz, hdf, hb, fun j r d h => (by rw [Nat.zero_testBit] at h; cases h), fun k h => (by rw [Nat.zero_testBit] at h; cases h), h0⟩
 refine wp_region_inv (I := HInv rows base tbl N G) (n := n) (tbl := tbl) (hm := hm) (hn := hn) (ht := ht) (hd := hd) (h0 := hstart) ?_ ?_
 ·intro i hi o m a w1 ho hmi hdeps hI
  have hdepsT : ∀ j ∈ (tbl[i]?).getD [], m.testBit j = true := by rw [← ht]; exact hdeps
  obtain ⟨r, hr, hkey⟩ := hrow ho
  obtain ⟨S1, S2, S3⟩ := hstep.get i r hr
  rw [Nat.zero_add] at S3
  unfold SRow.key keyO at hkey
  simp only [Prod.mk.injEq] at hkey
  obtain ⟨ke1, ke2, ke3, ke4⟩ := hkey
  have hdeps' : ∀ j ∈ r.deps, m.testBit j = true := by
   intro j hj
   refine hdeps j ?_
   unfold depsOf
   rw [List.getElem?_map, Array.getElem?_toList, ho]
   simp only [Option.map_some, Option.getD_some]
   rw [ke4]
   exact hj
  have hw : Region.wanted o (yielded ops a.tmps) = true := by
   unfold Region.wanted
   cases hg : o.guard with
   | none => rfl
   | some p =>
     obtain ⟨j, b⟩ := p
     obtain ⟨rj, h1, ⟨d, h2⟩, h3, h4⟩ := S2 j b (by rw [← ke3, hg])
     obtain ⟨v, h5, h6⟩ := hI.slot j rj d (hdeps' j h3) h1 h2
     have h7 := h4 v w1 h6
     subst h7
     have hjn : j < n := by rw [← hlen]; exact (List.getElem?_eq_some_iff.1 h1).1
     have hj : j < ops.size := by omega
     obtain ⟨rj', h8, h9⟩ := hrow (Array.getElem?_eq_getElem hj)
     rw [h1] at h8
     cases h8
     unfold SRow.key keyO at h9
     simp only [Prod.mk.injEq] at h9
     unfold yielded
     unfold Slot at h5
     have hd0 : ops[j].dst = some d := by rw [h9.2.1, h2]
     simp only [Array.getElem?_eq_getElem hj, Option.bind_some, hd0, h5]
     cases b <;> rfl
  have hclosed : ∀ k, (m ||| 2 ^ i).testBit k = true → ∀ j ∈ (tbl[k]?).getD [], (m ||| 2 ^ i).testBit j = true := by
   intro k hk j hj
   have : m.testBit j = true := by
    rw [Nat.testBit_or, Nat.testBit_two_pow, Bool.or_eq_true] at hk
    rcases hk with hk | hk
    ·exact hI.closed k hk j hj
    ·have e : i = k := of_decide_eq_true hk
     subst e
     exact hdepsT j hj
   rw [Nat.testBit_or, this]; rfl
  have hput : ∀ v w', ((r.dst.isSome = true → r.V v w') ∧ G (m ||| 2 ^ i) (a.put r.dst v) w') → HInv rows base tbl N G (m ||| 2 ^ i) (a.put o.dst v) w' := by
   rintro v w' ⟨hv, hG⟩
   have hmono : ∀ j rj d, (m ||| 2 ^ i).testBit j = true → j ≠ i → rows[j]? = some rj → rj.dst = some d → ∃ v, Slot a d v ∧ rj.V v w' := by
    intro j rj d hj hne h1 h2
    have hj' : m.testBit j = true := by
     rw [Nat.testBit_or, Nat.testBit_two_pow] at hj
     have : ¬ i = j := fun e => hne e.symm
     simpa [this] using hj
    obtain ⟨u, h3, h4⟩ := hI.slot j rj d hj' h1 h2
    obtain ⟨T1, _, _⟩ := hstep.get j rj h1
    exact ⟨u, h3, T1 u _ _ h4⟩
   cases hdd : r.dst with
   | none =>
     rw [hdd] at ke2 hG
     rw [ke2]
     refine ⟨hI.size, hI.defers, hI.base, fun j rj d hj h1 h2 => ?_, hclosed, hG⟩
     by_cases hne : j = i
     ·subst hne
      rw [hr] at h1; cases h1
      rw [hdd] at h2; cases h2
     ·exact hmono j rj d hj hne h1 h2
   | some d0 =>
     rw [hdd] at ke2 hG
     rw [ke2]
     obtain ⟨hd0, hd1⟩ := hdst hr hdd
     have hv' := hv (by rw [hdd]; rfl)
     refine ⟨by simp [Act.put, hI.size], by simp [Act.put, hI.defers], fun k u hk => ?_, fun j rj d hj h1 h2 => ?_, hclosed, hG⟩
     ·have := hI.base k u hk
      unfold Slot at this ⊢
      simp only [Act.put]
      rw [Array.getElem?_setIfInBounds_ne (fun e => by subst e; rw [hd1] at hk; cases hk)]
      exact this
     ·by_cases hne : j = i
      ·subst hne
       rw [hr] at h1; cases h1
       rw [hdd] at h2; cases h2
       refine ⟨v, ?_, hv'⟩
       unfold Slot
       simp [Act.put, hI.size, hd0]
      ·obtain ⟨u, h3, h4⟩ := hmono j rj d hj hne h1 h2
       refine ⟨u, ?_, h4⟩
       unfold Slot at h3 ⊢
       simp only [Act.put]
       rw [Array.getElem?_setIfInBounds_ne (fun e => by subst e; exact hne (go_inj hdis2 h1 hr h2 hdd))]
       exact h3
  have hruns := S3 m a w1 hI.g hI.size hmi hdeps' hI.closed (fun k v hk => (hI.base k v hk).ev) (fun j rj d hj h1 h2 => hI.slot j rj d (hdeps' j hj) h1 h2) o ke1
  unfold wpOp
  rw [ho]
  simp only [if_pos hw]
  refine Or.inl ?_
  unfold Oper.wp
  rcases hruns with (⟨v, w', h1, h2⟩ | ⟨f, args, h1, h2⟩) | ⟨w', h1, h2, h3⟩
  rotate_left 2
  ·rw [h1]
   have h4 := hput undef w' ⟨fun h => (by rw [h2] at h; cases h), by rw [h2]; exact h3⟩
   rw [Oper.upon_skip]
   exact h4
  ·rw [h1, Oper.upon_value]
   exact hput v w' h2
  ·rw [h1, Oper.upon_enter]
   refine h2.mono fun e w' h => ?_
   obtain ⟨v, rfl, h3⟩ := h
   exact hput v w' h3
 ·intro m a W hall hI
  exact hend m a W hall hI.size hI.defers hI.g hI.base (fun j r d h1 h2 => hI.slot j r d (hall j (by rw [← hlen]; exact (List.getElem?_eq_some_iff.1 h1).1)) h1 h2)
theorem slot_other {a : Act} {d d' : Tmp} {v : Value} (h : d ≠ d') : (a.put (some d) v).tmps[d']? = a.tmps[d']? := by
 simp only [Act.put]
 exact Array.getElem?_setIfInBounds_ne h
theorem bit_other {m i j : Nat} (h : i ≠ j) : (m ||| 2 ^ i).testBit j = m.testBit j := by
 rw [Nat.testBit_or, Nat.testBit_two_pow]
 simp [h]
theorem bit_self {m i : Nat} : (m ||| 2 ^ i).testBit i = true := by
 rw [Nat.testBit_or, Nat.testBit_two_pow]
 simp
end Go.Proofs.YteocdndanehpnaaGreat
namespace Go.Proofs.YteocdndanehpnaaGreat
open Go.RowKit
set_option linter.unusedSimpArgs false
theorem wpOps_inv {P : Program} {ops : Array Oper} {Q : Exit → Act → World → Prop} {n : Nat} {tbl : List (List Nat)} (ht : depsOf ops = tbl) (hd : ((List.range n).all fun i => ((tbl[i]?).getD []).all fun j => decide (j < i)) = true)
  (hn : ops.size = n) {I : Nat → Act → World → Prop} (hstep : ∀ i, i < n → InvStep P ops Q I i) (hend : ∀ m a w, (∀ i, i < n → m.testBit i = true) → I m a w → Q .normal a w) :
  ∀ (d k m : Nat) (a : Act) (w : World), k + d = n → (∀ j, j < k → m.testBit j = true) → (∀ j, k ≤ j → j < n → m.testBit j = false) → I m a w → wpOps P ops Q (List.range' k d) a w := by
 intro d
 induction d with
 | zero =>
   intro k m a w hk h1 _ hI
   exact hend m a w (fun i hi => h1 i (by omega)) hI
 | succ d ih =>
   intro k m a w hk h1 h2 hI
   have hkn : k < n := by omega
   have ho : ops[k]? = some ops[k] := Array.getElem?_eq_getElem (by omega)
   have hs := hstep k hkn ops[k] m a w ho (h2 k (Nat.le_refl _) hkn) (fun j hj => h1 j (by
    rw [ht] at hj
    have h3 := List.all_eq_true.1 hd k (List.mem_range.2 hkn)
    exact of_decide_eq_true (List.all_eq_true.1 h3 _ hj))) hI
   show wpOp P ops Q k (wpOps P ops Q (List.range' (k + 1) d)) a w
   refine wpOp_mono (fun a' w' h => ih (k + 1) (m ||| 2 ^ k) a' w' (by omega) (fun j hj => ?_) (fun j hj hjn => ?_) h) hs
   ·rw [Nat.testBit_or, Nat.testBit_two_pow]
    by_cases e : k = j
    ·simp [e]
    ·rw [h1 j (by omega)]; rfl
   ·rw [Nat.testBit_or, Nat.testBit_two_pow, h2 j (by omega) hjn]
    have : ¬ k = j := by omega
    simp [this]
theorem wp_region_invB {P : Program} {ops : Array Oper} {Q : Exit → Act → World → Prop} {id : Nat} {b : Bool} {a : Act} {w : World} (n : Nat) (tbl : List (List Nat)) (I : Nat → Act → World → Prop) (hm : P.follows .mixedOrders = true) (hn : ops.size = n) (ht : depsOf ops = tbl)
  (hd : ((List.range n).all fun i => ((tbl[i]?).getD []).all fun j => decide (j < i)) = true) (h0 : I 0 a w.drew) (h1 : I 0 a w) (hstep : ∀ i, i < n → InvStep P ops Q I i)
  (hend : ∀ m a w, (∀ i, i < n → m.testBit i = true) → I m a w → Q .normal a w) : (Code.region id ops b).wp P Q a w := by
 cases b with
 | true => exact wp_region_inv n tbl I hm hn ht hd h0 hstep hend
 | false =>
   refine wp_region ?_
   rw [hn, List.range_eq_range']
   exact wpOps_inv ht hd hn hstep hend n 0 0 a w (by omega) (fun j hj => by omega) (fun j _ _ => Nat.zero_testBit j) h1
end Go.Proofs.YteocdndanehpnaaGreat
namespace Go.Proofs.YteocdndanehpnaaGreat
open Go.RowKit
set_option linter.unusedSimpArgs false
end Go.Proofs.YteocdndanehpnaaGreat
namespace Go.Proofs.YteocdndanehpnaaGreat
open Go.RowKit
set_option linter.unusedSimpArgs false
section
def SStepN (P : Program) (rows : List SRow) (base : List (Nat × Value)) (W0 : World) (r : SRow) : Prop :=
 (∀ v w w', r.V v w → Lat w w' → r.V v w') ∧
 (((∀ j b, r.guard = some (j, b) → ∃ rj : SRow, rows[j]? = some rj ∧ (∃ d, rj.dst = some d) ∧ j ∈ r.deps ∧ ∀ v w, rj.V v w → v = .bool b) ∧
   ∀ (a : Act) (w : World), Lat W0 w → (∀ k v, base.lookup k = some v → a.eval (.tmp k) = v) → (∀ (j : Nat) (rj : SRow) (d : Tmp), j ∈ r.deps → rows[j]? = some rj → rj.dst = some d → ∃ v, a.eval (.tmp d) = v ∧ rj.V v w) →
    ∀ o : Oper, o.op = r.op → Runs P o a.eval w (fun v w' => Lat w w' ∧ (r.dst.isSome = true → r.V v w'))) ∨
  ((∃ j b, ∃ rj : SRow, r.guard = some (j, b) ∧ rows[j]? = some rj ∧ (∃ d, rj.dst = some d) ∧ j ∈ r.deps ∧ ∀ v w, rj.V v w → v ≠ .bool b) ∧ ∀ w, r.V undef w))
def AllStepsN (P : Program) (rows : List SRow) (base : List (Nat × Value)) (W0 : World) : List SRow → Prop
 | [] => True
 | r :: rs => SStepN P rows base W0 r ∧ AllStepsN P rows base W0 rs
theorem AllStepsN.get {P : Program} {rows : List SRow} {base : List (Nat × Value)} {W0 : World} {l : List SRow} (h : AllStepsN P rows base W0 l) : ∀ r ∈ l, SStepN P rows base W0 r := by
 induction l with
 | nil => intro r hr; cases hr
 | cons x xs ih =>
   intro r hr
   rcases List.mem_cons.1 hr with e | hr
   ·rw [e]; exact h.1
   ·exact ih h.2 r hr
theorem AllStepsN.next {P : Program} {rows : List SRow} {base : List (Nat × Value)} {W0 : World} {r : SRow} {rs : List SRow} (h1 : ∀ v w w', r.V v w → Lat w w' → r.V v w')
  (h2 : ∀ j b, r.guard = some (j, b) → ∃ rj : SRow, rows[j]? = some rj ∧ (∃ d, rj.dst = some d) ∧ j ∈ r.deps ∧ ∀ v w, rj.V v w → v = .bool b)
  (h3 : ∀ (a : Act) (w : World), Lat W0 w → (∀ k v, base.lookup k = some v → a.eval (.tmp k) = v) → (∀ (j : Nat) (rj : SRow) (d : Tmp), j ∈ r.deps → rows[j]? = some rj → rj.dst = some d → ∃ v, a.eval (.tmp d) = v ∧ rj.V v w) →
    ∀ o : Oper, o.op = r.op → Runs P o a.eval w (fun v w' => Lat w w' ∧ (r.dst.isSome = true → r.V v w')))
  (h4 : AllStepsN P rows base W0 rs) : AllStepsN P rows base W0 (r :: rs) := ⟨⟨h1, .inl ⟨h2, h3⟩⟩, h4⟩
theorem AllStepsN.skip {P : Program} {rows : List SRow} {base : List (Nat × Value)} {W0 : World} {r : SRow} {rs : List SRow} (h1 : ∀ v w w', r.V v w → Lat w w' → r.V v w')
  (h2 : ∃ j b, ∃ rj : SRow, r.guard = some (j, b) ∧ rows[j]? = some rj ∧ (∃ d, rj.dst = some d) ∧ j ∈ r.deps ∧ ∀ v w, rj.V v w → v ≠ .bool b) (h3 : ∀ w, r.V undef w)
  (h4 : AllStepsN P rows base W0 rs) : AllStepsN P rows base W0 (r :: rs) := ⟨⟨h1, .inr ⟨h2, h3⟩⟩, h4⟩
theorem AllStepsN.none {P : Program} {rows : List SRow} {base : List (Nat × Value)} {W0 : World} : AllStepsN P rows base W0 [] := trivial
set_option maxHeartbeats 2000000 in
theorem wp_region_slotsN {P : Program} {ops : Array Oper} {Q : Exit → Act → World → Prop} {id : Nat} {b : Bool} {a : Act} {w : World} (rows : List SRow) (base : List (Nat × Value)) (N n : Nat) (tbl : List (List Nat))
  (hm : P.follows .mixedOrders = true) (hn : ops.size = n) (ht : depsOf ops = tbl) (hd : ((List.range n).all fun i => ((tbl[i]?).getD []).all fun j => decide (j < i)) = true) (hk : ops.toList.map keyO = rows.map SRow.key)
  (hdis : distinct rows base N = true) (hsz : a.tmps.size = N) (hdf : a.defers = []) (hb : ∀ k v, base.lookup k = some v → Slot a k v) (hstep : AllStepsN P rows base w rows)
  (hend : ∀ a W, a.tmps.size = N → a.defers = [] → Lat w W → (∀ k v, base.lookup k = some v → Slot a k v) → (∀ (j : Nat) r d, rows[j]? = some r → r.dst = some d → ∃ v, Slot a d v ∧ r.V v W) → Q .normal a W) : (Code.region id ops b).wp P Q a w := by
 have hrow : ∀ {i : Nat} {o : Oper}, ops[i]? = some o → ∃ r, rows[i]? = some r ∧ keyO o = r.key := by
  intro i o ho
  have h1 : (ops.toList.map keyO)[i]? = some (keyO o) := by simp [ho]
  rw [hk, List.getElem?_map] at h1
  cases hr : rows[i]? with
  | none => rw [hr] at h1; cases h1
  | some r => rw [hr] at h1; simp only [Option.map_some, Option.some.injEq] at h1; exact ⟨r, rfl, h1.symm⟩
 simp only [distinct, Bool.and_eq_true] at hdis
 obtain ⟨hdis1, hdis2⟩ := hdis
 have hdst : ∀ {i : Nat} {r : SRow} {d : Tmp}, rows[i]? = some r → r.dst = some d → d < N ∧ base.lookup d = none := by
  intro i r d h1 h2
  have := List.all_eq_true.1 hdis1 d (List.mem_filterMap.2 ⟨r, List.mem_of_getElem? h1, h2⟩)
  simpa using this
 have hlen : rows.length = n := by
  have := congrArg List.length hk
  simp at this
  omega
 have hstart : SInv rows base N w 0 a w.drew := ⟨hsz, hdf, Lat.drew w, hb, fun j r d h => by rw [Nat.zero_testBit] at h; cases h⟩
 refine wp_region_invB (h1 := ⟨hsz, hdf, Lat.refl w, hb, fun j r d h => (by rw [Nat.zero_testBit] at h; cases h)⟩) (I := SInv rows base N w) (n := n) (tbl := tbl) (hm := hm) (hn := hn) (ht := ht) (hd := hd) (h0 := hstart) ?_ ?_
 ·intro i hi o m a w1 ho hmi hdeps hI
  obtain ⟨r, hr, hkey⟩ := hrow ho
  obtain ⟨S1, S23⟩ := hstep.get r (List.mem_of_getElem? hr)
  unfold SRow.key keyO at hkey
  simp only [Prod.mk.injEq] at hkey
  obtain ⟨ke1, ke2, ke3, ke4⟩ := hkey
  have hdeps' : ∀ j ∈ r.deps, m.testBit j = true := by
   intro j hj
   refine hdeps j ?_
   unfold depsOf
   rw [List.getElem?_map, Array.getElem?_toList, ho]
   simp only [Option.map_some, Option.getD_some]
   rw [ke4]
   exact hj
  have hput : ∀ v w', Lat w1 w' → (r.dst.isSome = true → r.V v w') → SInv rows base N w (m ||| 2 ^ i) (a.put o.dst v) w' := by
   intro v w' hl hv
   have hmono : ∀ j rj d, (m ||| 2 ^ i).testBit j = true → j ≠ i → rows[j]? = some rj → rj.dst = some d → ∃ v, Slot a d v ∧ rj.V v w' := by
    intro j rj d hj hne h1 h2
    have hj' : m.testBit j = true := by
     rw [Nat.testBit_or, Nat.testBit_two_pow] at hj
     have : ¬ i = j := fun e => hne e.symm
     simpa [this] using hj
    obtain ⟨u, h3, h4⟩ := hI.slot j rj d hj' h1 h2
    obtain ⟨T1, _⟩ := hstep.get rj (List.mem_of_getElem? h1)
    exact ⟨u, h3, T1 u _ _ h4 hl⟩
   cases hdd : r.dst with
   | none =>
     rw [hdd] at ke2
     rw [ke2]
     refine ⟨hI.size, hI.defers, hI.lat.trans hl, hI.base, fun j rj d hj h1 h2 => ?_⟩
     by_cases hne : j = i
     ·subst hne
      rw [hr] at h1; cases h1
      rw [hdd] at h2; cases h2
     ·exact hmono j rj d hj hne h1 h2
   | some d0 =>
     rw [hdd] at ke2
     rw [ke2]
     obtain ⟨hd0, hd1⟩ := hdst hr hdd
     have hv' := hv (by rw [hdd]; rfl)
     refine ⟨by simp [Act.put, hI.size], by simp [Act.put, hI.defers], hI.lat.trans hl, fun k u hk => ?_, fun j rj d hj h1 h2 => ?_⟩
     ·have := hI.base k u hk
      unfold Slot at this ⊢
      simp only [Act.put]
      rw [Array.getElem?_setIfInBounds_ne (fun e => by subst e; rw [hd1] at hk; cases hk)]
      exact this
     ·by_cases hne : j = i
      ·subst hne
       rw [hr] at h1; cases h1
       rw [hdd] at h2; cases h2
       refine ⟨v, ?_, hv'⟩
       unfold Slot
       simp [Act.put, hI.size, hd0]
      ·obtain ⟨u, h3, h4⟩ := hmono j rj d hj hne h1 h2
       refine ⟨u, ?_, h4⟩
       unfold Slot at h3 ⊢
       simp only [Act.put]
       rw [Array.getElem?_setIfInBounds_ne (fun e => by subst e; exact hne (go_inj hdis2 h1 hr h2 hdd))]
       exact h3
  rcases S23 with ⟨S2, S3⟩ | ⟨S2, S3⟩
  ·have hw : Region.wanted o (yielded ops a.tmps) = true := by
    unfold Region.wanted
    cases hg : o.guard with
    | none => rfl
    | some p =>
      obtain ⟨j, b⟩ := p
      obtain ⟨rj, h1, ⟨d, h2⟩, h3, h4⟩ := S2 j b (by rw [← ke3, hg])
      obtain ⟨v, h5, h6⟩ := hI.slot j rj d (hdeps' j h3) h1 h2
      have h7 := h4 v w1 h6
      subst h7
      have hjn : j < n := by rw [← hlen]; exact (List.getElem?_eq_some_iff.1 h1).1
      have hj : j < ops.size := by omega
      obtain ⟨rj', h8, h9⟩ := hrow (Array.getElem?_eq_getElem hj)
      rw [h1] at h8
      cases h8
      unfold SRow.key keyO at h9
      simp only [Prod.mk.injEq] at h9
      unfold yielded
      unfold Slot at h5
      have hd0 : ops[j].dst = some d := by rw [h9.2.1, h2]
      simp only [Array.getElem?_eq_getElem hj, Option.bind_some, hd0, h5]
      cases b <;> rfl
   have hruns := S3 a w1 hI.lat (fun k v hk => (hI.base k v hk).ev) (fun j rj d hj h1 h2 => by
    obtain ⟨v, h3, h4⟩ := hI.slot j rj d (hdeps' j hj) h1 h2
    exact ⟨v, h3.ev, h4⟩) o ke1
   unfold wpOp
   rw [ho]
   simp only [if_pos hw]
   refine Or.inl ?_
   unfold Oper.wp
   rcases hruns with ⟨v, w', h1, h2, h3⟩ | ⟨f, args, h1, h2⟩
   ·rw [h1, Oper.upon_value]
    exact hput v w' h2 h3
   ·rw [h1, Oper.upon_enter]
    refine h2.mono fun e w' h => ?_
    obtain ⟨v, rfl, h3, h4⟩ := h
    exact hput v w' h3 h4
  ·have hw : Region.wanted o (yielded ops a.tmps) = false := by
    unfold Region.wanted
    obtain ⟨j, b, rj, hg0, h1, ⟨d, h2⟩, h3, h4⟩ := S2
    have hg : o.guard = some (j, b) := by rw [ke3]; exact hg0
    rw [hg]
    obtain ⟨v, h5, h6⟩ := hI.slot j rj d (hdeps' j h3) h1 h2
    have h7 := h4 v w1 h6
    have hjn : j < n := by rw [← hlen]; exact (List.getElem?_eq_some_iff.1 h1).1
    have hj : j < ops.size := by omega
    obtain ⟨rj', h8, h9⟩ := hrow (Array.getElem?_eq_getElem hj)
    rw [h1] at h8
    cases h8
    unfold SRow.key keyO at h9
    simp only [Prod.mk.injEq] at h9
    unfold yielded
    unfold Slot at h5
    have hd0 : ops[j].dst = some d := by rw [h9.2.1, h2]
    simp only [Array.getElem?_eq_getElem hj, Option.bind_some, hd0, h5]
    cases v <;> first | rfl | (rename_i x; cases x <;> cases b <;> first | rfl | exact absurd rfl h7)
   unfold wpOp
   rw [ho]
   simp only [hw]
   exact hput undef w1 (Lat.refl _) (fun _ => S3 w1)
 ·intro m a W hall hI
  exact hend a W hI.size hI.defers hI.lat hI.base (fun j r d h1 h2 => hI.slot j r d (hall j (by rw [← hlen]; exact (List.getElem?_eq_some_iff.1 h1).1)) h1 h2)
end
end Go.Proofs.YteocdndanehpnaaGreat
