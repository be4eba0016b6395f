/- Several texts in one: Inv, InvL, InvM, InvN, InvP, Sly, InvQ, InvS. -/
import Derived.Orders
import Derived.OrdersHeld
import Derived.OwnWalkIn
import Derived.Test.YtpmbglhbcjbkcaaGreatH13
namespace Go.Proofs.YtpmbglhbcjbkcaaGreat
set_option maxHeartbeats 16000000
set_option maxRecDepth 100000
open Go.RowKit
set_option linter.unusedSimpArgs false
section
def zaQ (ops : Array Oper) : List (List Nat) := ops.toList.map fun o => (o.after.toList.filter (Region.binds .any)).map (·.on)
structure MaskIs (listed : Array Bool) (n m : Nat) : Prop where
 size : listed.size = n
 bit : ∀ i, i < n → listed[i]? = some (m.testBit i)
theorem MaskIs.zero (n : Nat) : MaskIs (Array.replicate n false) n 0 := ⟨by simp, fun i hi => by simp [hi]⟩
theorem MaskIs.set {listed : Array Bool} {n m : Nat} (h : MaskIs listed n m) (i : Nat) : MaskIs (listed.setIfInBounds i true) n (m ||| 2 ^ i) :=
 ⟨by simp [h.size], fun j hj => by
  rw [Nat.testBit_or, Nat.testBit_two_pow]
  by_cases e : i = j
  ·subst e
   simp [h.size, hj]
  ·rw [Array.getElem?_setIfInBounds_ne e, h.bit j hj]
   simp [e]⟩
theorem MaskIs.getD {listed : Array Bool} {n m i : Nat} (h : MaskIs listed n m) (hi : i < n) (d : Bool) : listed.getD i d = m.testBit i := by
 rw [Array.getD_eq_getD_getElem?, h.bit i hi]; rfl
def zkk (n m : Nat) : Nat := (List.range n).countP fun i => !m.testBit i
theorem zd8 {p q : Nat → Bool} : ∀ {l : List Nat}, (∀ x, p x = true → q x = true) → ∀ {i : Nat}, i ∈ l → p i = false → q i = true → l.countP p < l.countP q
 | [], _, _, hi, _, _ => by cases hi
 | y :: r, h, i, hi, hp, hq => by
   rw [List.countP_cons, List.countP_cons]
   have h2 : r.countP p ≤ r.countP q := List.countP_mono_left (fun x _ => h x)
   rcases List.mem_cons.1 hi with rfl | hi
   ·rw [hp, hq]; simp; omega
   ·have h3 := zd8 h hi hp hq
    have h4 := h y
    cases e1 : p y <;> cases e2 : q y <;> simp_all <;> omega
theorem zfc {n m i : Nat} (hi : i < n) (h : m.testBit i = false) : zkk n (m ||| 2 ^ i) < zkk n m := by
 refine zd8 (fun x hx => ?_) (List.mem_range.2 hi) ?_ (by simp [h])
 ·simp only [Nat.testBit_or, Bool.not_or, Bool.and_eq_true] at hx
  exact hx.1
 ·simp [Nat.testBit_or, Nat.testBit_two_pow_self]
theorem zgE {n m : Nat} (h : zkk n m = 0) : ∀ i, i < n → m.testBit i = true := by
 intro i hi
 have := (List.countP_eq_zero.1 h) i (List.mem_range.2 hi)
 simpa using this
end
section
variable {P : Program} {ops : Array Oper} {Q : Exit → Act → World → Prop}
def zfN (P : Program) (ops : Array Oper) (Q : Exit → Act → World → Prop) (I : Nat → Act → World → Prop) (i : Nat) : Prop :=
 ∀ (o : Oper) (m : Nat) (a : Act) (w : World), ops[i]? = some o → m.testBit i = false → (∀ j ∈ ((zaQ ops)[i]?).getD [], m.testBit j = true) → I m a w →
  wpOp P ops Q i (I (m ||| 2 ^ i)) a w
theorem zkl {n : Nat} (hn : ops.size = n) {tbl : List (List Nat)} (ht : zaQ ops = tbl) (hd : ((List.range n).all fun i => ((tbl[i]?).getD []).all fun j => decide (j < i)) = true)
  {I : Nat → Act → World → Prop} (hstep : ∀ i, i < n → zfN P ops Q I i) (hend : ∀ m a w, (∀ i, i < n → m.testBit i = true) → I m a w → Q .normal a w) :
  ∀ (fuel : Nat) (listed : Array Bool) (m : Nat) (a : Act) (w : World), MaskIs listed n m → zkk n m ≤ fuel → I m a w → wpAny P .any ops Q fuel listed a w := by
 have hready : ∀ (listed : Array Bool) (m : Nat), MaskIs listed n m → Region.ready .any ops listed = [] → ∀ i, i < n → m.testBit i = true := by
  intro listed m hm hr i
  induction i using Nat.strongRecOn with
  | ind i ih =>
    intro hi
    cases hb : m.testBit i with
    | true => rfl
    | false =>
      exfalso
      have hlt : i < ops.size := by omega
      have : i ∈ Region.ready .any ops listed := by
       refine mem_ready.2 ⟨by rw [hm.getD hi, hb], ops[i], Array.getElem?_eq_getElem hlt, fun e he hbd => ?_⟩
       have hmem : e.on ∈ ((tbl[i]?).getD []) := by
        rw [← ht]
        unfold zaQ
        rw [List.getElem?_map, Array.getElem?_toList, Array.getElem?_eq_getElem hlt]
        simp only [Option.map_some, Option.getD_some]
        exact List.mem_map.2 ⟨e, List.mem_filter.2 ⟨Array.mem_toList_iff.2 he, hbd⟩, rfl⟩
       have h1 := List.all_eq_true.1 hd i (List.mem_range.2 hi)
       have h2 := of_decide_eq_true (List.all_eq_true.1 h1 _ hmem)
       rw [hm.getD (by omega)]
       exact ih _ h2 (by omega)
      rw [hr] at this
      cases this
 intro fuel
 induction fuel with
 | zero =>
   intro listed m a w hm hl hI
   have hall := zgE (Nat.le_zero.1 hl)
   refine ⟨?_, hend _ _ _ hall hI⟩
   refine List.eq_nil_iff_forall_not_mem.2 fun i hi => ?_
   obtain ⟨h1, o, h2, _⟩ := mem_ready.1 hi
   have hin : i < n := by rw [← hn]; exact (Array.getElem?_eq_some_iff.1 h2).1
   rw [hm.getD hin, hall i hin] at h1
   cases h1
 | succ fuel ih =>
   intro listed m a w hm hl hI
   refine ⟨fun hr => hend _ _ _ (hready listed m hm hr) hI, fun i hi => ?_⟩
   obtain ⟨h1, o, h2, h3⟩ := mem_ready.1 hi
   have hin : i < n := by rw [← hn]; exact (Array.getElem?_eq_some_iff.1 h2).1
   rw [hm.getD hin] at h1
   refine wpOp_mono (fun a' w' h => ih _ _ a' w' (hm.set i) ?_ h) (hstep i hin o m a w h2 h1 ?_ hI)
   ·have := zfc hin h1; omega
   ·intro j hj
    have hj' : ∃ e ∈ o.after, Region.binds .any e = true ∧ e.on = j := by
     unfold zaQ at hj
     rw [List.getElem?_map, Array.getElem?_toList, h2] at hj
     simp only [Option.map_some, Option.getD_some] at hj
     obtain ⟨e, he, rfl⟩ := List.mem_map.1 hj
     obtain ⟨h4, h5⟩ := List.mem_filter.1 he
     exact ⟨e, Array.mem_toList_iff.1 h4, h5, rfl⟩
    obtain ⟨e, he, hb, rfl⟩ := hj'
    have h4 := h3 e he hb
    by_cases hjn : e.on < n
    ·rw [hm.getD hjn] at h4; exact h4
    ·rw [Array.getD_eq_getD_getElem?, Array.getElem?_eq_none (by rw [hm.size]; omega)] at h4
     cases h4
theorem zbf {id : Nat} {a : Act} {w : World} (n : Nat) (tbl : List (List Nat)) (I : Nat → Act → World → Prop) (hm : P.follows .mixedOrders = true) (hn : ops.size = n) (ht : zaQ ops = tbl)
  (hd : ((List.range n).all fun i => ((tbl[i]?).getD []).all fun j => decide (j < i)) = true) (h0 : I 0 a w.drew) (hstep : ∀ i, i < n → zfN P ops Q I i)
  (hend : ∀ m a w, (∀ i, i < n → m.testBit i = true) → I m a w → Q .normal a w) : (Code.region id ops true).wp P Q a w := by
 refine wp_region_any hm ?_
 refine zkl hn ht hd hstep hend _ _ 0 _ _ (by rw [hn]; exact MaskIs.zero n) ?_ h0
 rw [hn]
 exact Nat.le_trans List.countP_le_length (by simp)
end
structure SRow where
 op : Op
 dst : Option Tmp
 guard : Option (Nat × Bool)
 deps : List Nat
 V : Value → World → Prop
def SRow.key (r : SRow) : Op × Option Tmp × Option (Nat × Bool) × List Nat := (r.op, r.dst, r.guard, r.deps)
def zbQ (o : Oper) : Op × Option Tmp × Option (Nat × Bool) × List Nat := (o.op, o.dst, o.guard, (o.after.toList.filter (Region.binds .any)).map (·.on))
def Runs (P : Program) (o : Oper) (ev : Operand → Value) (w : World) (R : Value → World → Prop) : Prop :=
 (∃ v w', (execOp ev o).run P w = .ok (.value v) w' ∧ R v w') ∨ (∃ f args, (execOp ev o).run P w = .ok (.enter f args) w ∧ Calls P f args w (fun e w' => ∃ v, e = .returned v ∧ R v w'))
def Slot (a : Act) (d : Tmp) (v : Value) : Prop := a.tmps[d]? = some v
theorem Slot.ev {a : Act} {d : Tmp} {v : Value} (h : Slot a d v) : a.eval (.tmp d) = v := by
 unfold Slot at h
 simp [Act.eval, h]
def zkm (P : Program) (rows : List SRow) (base : List (Nat × Value)) (W0 : World) (r : SRow) : Prop :=
 (∀ v w w', r.V v w → Lat w w' → r.V v w') ∧
 (∀ j b, r.guard = some (j, b) → ∃ rj : SRow, rows[j]? = some rj ∧ (∃ d, rj.dst = some d) ∧ j ∈ r.deps ∧ ∀ v w, rj.V v w → v = .bool b) ∧
 ∀ (a : Act) (w : World), Lat W0 w → (∀ k v, base.lookup k = some v → a.eval (.tmp k) = v) → (∀ (j : Nat) (rj : SRow) (d : Tmp), j ∈ r.deps → rows[j]? = some rj → rj.dst = some d → ∃ v, a.eval (.tmp d) = v ∧ rj.V v w) →
  ∀ o : Oper, o.op = r.op → Runs P o a.eval w (fun v w' => Lat w w' ∧ (r.dst.isSome = true → r.V v w'))
structure zeV (rows : List SRow) (base : List (Nat × Value)) (N : Nat) (W0 : World) (m : Nat) (a : Act) (w : World) : Prop where
 size : a.tmps.size = N
 defers : a.defers = []
 lat : Lat W0 w
 base : ∀ k v, base.lookup k = some v → Slot a k v
 slot : ∀ (j : Nat) (r : SRow) (d : Tmp), m.testBit j = true → rows[j]? = some r → r.dst = some d → ∃ v, Slot a d v ∧ r.V v w
def distinct (rows : List SRow) (base : List (Nat × Value)) (N : Nat) : Bool :=
 let ds := rows.filterMap (·.dst)
 ds.all (fun d => decide (d < N) && (base.lookup d).isNone) && go ds
where go : List Nat → Bool
 | [] => true
 | d :: r => !r.contains d && go r
theorem zdE {rows : List SRow} (h : distinct.go (rows.filterMap (·.dst)) = true) : ∀ {i j : Nat} {ri rj : SRow} {d : Tmp}, rows[i]? = some ri → rows[j]? = some rj → ri.dst = some d → rj.dst = some d → i = j := by
 induction rows with
 | nil => intro i j ri rj d h1; simp at h1
 | cons r rs ih =>
   have htail : distinct.go (rs.filterMap (·.dst)) = true := by
    rw [List.filterMap_cons] at h
    cases hr : r.dst with
    | none => rw [hr] at h; exact h
    | some d => rw [hr] at h; simp only [distinct.go, Bool.and_eq_true] at h; exact h.2
   have hfresh : ∀ {d : Tmp} {j : Nat} {rj : SRow}, r.dst = some d → rs[j]? = some rj → rj.dst = some d → False := by
    intro d j rj hr h1 h2
    rw [List.filterMap_cons, hr] at h
    simp only [distinct.go, Bool.and_eq_true, Bool.not_eq_true'] at h
    have hm : d ∈ rs.filterMap (·.dst) := List.mem_filterMap.2 ⟨rj, List.mem_of_getElem? h1, h2⟩
    have := h.1
    rw [List.contains_eq_mem] at this
    simp [hm] at this
   intro i j ri rj d h1 h2 h3 h4
   cases i with
   | zero =>
     simp only [List.getElem?_cons_zero, Option.some.injEq] at h1
     subst h1
     cases j with
     | zero => rfl
     | succ j => exact (hfresh h3 (by simpa using h2) h4).elim
   | succ i =>
     cases j with
     | zero =>
       simp only [List.getElem?_cons_zero, Option.some.injEq] at h2
       subst h2
       exact (hfresh h4 (by simpa using h1) h3).elim
     | succ j => rw [ih htail (i := i) (j := j) (by simpa using h1) (by simpa using h2) h3 h4]
def AllSteps (P : Program) (rows : List SRow) (base : List (Nat × Value)) (W0 : World) : List SRow → Prop
 | [] => True
 | r :: rs => zkm P rows base W0 r ∧ AllSteps P rows base W0 rs
theorem AllSteps.get {P : Program} {rows : List SRow} {base : List (Nat × Value)} {W0 : World} {l : List SRow} (h : AllSteps P rows base W0 l) : ∀ r ∈ l, zkm P rows base W0 r := by
 induction l with
 | nil => intro r hr; cases hr
 | cons x xs ih =>
   intro r hr
   rcases List.mem_cons.1 hr with e | hr
   ·rw [e]; exact h.1
   ·exact ih h.2 r hr
theorem zby {P : Program} {ops : Array Oper} {Q : Exit → Act → World → Prop} {id : Nat} {a : Act} {w : World} (rows : List SRow) (base : List (Nat × Value)) (N n : Nat) (tbl : List (List Nat))
  (hm : P.follows .mixedOrders = true) (o9 : Oper) (ho9 : ops[n]? = some o9) (hg9 : o9.guard = none) (hn : ops.size = n + 1) (ht : zaQ ops = tbl) (hd : ((List.range (n + 1)).all fun i => ((tbl[i]?).getD []).all fun j => decide (j < i)) = true)
  (hup : ((List.range n).all fun i => (List.range (n + 1)).any fun k => decide (i < k) && ((tbl[k]?).getD []).contains i) = true) (hk : (ops.toList.take n).map zbQ = rows.map SRow.key)
  (hdis : distinct rows base N = true) (hsz : a.tmps.size = N) (hdf : a.defers = []) (hb : ∀ k v, base.lookup k = some v → Slot a k v) (hstep : AllSteps P rows base w rows)
  (hend : ∀ a W, a.tmps.size = N → a.defers = [] → Lat w W → (∀ k v, base.lookup k = some v → Slot a k v) → (∀ (j : Nat) r d, rows[j]? = some r → r.dst = some d → ∃ v, Slot a d v ∧ r.V v W) → o9.wp P a W (fun a' w' => Q .normal a' w') Q) : (Code.region id ops true).wp P Q a w := by
 have hrow : ∀ {i : Nat} {o : Oper}, i < n → ops[i]? = some o → ∃ r, rows[i]? = some r ∧ zbQ o = r.key := by
  intro i o hi ho
  have h1 : ((ops.toList.take n).map zbQ)[i]? = some (zbQ o) := by simp [ho, List.getElem?_take, hi]
  rw [hk, List.getElem?_map] at h1
  cases hr : rows[i]? with
  | none => rw [hr] at h1; cases h1
  | some r => rw [hr] at h1; simp only [Option.map_some, Option.some.injEq] at h1; exact ⟨r, rfl, h1.symm⟩
 simp only [distinct, Bool.and_eq_true] at hdis
 obtain ⟨hdis1, hdis2⟩ := hdis
 have hdst : ∀ {i : Nat} {r : SRow} {d : Tmp}, rows[i]? = some r → r.dst = some d → d < N ∧ base.lookup d = none := by
  intro i r d h1 h2
  have := List.all_eq_true.1 hdis1 d (List.mem_filterMap.2 ⟨r, List.mem_of_getElem? h1, h2⟩)
  simpa using this
 have hlen : rows.length = n := by
  have := congrArg List.length hk
  simp at this
  omega
 have hreach : ∀ m : Nat, (∀ i, m.testBit i = true → ∀ j ∈ (tbl[i]?).getD [], m.testBit j = true) → (∀ j ∈ (tbl[n]?).getD [], m.testBit j = true) → ∀ i, i < n → m.testBit i = true := by
  intro m hcl hde
  have : ∀ d i, i < n → n - i = d → m.testBit i = true := by
   intro d
   induction d using Nat.strongRecOn with
   | ind d ih =>
     intro i hi hd0
     have h1 := List.all_eq_true.1 hup i (List.mem_range.2 hi)
     obtain ⟨k, hk1, hk2⟩ := List.any_eq_true.1 h1
     have hk3 := List.mem_range.1 hk1
     simp only [Bool.and_eq_true, decide_eq_true_eq, List.contains_eq_mem] at hk2
     by_cases hkn : k = n
     ·subst hkn; exact hde i hk2.2
     ·exact hcl k (ih (n - k) (by omega) k (by omega) rfl) i hk2.2
  exact fun i hi => this _ i hi rfl
 have hstart : zeV rows base N w 0 a w.drew := ⟨hsz, hdf, Lat.drew w, hb, fun j r d h => by rw [Nat.zero_testBit] at h; cases h⟩
 let J : Nat → Act → World → Prop := fun m a W => (m.testBit n = false ∧ (∀ i, m.testBit i = true → ∀ j ∈ (tbl[i]?).getD [], m.testBit j = true) ∧ zeV rows base N w m a W) ∨ ((∀ i, i < n + 1 → m.testBit i = true) ∧ Q .normal a W)
 refine zbf (I := J) (n := n + 1) (tbl := tbl) (hm := hm) (hn := hn) (ht := ht) (hd := hd) (h0 := .inl ⟨by simp, fun i hi => (by rw [Nat.zero_testBit] at hi; cases hi), hstart⟩) ?_ ?_
 ·intro i hi o m a w1 ho hmi hdeps hJ
  have hdepsT : ∀ j ∈ (tbl[i]?).getD [], m.testBit j = true := by rw [← ht]; exact hdeps
  rcases hJ with ⟨hbn, hcl, hI⟩ | ⟨hall, _⟩
  case inr => rw [hall i hi] at hmi; cases hmi
  by_cases hin : i = n
  ·subst hin
   have hall := hreach m hcl hdepsT
   have hl := hend a w1 hI.size hI.defers hI.lat hI.base (fun j r d h1 h2 => hI.slot j r d (hall j (by rw [← hlen]; exact (List.getElem?_eq_some_iff.1 h1).1)) h1 h2)
   obtain rfl : o = o9 := by rw [ho] at ho9; cases ho9; rfl
   unfold wpOp
   rw [ho]
   have hw : Region.wanted o (yielded ops a.tmps) = true := by unfold Region.wanted; rw [hg9]
   simp only [if_pos hw]
   refine Or.inl (Oper.wp_mono (fun a' w' h => Or.inr ⟨fun k hk => ?_, h⟩) hl)
   rw [Nat.testBit_or, Nat.testBit_two_pow]
   by_cases e : i = k
   ·simp [e]
   ·rw [hall k (by omega)]; rfl
  have hi : i < n := by omega
  have hlift : ∀ a' W', zeV rows base N w (m ||| 2 ^ i) a' W' → J (m ||| 2 ^ i) a' W' := by
   intro a' W' h
   refine .inl ⟨?_, fun k hk j hj => ?_, h⟩
   ·rw [Nat.testBit_or, Nat.testBit_two_pow, hbn]
    simp [hin]
   ·rw [Nat.testBit_or, Nat.testBit_two_pow] at hk
    have : m.testBit j = true := by
     by_cases e : i = k
     ·subst e; exact hdepsT j hj
     ·rw [Bool.or_eq_true] at hk
      rcases hk with hk | hk
      ·exact hcl k hk j hj
      ·exact absurd (of_decide_eq_true hk) e
    rw [Nat.testBit_or, this]; rfl
  obtain ⟨r, hr, hkey⟩ := hrow hi ho
  obtain ⟨S1, S2, S3⟩ := hstep.get r (List.mem_of_getElem? hr)
  unfold SRow.key zbQ at hkey
  simp only [Prod.mk.injEq] at hkey
  obtain ⟨ke1, ke2, ke3, ke4⟩ := hkey
  have hdeps' : ∀ j ∈ r.deps, m.testBit j = true := by
   intro j hj
   refine hdeps j ?_
   unfold zaQ
   rw [List.getElem?_map, Array.getElem?_toList, ho]
   simp only [Option.map_some, Option.getD_some]
   rw [ke4]
   exact hj
  have hw : Region.wanted o (yielded ops a.tmps) = true := by
   unfold Region.wanted
   cases hg : o.guard with
   | none => rfl
   | some p =>
     obtain ⟨j, b⟩ := p
     obtain ⟨rj, h1, ⟨d, h2⟩, h3, h4⟩ := S2 j b (by rw [← ke3, hg])
     obtain ⟨v, h5, h6⟩ := hI.slot j rj d (hdeps' j h3) h1 h2
     have h7 := h4 v w1 h6
     subst h7
     have hjn : j < n := by rw [← hlen]; exact (List.getElem?_eq_some_iff.1 h1).1
     have hj : j < ops.size := by omega
     obtain ⟨rj', h8, h9⟩ := hrow hjn (Array.getElem?_eq_getElem hj)
     rw [h1] at h8
     cases h8
     unfold SRow.key zbQ at h9
     simp only [Prod.mk.injEq] at h9
     unfold yielded
     unfold Slot at h5
     have hd0 : ops[j].dst = some d := by rw [h9.2.1, h2]
     simp only [Array.getElem?_eq_getElem hj, Option.bind_some, hd0, h5]
     cases b <;> rfl
  have hput : ∀ v w', Lat w1 w' → (r.dst.isSome = true → r.V v w') → zeV rows base N w (m ||| 2 ^ i) (a.put o.dst v) w' := by
   intro v w' hl hv
   have hmono : ∀ j rj d, (m ||| 2 ^ i).testBit j = true → j ≠ i → rows[j]? = some rj → rj.dst = some d → ∃ v, Slot a d v ∧ rj.V v w' := by
    intro j rj d hj hne h1 h2
    have hj' : m.testBit j = true := by
     rw [Nat.testBit_or, Nat.testBit_two_pow] at hj
     have : ¬ i = j := fun e => hne e.symm
     simpa [this] using hj
    obtain ⟨u, h3, h4⟩ := hI.slot j rj d hj' h1 h2
    obtain ⟨T1, _, _⟩ := hstep.get rj (List.mem_of_getElem? h1)
    exact ⟨u, h3, T1 u _ _ h4 hl⟩
   cases hdd : r.dst with
   | none =>
     rw [hdd] at ke2
     rw [ke2]
     refine ⟨hI.size, hI.defers, hI.lat.trans hl, hI.base, fun j rj d hj h1 h2 => ?_⟩
     by_cases hne : j = i
     ·subst hne
      rw [hr] at h1; cases h1
      rw [hdd] at h2; cases h2
     ·exact hmono j rj d hj hne h1 h2
   | some d0 =>
     rw [hdd] at ke2
     rw [ke2]
     obtain ⟨hd0, hd1⟩ := hdst hr hdd
     have hv' := hv (by rw [hdd]; rfl)
     refine ⟨by simp [Act.put, hI.size], by simp [Act.put, hI.defers], hI.lat.trans hl, fun k u hk => ?_, fun j rj d hj h1 h2 => ?_⟩
     ·have := hI.base k u hk
      unfold Slot at this ⊢
      simp only [Act.put]
      rw [Array.getElem?_setIfInBounds_ne (fun e => by subst e; rw [hd1] at hk; cases hk)]
      exact this
     ·by_cases hne : j = i
      ·subst hne
       rw [hr] at h1; cases h1
       rw [hdd] at h2; cases h2
       refine ⟨v, ?_, hv'⟩
       unfold Slot
       simp [Act.put, hI.size, hd0]
      ·obtain ⟨u, h3, h4⟩ := hmono j rj d hj hne h1 h2
       refine ⟨u, ?_, h4⟩
       unfold Slot at h3 ⊢
       simp only [Act.put]
       rw [Array.getElem?_setIfInBounds_ne (fun e => by subst e; exact hne (zdE hdis2 h1 hr h2 hdd))]
       exact h3
  have hruns := S3 a w1 hI.lat (fun k v hk => (hI.base k v hk).ev) (fun j rj d hj h1 h2 => by
   obtain ⟨v, h3, h4⟩ := hI.slot j rj d (hdeps' j hj) h1 h2
   exact ⟨v, h3.ev, h4⟩) o ke1
  unfold wpOp
  rw [ho]
  simp only [if_pos hw]
  refine Or.inl ?_
  unfold Oper.wp
  rcases hruns with ⟨v, w', h1, h2, h3⟩ | ⟨f, args, h1, h2⟩
  ·rw [h1, Oper.upon_value]
   exact hlift _ _ (hput v w' h2 h3)
  ·rw [h1, Oper.upon_enter]
   refine h2.mono fun e w' h => ?_
   obtain ⟨v, rfl, h3, h4⟩ := h
   exact hlift _ _ (hput v w' h3 h4)
 ·intro m a W hall hJ
  rcases hJ with ⟨hbn, _, _⟩ | ⟨_, h⟩
  ·rw [hall n (by omega)] at hbn; cases hbn
  ·exact h
theorem zkn {P : Program} {ops : Array Oper} {Q : Exit → Act → World → Prop} {n : Nat} {tbl : List (List Nat)} (ht : zaQ ops = tbl) (hd : ((List.range n).all fun i => ((tbl[i]?).getD []).all fun j => decide (j < i)) = true)
  (hn : ops.size = n) {I : Nat → Act → World → Prop} (hstep : ∀ i, i < n → zfN P ops Q I i) (hend : ∀ m a w, (∀ i, i < n → m.testBit i = true) → I m a w → Q .normal a w) :
  ∀ (d k m : Nat) (a : Act) (w : World), k + d = n → (∀ j, j < k → m.testBit j = true) → (∀ j, k ≤ j → j < n → m.testBit j = false) → I m a w → wpOps P ops Q (List.range' k d) a w := by
 intro d
 induction d with
 | zero =>
   intro k m a w hk h1 _ hI
   exact hend m a w (fun i hi => h1 i (by omega)) hI
 | succ d ih =>
   intro k m a w hk h1 h2 hI
   have hkn : k < n := by omega
   have ho : ops[k]? = some ops[k] := Array.getElem?_eq_getElem (by omega)
   have hs := hstep k hkn ops[k] m a w ho (h2 k (Nat.le_refl _) hkn) (fun j hj => h1 j (by
    rw [ht] at hj
    have h3 := List.all_eq_true.1 hd k (List.mem_range.2 hkn)
    exact of_decide_eq_true (List.all_eq_true.1 h3 _ hj))) hI
   show wpOp P ops Q k (wpOps P ops Q (List.range' (k + 1) d)) a w
   refine wpOp_mono (fun a' w' h => ih (k + 1) (m ||| 2 ^ k) a' w' (by omega) (fun j hj => ?_) (fun j hj hjn => ?_) h) hs
   ·rw [Nat.testBit_or, Nat.testBit_two_pow]
    by_cases e : k = j
    ·simp [e]
    ·rw [h1 j (by omega)]; rfl
   ·rw [Nat.testBit_or, Nat.testBit_two_pow, h2 j (by omega) hjn]
    have : ¬ k = j := by omega
    simp [this]
theorem zcC {P : Program} {ops : Array Oper} {Q : Exit → Act → World → Prop} {id : Nat} {b : Bool} {a : Act} {w : World} (n : Nat) (tbl : List (List Nat)) (I : Nat → Act → World → Prop) (hm : P.follows .mixedOrders = true) (hn : ops.size = n) (ht : zaQ ops = tbl)
  (hd : ((List.range n).all fun i => ((tbl[i]?).getD []).all fun j => decide (j < i)) = true) (h0 : I 0 a w.drew) (h1 : I 0 a w) (hstep : ∀ i, i < n → zfN P ops Q I i)
  (hend : ∀ m a w, (∀ i, i < n → m.testBit i = true) → I m a w → Q .normal a w) : (Code.region id ops b).wp P Q a w := by
 cases b with
 | true => exact zbf n tbl I hm hn ht hd h0 hstep hend
 | false =>
   refine wp_region ?_
   rw [hn, List.range_eq_range']
   exact zkn ht hd hn hstep hend n 0 0 a w (by omega) (fun j hj => by omega) (fun j _ _ => Nat.zero_testBit j) h1
section
def zmU (P : Program) (rows : List SRow) (base : List (Nat × Value)) (W0 : World) (r : SRow) : Prop :=
 (∀ v w w', r.V v w → Lat w w' → r.V v w') ∧
 (((∀ j b, r.guard = some (j, b) → ∃ rj : SRow, rows[j]? = some rj ∧ (∃ d, rj.dst = some d) ∧ j ∈ r.deps ∧ ∀ v w, rj.V v w → v = .bool b) ∧
   ∀ (a : Act) (w : World), Lat W0 w → (∀ k v, base.lookup k = some v → a.eval (.tmp k) = v) → (∀ (j : Nat) (rj : SRow) (d : Tmp), j ∈ r.deps → rows[j]? = some rj → rj.dst = some d → ∃ v, a.eval (.tmp d) = v ∧ rj.V v w) →
    ∀ o : Oper, o.op = r.op → Runs P o a.eval w (fun v w' => Lat w w' ∧ (r.dst.isSome = true → r.V v w'))) ∨
  ((∃ j b, ∃ rj : SRow, r.guard = some (j, b) ∧ rows[j]? = some rj ∧ (∃ d, rj.dst = some d) ∧ j ∈ r.deps ∧ ∀ v w, rj.V v w → v ≠ .bool b) ∧ ∀ w, r.V undef w))
def AllStepsN (P : Program) (rows : List SRow) (base : List (Nat × Value)) (W0 : World) : List SRow → Prop
 | [] => True
 | r :: rs => zmU P rows base W0 r ∧ AllStepsN P rows base W0 rs
theorem AllStepsN.get {P : Program} {rows : List SRow} {base : List (Nat × Value)} {W0 : World} {l : List SRow} (h : AllStepsN P rows base W0 l) : ∀ r ∈ l, zmU P rows base W0 r := by
 induction l with
 | nil => intro r hr; cases hr
 | cons x xs ih =>
   intro r hr
   rcases List.mem_cons.1 hr with e | hr
   ·rw [e]; exact h.1
   ·exact ih h.2 r hr
theorem AllStepsN.next {P : Program} {rows : List SRow} {base : List (Nat × Value)} {W0 : World} {r : SRow} {rs : List SRow} (h1 : ∀ v w w', r.V v w → Lat w w' → r.V v w')
  (h2 : ∀ j b, r.guard = some (j, b) → ∃ rj : SRow, rows[j]? = some rj ∧ (∃ d, rj.dst = some d) ∧ j ∈ r.deps ∧ ∀ v w, rj.V v w → v = .bool b)
  (h3 : ∀ (a : Act) (w : World), Lat W0 w → (∀ k v, base.lookup k = some v → a.eval (.tmp k) = v) → (∀ (j : Nat) (rj : SRow) (d : Tmp), j ∈ r.deps → rows[j]? = some rj → rj.dst = some d → ∃ v, a.eval (.tmp d) = v ∧ rj.V v w) →
    ∀ o : Oper, o.op = r.op → Runs P o a.eval w (fun v w' => Lat w w' ∧ (r.dst.isSome = true → r.V v w')))
  (h4 : AllStepsN P rows base W0 rs) : AllStepsN P rows base W0 (r :: rs) := ⟨⟨h1, .inl ⟨h2, h3⟩⟩, h4⟩
theorem AllStepsN.skip {P : Program} {rows : List SRow} {base : List (Nat × Value)} {W0 : World} {r : SRow} {rs : List SRow} (h1 : ∀ v w w', r.V v w → Lat w w' → r.V v w')
  (h2 : ∃ j b, ∃ rj : SRow, r.guard = some (j, b) ∧ rows[j]? = some rj ∧ (∃ d, rj.dst = some d) ∧ j ∈ r.deps ∧ ∀ v w, rj.V v w → v ≠ .bool b) (h3 : ∀ w, r.V undef w)
  (h4 : AllStepsN P rows base W0 rs) : AllStepsN P rows base W0 (r :: rs) := ⟨⟨h1, .inr ⟨h2, h3⟩⟩, h4⟩
theorem AllStepsN.none {P : Program} {rows : List SRow} {base : List (Nat × Value)} {W0 : World} : AllStepsN P rows base W0 [] := trivial
theorem zae {P : Program} {ops : Array Oper} {Q : Exit → Act → World → Prop} {id : Nat} {b : Bool} {a : Act} {w : World} (rows : List SRow) (base : List (Nat × Value)) (N n : Nat) (tbl : List (List Nat))
  (hm : P.follows .mixedOrders = true) (hn : ops.size = n) (ht : zaQ ops = tbl) (hd : ((List.range n).all fun i => ((tbl[i]?).getD []).all fun j => decide (j < i)) = true) (hk : ops.toList.map zbQ = rows.map SRow.key)
  (hdis : distinct rows base N = true) (hsz : a.tmps.size = N) (hdf : a.defers = []) (hb : ∀ k v, base.lookup k = some v → Slot a k v) (hstep : AllStepsN P rows base w rows)
  (hend : ∀ a W, a.tmps.size = N → a.defers = [] → Lat w W → (∀ k v, base.lookup k = some v → Slot a k v) → (∀ (j : Nat) r d, rows[j]? = some r → r.dst = some d → ∃ v, Slot a d v ∧ r.V v W) → Q .normal a W) : (Code.region id ops b).wp P Q a w := by
 have hrow : ∀ {i : Nat} {o : Oper}, ops[i]? = some o → ∃ r, rows[i]? = some r ∧ zbQ o = r.key := by
  intro i o ho
  have h1 : (ops.toList.map zbQ)[i]? = some (zbQ o) := by simp [ho]
  rw [hk, List.getElem?_map] at h1
  cases hr : rows[i]? with
  | none => rw [hr] at h1; cases h1
  | some r => rw [hr] at h1; simp only [Option.map_some, Option.some.injEq] at h1; exact ⟨r, rfl, h1.symm⟩
 simp only [distinct, Bool.and_eq_true] at hdis
 obtain ⟨hdis1, hdis2⟩ := hdis
 have hdst : ∀ {i : Nat} {r : SRow} {d : Tmp}, rows[i]? = some r → r.dst = some d → d < N ∧ base.lookup d = none := by
  intro i r d h1 h2
  have := List.all_eq_true.1 hdis1 d (List.mem_filterMap.2 ⟨r, List.mem_of_getElem? h1, h2⟩)
  simpa using this
 have hlen : rows.length = n := by
  have := congrArg List.length hk
  simp at this
  omega
 have hstart : zeV rows base N w 0 a w.drew := ⟨hsz, hdf, Lat.drew w, hb, fun j r d h => by rw [Nat.zero_testBit] at h; cases h⟩
 refine zcC (h1 := ⟨hsz, hdf, Lat.refl w, hb, fun j r d h => (by rw [Nat.zero_testBit] at h; cases h)⟩) (I := zeV rows base N w) (n := n) (tbl := tbl) (hm := hm) (hn := hn) (ht := ht) (hd := hd) (h0 := hstart) ?_ ?_
 ·intro i hi o m a w1 ho hmi hdeps hI
  obtain ⟨r, hr, hkey⟩ := hrow ho
  obtain ⟨S1, S23⟩ := hstep.get r (List.mem_of_getElem? hr)
  unfold SRow.key zbQ at hkey
  simp only [Prod.mk.injEq] at hkey
  obtain ⟨ke1, ke2, ke3, ke4⟩ := hkey
  have hdeps' : ∀ j ∈ r.deps, m.testBit j = true := by
   intro j hj
   refine hdeps j ?_
   unfold zaQ
   rw [List.getElem?_map, Array.getElem?_toList, ho]
   simp only [Option.map_some, Option.getD_some]
   rw [ke4]
   exact hj
  have hput : ∀ v w', Lat w1 w' → (r.dst.isSome = true → r.V v w') → zeV rows base N w (m ||| 2 ^ i) (a.put o.dst v) w' := by
   intro v w' hl hv
   have hmono : ∀ j rj d, (m ||| 2 ^ i).testBit j = true → j ≠ i → rows[j]? = some rj → rj.dst = some d → ∃ v, Slot a d v ∧ rj.V v w' := by
    intro j rj d hj hne h1 h2
    have hj' : m.testBit j = true := by
     rw [Nat.testBit_or, Nat.testBit_two_pow] at hj
     have : ¬ i = j := fun e => hne e.symm
     simpa [this] using hj
    obtain ⟨u, h3, h4⟩ := hI.slot j rj d hj' h1 h2
    obtain ⟨T1, _⟩ := hstep.get rj (List.mem_of_getElem? h1)
    exact ⟨u, h3, T1 u _ _ h4 hl⟩
   cases hdd : r.dst with
   | none =>
     rw [hdd] at ke2
     rw [ke2]
     refine ⟨hI.size, hI.defers, hI.lat.trans hl, hI.base, fun j rj d hj h1 h2 => ?_⟩
     by_cases hne : j = i
     ·subst hne
      rw [hr] at h1; cases h1
      rw [hdd] at h2; cases h2
     ·exact hmono j rj d hj hne h1 h2
   | some d0 =>
     rw [hdd] at ke2
     rw [ke2]
     obtain ⟨hd0, hd1⟩ := hdst hr hdd
     have hv' := hv (by rw [hdd]; rfl)
     refine ⟨by simp [Act.put, hI.size], by simp [Act.put, hI.defers], hI.lat.trans hl, fun k u hk => ?_, fun j rj d hj h1 h2 => ?_⟩
     ·have := hI.base k u hk
      unfold Slot at this ⊢
      simp only [Act.put]
      rw [Array.getElem?_setIfInBounds_ne (fun e => by subst e; rw [hd1] at hk; cases hk)]
      exact this
     ·by_cases hne : j = i
      ·subst hne
       rw [hr] at h1; cases h1
       rw [hdd] at h2; cases h2
       refine ⟨v, ?_, hv'⟩
       unfold Slot
       simp [Act.put, hI.size, hd0]
      ·obtain ⟨u, h3, h4⟩ := hmono j rj d hj hne h1 h2
       refine ⟨u, ?_, h4⟩
       unfold Slot at h3 ⊢
       simp only [Act.put]
       rw [Array.getElem?_setIfInBounds_ne (fun e => by subst e; exact hne (zdE hdis2 h1 hr h2 hdd))]
       exact h3
  rcases S23 with ⟨S2, S3⟩ | ⟨S2, S3⟩
  ·have hw : Region.wanted o (yielded ops a.tmps) = true := by
    unfold Region.wanted
    cases hg : o.guard with
    | none => rfl
    | some p =>
      obtain ⟨j, b⟩ := p
      obtain ⟨rj, h1, ⟨d, h2⟩, h3, h4⟩ := S2 j b (by rw [← ke3, hg])
      obtain ⟨v, h5, h6⟩ := hI.slot j rj d (hdeps' j h3) h1 h2
      have h7 := h4 v w1 h6
      subst h7
      have hjn : j < n := by rw [← hlen]; exact (List.getElem?_eq_some_iff.1 h1).1
      have hj : j < ops.size := by omega
      obtain ⟨rj', h8, h9⟩ := hrow (Array.getElem?_eq_getElem hj)
      rw [h1] at h8
      cases h8
      unfold SRow.key zbQ at h9
      simp only [Prod.mk.injEq] at h9
      unfold yielded
      unfold Slot at h5
      have hd0 : ops[j].dst = some d := by rw [h9.2.1, h2]
      simp only [Array.getElem?_eq_getElem hj, Option.bind_some, hd0, h5]
      cases b <;> rfl
   have hruns := S3 a w1 hI.lat (fun k v hk => (hI.base k v hk).ev) (fun j rj d hj h1 h2 => by
    obtain ⟨v, h3, h4⟩ := hI.slot j rj d (hdeps' j hj) h1 h2
    exact ⟨v, h3.ev, h4⟩) o ke1
   unfold wpOp
   rw [ho]
   simp only [if_pos hw]
   refine Or.inl ?_
   unfold Oper.wp
   rcases hruns with ⟨v, w', h1, h2, h3⟩ | ⟨f, args, h1, h2⟩
   ·rw [h1, Oper.upon_value]
    exact hput v w' h2 h3
   ·rw [h1, Oper.upon_enter]
    refine h2.mono fun e w' h => ?_
    obtain ⟨v, rfl, h3, h4⟩ := h
    exact hput v w' h3 h4
  ·have hw : Region.wanted o (yielded ops a.tmps) = false := by
    unfold Region.wanted
    obtain ⟨j, b, rj, hg0, h1, ⟨d, h2⟩, h3, h4⟩ := S2
    have hg : o.guard = some (j, b) := by rw [ke3]; exact hg0
    rw [hg]
    obtain ⟨v, h5, h6⟩ := hI.slot j rj d (hdeps' j h3) h1 h2
    have h7 := h4 v w1 h6
    have hjn : j < n := by rw [← hlen]; exact (List.getElem?_eq_some_iff.1 h1).1
    have hj : j < ops.size := by omega
    obtain ⟨rj', h8, h9⟩ := hrow (Array.getElem?_eq_getElem hj)
    rw [h1] at h8
    cases h8
    unfold SRow.key zbQ at h9
    simp only [Prod.mk.injEq] at h9
    unfold yielded
    unfold Slot at h5
    have hd0 : ops[j].dst = some d := by rw [h9.2.1, h2]
    simp only [Array.getElem?_eq_getElem hj, Option.bind_some, hd0, h5]
    cases v <;> first | rfl | (rename_i x; cases x <;> cases b <;> first | rfl | exact absurd rfl h7)
   unfold wpOp
   rw [ho]
   simp only [hw]
   exact hput undef w1 (Lat.refl _) (fun _ => S3 w1)
 ·intro m a W hall hI
  exact hend a W hI.size hI.defers hI.lat hI.base (fun j r d h1 h2 => hI.slot j r d (hall j (by rw [← hlen]; exact (List.getElem?_eq_some_iff.1 h1).1)) h1 h2)
end
section
variable {P : Program} {S : World → Prop} {a : Act}
theorem zhu {x : Operand} {v : Value} (hx : a.eval x = v) : ∀ (o : Oper) (w : World), o.op = .move x → S w → (execOp a.eval o).run P w = .ok (.value v) w := by
 intro o w ho _
 unfold execOp
 simp [ho, hx]
theorem zd9 {x : Operand} {v : Value} {w : World} (hx : a.eval x = v) : ∀ o : Oper, o.op = .assign x → (execOp a.eval o).run P w = .ok (.value v) w := by
 intro o ho
 unfold execOp
 simp [ho, hx]
theorem zcs {x : Operand} {v : Value} (hx : a.eval x = v) : ∀ (o : Oper) (w : World), o.op = .assign x → S w → (execOp a.eval o).run P w = .ok (.value v) w := fun o _ ho _ => zd9 hx o ho
theorem zdo {c x y : Operand} {v : Value} (hc : a.eval c = .bool true) (hx : a.eval x = v) : ∀ (o : Oper) (w : World), o.op = .pick c x y → S w → (execOp a.eval o).run P w = .ok (.value v) w := by
 intro o w ho _
 unfold execOp
 generalize a.eval = ev at hc hx ⊢
 simp [ho, hc, hx, go_sem]
theorem zh4 {op : BinOp} {t t2 : TypeId} {x y : Operand} {X Y : Array Value} {V : Value} (hx : a.eval x = .agg X) (hy : a.eval y = .agg Y) (hm : P.eqGuardType P.depth t = false) (hrun : ∀ w, (binOp op t (.agg X) (.agg Y)).run P w = .ok V w) :
  ∀ (o : Oper) (w : World), o.op = .binOp op t x y t2 → S w → (execOp a.eval o).run P w = .ok (.value V) w := by
 intro o w ho _
 unfold execOp
 have hg := run_eqGuard_agg (P := P) w op t x y X Y hm
 simp [ho, hx, hy, hg, hrun w]
theorem zah {ty : TypeId} {x : Operand} {b : Nat} {cs : List Value} {d : TypeDesc} (hx : a.eval x = .pointer (some ⟨b, 0, none⟩)) (hR : ∀ w, S w → w.rangeAt b 0 cs) (hu : P.underlying ty = some d) (hd : d.isRow = true) (hi : (P.info? ty).map (·.size) = some cs.length) :
  ∀ (o : Oper) (w : World), o.op = .load ty x → S w → (execOp a.eval o).run P w = .ok (.value (.agg cs.toArray)) w := by
 intro o w ho hS
 unfold execOp
 simp only [ho, hx, Instr.loadAt, Instr.sureAddr, Sem.run_bind, Sem.run_pure, Result.andThen_ok, run_loadVar_mid w b 0 ty cs d (hR w hS) hu hd hi]
theorem zan {P : Program} {f : FuncId} {args : Array Operand} {tys : Array TypeId} {vals : Array Value} {w : World} (hf : ∀ vals, (callFunc f vals).run P w = .ok (.enter f vals) w) : ∀ o : Oper, o.op = .call ⟨.value (.func f), args, tys⟩ → args.map a.eval = vals → (execOp a.eval o).run P w = .ok (.enter f vals) w := by
 intro o ho ha
 obtain ⟨d, op, ty, p, af, g⟩ := o
 simp only at ho
 subst ho
 subst ha
 unfold execOp
 go_simp
end
theorem eval_const (a : Act) (v : Value) : a.eval (.const v) = v := rfl
section
variable {P : Program} {o : Oper} {ev : Operand → Value} {w : World} {R : Value → World → Prop}
theorem Runs.val {v : Value} (h : (execOp ev o).run P w = .ok (.value v) w) (k : R v w) : Runs P o ev w R := .inl ⟨v, w, h, k⟩
theorem Runs.new {v : Value} {w' : World} (h : (execOp ev o).run P w = .ok (.value v) w') (k : R v w') : Runs P o ev w R := .inl ⟨v, w', h, k⟩
theorem Runs.call {f : FuncId} {args : Array Value} (h : (execOp ev o).run P w = .ok (.enter f args) w) (k : Calls P f args w (fun e w' => ∃ v, e = .returned v ∧ R v w')) : Runs P o ev w R := .inr ⟨f, args, h, k⟩
end
section
variable {P : Program} {a : Act} {S : World → Prop}
theorem zlS {c x y : Operand} {v : Value} (hc : a.eval c = .bool false) (hx : a.eval y = v) : ∀ (o : Oper) (w : World), o.op = .pick c x y → S w → (execOp a.eval o).run P w = .ok (.value v) w := by
 intro o w ho _
 unfold execOp
 generalize a.eval = ev at hc hx ⊢
 simp [ho, hc, hx, go_sem]
end
theorem spell (n : Nat) (T : Array Value) (h : T.size = n) : T = ((List.range n).map fun k => T.getD k undef).toArray := by
 apply Array.ext
 ·simp [h]
 ·intro i h1 h2
  simp [Array.getD, h1]
theorem zaa {a : Act} {d : Tmp} {v : Value} (h : Slot a d v) : a.tmps.getD d undef = v := by
 unfold Slot at h
 rw [Array.getD_eq_getD_getElem?, h]; rfl
def zcM (a : Act) : List (Nat × Value) → Prop
 | [] => True
 | p :: r => Slot a p.1 p.2 ∧ zcM a r
theorem base_nil (a : Act) : zcM a [] := trivial
theorem zaD {a : Act} {k : Nat} {v : Value} {r : List (Nat × Value)} (h : a.tmps[k]? = some v) (hr : zcM a r) : zcM a ((k, v) :: r) := ⟨h, hr⟩
theorem base_of {a : Act} {l : List (Nat × Value)} (h : zcM a l) : ∀ k v, l.lookup k = some v → Slot a k v := by
 induction l with
 | nil => intro k v hk; cases hk
 | cons p r ih =>
   intro k v hk
   rw [List.lookup_cons] at hk
   by_cases e : k = p.1
   ·rw [e] at hk ⊢
    simp at hk
    rw [← hk]
    exact h.1
   ·have e' : (k == p.1) = false := by simpa using e
    rw [e'] at hk
    exact ih h.2 k v hk
theorem AllSteps.next {P : Program} {rows : List SRow} {base : List (Nat × Value)} {W0 : World} {r : SRow} {rs : List SRow} (h1 : ∀ v w w', r.V v w → Lat w w' → r.V v w')
  (h2 : ∀ j b, r.guard = some (j, b) → ∃ rj : SRow, rows[j]? = some rj ∧ (∃ d, rj.dst = some d) ∧ j ∈ r.deps ∧ ∀ v w, rj.V v w → v = .bool b)
  (h3 : ∀ (a : Act) (w : World), Lat W0 w → (∀ k v, base.lookup k = some v → a.eval (.tmp k) = v) → (∀ (j : Nat) (rj : SRow) (d : Tmp), j ∈ r.deps → rows[j]? = some rj → rj.dst = some d → ∃ v, a.eval (.tmp d) = v ∧ rj.V v w) →
    ∀ o : Oper, o.op = r.op → Runs P o a.eval w (fun v w' => Lat w w' ∧ (r.dst.isSome = true → r.V v w'))) (hs : AllSteps P rows base W0 rs) : AllSteps P rows base W0 (r :: rs) := ⟨⟨h1, h2, h3⟩, hs⟩
theorem AllSteps.none {P : Program} {rows : List SRow} {base : List (Nat × Value)} {W0 : World} : AllSteps P rows base W0 [] := trivial
section
variable {P : Program} {rows : List SRow} {base : List (Nat × Value)} {W0 : World} {rs : List SRow} {op : Op} {dst : Option Tmp} {g : Option (Nat × Bool)} {deps : List Nat} {c x y : Value} {t u : Nat}
def EvIs (rows : List SRow) (base : List (Nat × Value)) (deps : List Nat) (t : Nat) (x : Value) : Prop :=
 base.lookup t = some x ∨ ∃ (j : Nat) (rj : SRow), j ∈ deps ∧ rows[j]? = some rj ∧ rj.dst = some t ∧ ∀ v w, rj.V v w → v = x
theorem eb (t : Nat) (h : base.lookup t = some x := by rfl) : EvIs rows base deps t x := .inl h
theorem ed (j : Nat) {rj : SRow} (h1 : rows[j]? = some rj := by rfl) (h0 : j ∈ deps := by simp) (h2 : rj.dst = some t := by rfl) (h3 : ∀ v w, rj.V v w → v = x := by exact fun _ _ h => h) : EvIs rows base deps t x := .inr ⟨j, rj, h0, h1, h2, h3⟩
def zok (rows : List SRow) (g : Option (Nat × Bool)) (deps : List Nat) : Prop := ∀ j b, g = some (j, b) → ∃ rj : SRow, rows[j]? = some rj ∧ (∃ d, rj.dst = some d) ∧ j ∈ deps ∧ ∀ v w, rj.V v w → v = .bool b
theorem gd0 : zok rows none deps := fun j b h => by cases h
theorem gd1 {j : Nat} {b : Bool} {rj : SRow} {d : Tmp} (h1 : rows[j]? = some rj) (h2 : rj.dst = some d) (h3 : j ∈ deps) (h4 : ∀ v w, rj.V v w → v = .bool b) : zok rows (some (j, b)) deps := fun j' b' h => by cases h; exact ⟨rj, h1, ⟨d, h2⟩, h3, h4⟩
theorem EvIs.get (h : EvIs rows base deps t x) {ev : Operand → Value} {w : World} (hb : ∀ k v, base.lookup k = some v → ev (.tmp k) = v) (hd : ∀ (j : Nat) (rj : SRow) (d : Tmp), j ∈ deps → rows[j]? = some rj → rj.dst = some d → ∃ v, ev (.tmp d) = v ∧ rj.V v w) : ev (.tmp t) = x := by
 rcases h with h | ⟨j, rj, h0, h1, h2, h3⟩
 ·exact hb _ _ h
 ·obtain ⟨v, hv, hV⟩ := hd j rj t h0 h1 h2
  rw [hv]
  exact h3 v w hV
theorem n0 (h4 : AllStepsN P rows base W0 rs) (h : ∀ (ev : Operand → Value) (w : World), Lat W0 w → (∀ v, ev (.const v) = v) → ∀ d ty p af q, (execOp ev ⟨d, op, ty, p, af, q⟩).run P w = .ok (.value c) w)
  (hg : zok rows g deps := by first | exact gd0 | exact gd1 rfl rfl (by simp) (fun _ _ h => h)) : AllStepsN P rows base W0 (⟨op, dst, g, deps, fun v _ => v = c⟩ :: rs) :=
 AllStepsN.next (fun _ _ _ h _ => h) hg (fun a w hl _ _ o ho => by
  obtain ⟨d, op', ty, p, af, q⟩ := o
  simp only at ho
  subst ho
  exact Runs.val (h a.eval w hl (fun _ => rfl) d ty p af q) ⟨Lat.refl _, fun _ => rfl⟩) h4
theorem n1 (h4 : AllStepsN P rows base W0 rs) (E : EvIs rows base deps t x) (h : ∀ (ev : Operand → Value) (w : World), Lat W0 w → (∀ v, ev (.const v) = v) → ev (.tmp t) = x → ∀ d ty p af q, (execOp ev ⟨d, op, ty, p, af, q⟩).run P w = .ok (.value c) w)
  (hg : zok rows g deps := by first | exact gd0 | exact gd1 rfl rfl (by simp) (fun _ _ h => h)) : AllStepsN P rows base W0 (⟨op, dst, g, deps, fun v _ => v = c⟩ :: rs) :=
 AllStepsN.next (fun _ _ _ h _ => h) hg (fun a w hl hb hd o ho => by
  obtain ⟨d, op', ty, p, af, q⟩ := o
  simp only at ho
  subst ho
  exact Runs.val (h a.eval w hl (fun _ => rfl) (E.get hb hd) d ty p af q) ⟨Lat.refl _, fun _ => rfl⟩) h4
theorem n2 (h4 : AllStepsN P rows base W0 rs) (E : EvIs rows base deps t x) (E2 : EvIs rows base deps u y) (h : ∀ (ev : Operand → Value) (w : World), Lat W0 w → (∀ v, ev (.const v) = v) → ev (.tmp t) = x → ev (.tmp u) = y → ∀ d ty p af q, (execOp ev ⟨d, op, ty, p, af, q⟩).run P w = .ok (.value c) w)
  (hg : zok rows g deps := by first | exact gd0 | exact gd1 rfl rfl (by simp) (fun _ _ h => h)) : AllStepsN P rows base W0 (⟨op, dst, g, deps, fun v _ => v = c⟩ :: rs) :=
 AllStepsN.next (fun _ _ _ h _ => h) hg (fun a w hl hb hd o ho => by
  obtain ⟨d, op', ty, p, af, q⟩ := o
  simp only at ho
  subst ho
  exact Runs.val (h a.eval w hl (fun _ => rfl) (E.get hb hd) (E2.get hb hd) d ty p af q) ⟨Lat.refl _, fun _ => rfl⟩) h4
theorem nk {j : Nat} {b : Bool} {rj : SRow} {d : Tmp} (h4 : AllStepsN P rows base W0 rs) (h1 : rows[j]? = some rj := by rfl) (h2 : rj.dst = some d := by rfl) (h3 : j ∈ deps := by simp) (h5 : ∀ v w, rj.V v w → v ≠ .bool b := by (intro v w h; cases h; exact fun e => by cases e)) : AllStepsN P rows base W0 (⟨op, dst, some (j, b), deps, fun v _ => v = undef⟩ :: rs) :=
 AllStepsN.skip (fun _ _ _ h _ => h) ⟨j, b, rj, rfl, h1, ⟨d, h2⟩, h3, h5⟩ (fun _ => rfl) h4
end
theorem zad {L : List Value} {df} {k : Nat} {v : Value} {r : List (Nat × Value)} (h : L[k]? = some v) (hr : zcM ⟨L.toArray, df⟩ r) : zcM ⟨L.toArray, df⟩ ((k, v) :: r) := zaD (by simpa using h) hr
set_option linter.unusedVariables false
theorem nG {P : Program} {rows : List SRow} {base : List (Nat × Value)} {W0 : World} {r : SRow} {rs : List SRow} (h4 : AllStepsN P rows base W0 rs)
  (h3 : ∀ (a : Act) (w : World), Lat W0 w → (∀ k v, base.lookup k = some v → a.eval (.tmp k) = v) → (∀ (j : Nat) (rj : SRow) (d : Tmp), j ∈ r.deps → rows[j]? = some rj → rj.dst = some d → ∃ v, a.eval (.tmp d) = v ∧ rj.V v w) →
    ∀ o : Oper, o.op = r.op → Runs P o a.eval w (fun v w' => Lat w w' ∧ (r.dst.isSome = true → r.V v w')))
  (h1 : ∀ v w w', r.V v w → Lat w w' → r.V v w' := by first | exact fun _ _ _ h _ => h | exact fun _ _ _ h hl => h.mono hl)
  (h2 : ∀ j b, r.guard = some (j, b) → ∃ rj : SRow, rows[j]? = some rj ∧ (∃ d, rj.dst = some d) ∧ j ∈ r.deps ∧ ∀ v w, rj.V v w → v = .bool b := by first | (intro j b h; cases h; done) | (intro j b h; cases h; exact ⟨_, rfl, ⟨_, rfl⟩, by simp, fun _ _ h => h⟩)) :
  AllStepsN P rows base W0 (r :: rs) := .next h1 h2 h3 h4
theorem nS {P : Program} {rows : List SRow} {base : List (Nat × Value)} {W0 : World} {r : SRow} {rs : List SRow} (h4 : AllSteps P rows base W0 rs)
  (h3 : ∀ (a : Act) (w : World), Lat W0 w → (∀ k v, base.lookup k = some v → a.eval (.tmp k) = v) → (∀ (j : Nat) (rj : SRow) (d : Tmp), j ∈ r.deps → rows[j]? = some rj → rj.dst = some d → ∃ v, a.eval (.tmp d) = v ∧ rj.V v w) →
    ∀ o : Oper, o.op = r.op → Runs P o a.eval w (fun v w' => Lat w w' ∧ (r.dst.isSome = true → r.V v w')))
  (h1 : ∀ v w w', r.V v w → Lat w w' → r.V v w' := by first | exact fun _ _ _ h _ => h | exact fun _ _ _ h hl => h.mono hl)
  (h2 : ∀ j b, r.guard = some (j, b) → ∃ rj : SRow, rows[j]? = some rj ∧ (∃ d, rj.dst = some d) ∧ j ∈ r.deps ∧ ∀ v w, rj.V v w → v = .bool b := by first | (intro j b h; cases h; done) | (intro j b h; cases h; exact ⟨_, rfl, ⟨_, rfl⟩, by simp, fun _ _ h => h⟩)) :
  AllSteps P rows base W0 (r :: rs) := .next h1 h2 h3 h4
theorem rcO {P : Program} {f : Nat} {args : Array Operand} {tys : Array TypeId} {vals : Array Value} {w : World} {a : Act} {V : Value → World → Prop} {B : Prop} (o : Oper) (ho : o.op = .call ⟨.value (.func f), args, tys⟩)
  (H : Calls P f vals w (fun e w' => ∃ v, e = .returned v ∧ Lat w w' ∧ V v w'))
  (hf : ∀ vals, (callFunc f vals).run P w = .ok (.enter f vals) w := by intro _; go_simp) (ha : args.map a.eval = vals := by simp only [List.map_toArray, List.map_cons, List.map_nil, eval_const, *]) : Runs P o a.eval w (fun v w' => Lat w w' ∧ (B → V v w')) :=
 Runs.call (zan hf o ho ha) (H.mono fun e w' h => by obtain ⟨v, h1, h2, h3⟩ := h; exact ⟨v, h1, h2, fun _ => h3⟩)
theorem rcC {P : Program} {f : Nat} {args : Array Operand} {tys : Array TypeId} {vals : Array Value} {w : World} {a : Act} {u : Value} {B : Prop} (o : Oper) (ho : o.op = .call ⟨.value (.func f), args, tys⟩) (H : Calls P f vals w (fun e w' => e = .returned u ∧ Lat w w'))
  (hf : ∀ vals, (callFunc f vals).run P w = .ok (.enter f vals) w := by intro _; go_simp) (ha : args.map a.eval = vals := by simp only [List.map_toArray, List.map_cons, List.map_nil, eval_const, *]) : Runs P o a.eval w (fun v w' => Lat w w' ∧ (B → v = u)) :=
 Runs.call (zan hf o ho ha) (H.mono fun e w' h => ⟨_, h.1, h.2, fun _ => rfl⟩)
theorem rx {P : Program} {w : World} {a : Act} {t k : Nat} {vs : Array Value} {v : Value} {V : Value → World → Prop} {B : Prop} (o : Oper) (ho : o.op = .extract (.tmp t) k) (e : a.eval (.tmp t) = .tuple vs) (hv : V v w)
  (hk : ∀ ty, (execOp a.eval ⟨o.dst, .extract (.tmp t) k, ty, o.pos, o.after, o.guard⟩).run P w = .ok (.value v) w := by intro ty; unfold execOp; simp only [*]; go_simp) : Runs P o a.eval w (fun v w' => Lat w w' ∧ (B → V v w')) := by
 obtain ⟨d, op, ty, p, af, gg⟩ := o
 simp only at ho
 subst ho
 exact Runs.val (hk ty) ⟨Lat.refl _, fun _ => hv⟩
section
variable {P : Program} {w : World} {a : Act} {op : Op} {u : Value} {B : Prop} {t1 t2 t3 : Nat} {u1 u2 u3 : Value}
theorem rp0 (o : Oper) (ho : o.op = op) (h : ∀ ev : Operand → Value, (∀ v, ev (.const v) = v) → ∀ d ty p af g, (execOp ev ⟨d, op, ty, p, af, g⟩).run P w = .ok (.value u) w) : Runs P o a.eval w (fun v w' => Lat w w' ∧ (B → v = u)) := by
 obtain ⟨d, op, ty, p, af, g⟩ := o
 simp only at ho
 subst ho
 exact Runs.val (h _ (fun _ => rfl) _ _ _ _ _) ⟨Lat.refl _, fun _ => rfl⟩
theorem rp1 (o : Oper) (ho : o.op = op) (e1 : a.eval (.tmp t1) = u1) (h : ∀ ev : Operand → Value, (∀ v, ev (.const v) = v) → ev (.tmp t1) = u1 → ∀ d ty p af g, (execOp ev ⟨d, op, ty, p, af, g⟩).run P w = .ok (.value u) w) : Runs P o a.eval w (fun v w' => Lat w w' ∧ (B → v = u)) := by
 obtain ⟨d, op, ty, p, af, g⟩ := o
 simp only at ho
 subst ho
 exact Runs.val (h _ (fun _ => rfl) e1 _ _ _ _ _) ⟨Lat.refl _, fun _ => rfl⟩
theorem rp2 (o : Oper) (ho : o.op = op) (e1 : a.eval (.tmp t1) = u1) (e2 : a.eval (.tmp t2) = u2) (h : ∀ ev : Operand → Value, (∀ v, ev (.const v) = v) → ev (.tmp t1) = u1 → ev (.tmp t2) = u2 → ∀ d ty p af g, (execOp ev ⟨d, op, ty, p, af, g⟩).run P w = .ok (.value u) w) : Runs P o a.eval w (fun v w' => Lat w w' ∧ (B → v = u)) := by
 obtain ⟨d, op, ty, p, af, g⟩ := o
 simp only at ho
 subst ho
 exact Runs.val (h _ (fun _ => rfl) e1 e2 _ _ _ _ _) ⟨Lat.refl _, fun _ => rfl⟩
end
end Go.Proofs.YtpmbglhbcjbkcaaGreat
