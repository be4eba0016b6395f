/- Several texts in one: InvO, InvP, InvQ, OwnK. -/
import Derived.Test.YtbgngmamnonlbaaGreatH31
import Derived.Test.YtbgngmamnonlbaaGreatH40
import Derived.Test.YtbgngmamnonlbaaGreatH14
namespace Go.Proofs.YtbgngmamnonlbaaGreat
open Go.RowKit
set_option linter.unusedSimpArgs false
end Go.Proofs.YtbgngmamnonlbaaGreat
namespace Go.Proofs.YtbgngmamnonlbaaGreat
open Go.RowKit
set_option linter.unusedSimpArgs false
section
def SStepN (P : Program) (rows : List SRow) (base : List (Nat × Value)) (W0 : World) (r : SRow) : Prop :=
 (∀ v w w', r.V v w → Lat w w' → r.V v w') ∧
 (((∀ j b, r.guard = some (j, b) → ∃ rj : SRow, rows[j]? = some rj ∧ (∃ d, rj.dst = some d) ∧ j ∈ r.deps ∧ ∀ v w, rj.V v w → v = .bool b) ∧
   ∀ (a : Act) (w : World), Lat W0 w → (∀ k v, base.lookup k = some v → a.eval (.tmp k) = v) → (∀ (j : Nat) (rj : SRow) (d : Tmp), j ∈ r.deps → rows[j]? = some rj → rj.dst = some d → ∃ v, a.eval (.tmp d) = v ∧ rj.V v w) →
    ∀ o : Oper, o.op = r.op → Runs P o a.eval w (fun v w' => Lat w w' ∧ (r.dst.isSome = true → r.V v w'))) ∨
  ((∃ j b, ∃ rj : SRow, r.guard = some (j, b) ∧ rows[j]? = some rj ∧ (∃ d, rj.dst = some d) ∧ j ∈ r.deps ∧ ∀ v w, rj.V v w → v ≠ .bool b) ∧ ∀ w, r.V undef w))
def AllStepsN (P : Program) (rows : List SRow) (base : List (Nat × Value)) (W0 : World) : List SRow → Prop
 | [] => True
 | r :: rs => SStepN P rows base W0 r ∧ AllStepsN P rows base W0 rs
theorem AllStepsN.get {P : Program} {rows : List SRow} {base : List (Nat × Value)} {W0 : World} {l : List SRow} (h : AllStepsN P rows base W0 l) : ∀ r ∈ l, SStepN P rows base W0 r := by
 induction l with
 | nil => intro r hr; cases hr
 | cons x xs ih =>
   intro r hr
   rcases List.mem_cons.1 hr with e | hr
   ·rw [e]; exact h.1
   ·exact ih h.2 r hr
theorem AllStepsN.next {P : Program} {rows : List SRow} {base : List (Nat × Value)} {W0 : World} {r : SRow} {rs : List SRow} (h1 : ∀ v w w', r.V v w → Lat w w' → r.V v w')
  (h2 : ∀ j b, r.guard = some (j, b) → ∃ rj : SRow, rows[j]? = some rj ∧ (∃ d, rj.dst = some d) ∧ j ∈ r.deps ∧ ∀ v w, rj.V v w → v = .bool b)
  (h3 : ∀ (a : Act) (w : World), Lat W0 w → (∀ k v, base.lookup k = some v → a.eval (.tmp k) = v) → (∀ (j : Nat) (rj : SRow) (d : Tmp), j ∈ r.deps → rows[j]? = some rj → rj.dst = some d → ∃ v, a.eval (.tmp d) = v ∧ rj.V v w) →
    ∀ o : Oper, o.op = r.op → Runs P o a.eval w (fun v w' => Lat w w' ∧ (r.dst.isSome = true → r.V v w')))
  (h4 : AllStepsN P rows base W0 rs) : AllStepsN P rows base W0 (r :: rs) := ⟨⟨h1, .inl ⟨h2, h3⟩⟩, h4⟩
theorem AllStepsN.skip {P : Program} {rows : List SRow} {base : List (Nat × Value)} {W0 : World} {r : SRow} {rs : List SRow} (h1 : ∀ v w w', r.V v w → Lat w w' → r.V v w')
  (h2 : ∃ j b, ∃ rj : SRow, r.guard = some (j, b) ∧ rows[j]? = some rj ∧ (∃ d, rj.dst = some d) ∧ j ∈ r.deps ∧ ∀ v w, rj.V v w → v ≠ .bool b) (h3 : ∀ w, r.V undef w)
  (h4 : AllStepsN P rows base W0 rs) : AllStepsN P rows base W0 (r :: rs) := ⟨⟨h1, .inr ⟨h2, h3⟩⟩, h4⟩
theorem AllStepsN.none {P : Program} {rows : List SRow} {base : List (Nat × Value)} {W0 : World} : AllStepsN P rows base W0 [] := trivial
set_option maxHeartbeats 2000000 in
theorem wp_region_slotsN {P : Program} {ops : Array Oper} {Q : Exit → Act → World → Prop} {id : Nat} {b : Bool} {a : Act} {w : World} (rows : List SRow) (base : List (Nat × Value)) (N n : Nat) (tbl : List (List Nat))
  (hm : P.follows .mixedOrders = true) (hn : ops.size = n) (ht : depsOf ops = tbl) (hd : ((List.range n).all fun i => ((tbl[i]?).getD []).all fun j => decide (j < i)) = true) (hk : ops.toList.map keyO = rows.map SRow.key)
  (hdis : distinct rows base N = true) (hsz : a.tmps.size = N) (hdf : a.defers = []) (hb : ∀ k v, base.lookup k = some v → Slot a k v) (hstep : AllStepsN P rows base w rows)
  (hend : ∀ a W, a.tmps.size = N → a.defers = [] → Lat w W → (∀ k v, base.lookup k = some v → Slot a k v) → (∀ (j : Nat) r d, rows[j]? = some r → r.dst = some d → ∃ v, Slot a d v ∧ r.V v W) → Q .normal a W) : (Code.region id ops b).wp P Q a w := by
 have hrow : ∀ {i : Nat} {o : Oper}, ops[i]? = some o → ∃ r, rows[i]? = some r ∧ keyO o = r.key := by
  intro i o ho
  have h1 : (ops.toList.map keyO)[i]? = some (keyO o) := by simp [ho]
  rw [hk, List.getElem?_map] at h1
  cases hr : rows[i]? with
  | none => rw [hr] at h1; cases h1
  | some r => rw [hr] at h1; simp only [Option.map_some, Option.some.injEq] at h1; exact ⟨r, rfl, h1.symm⟩
 simp only [distinct, Bool.and_eq_true] at hdis
 obtain ⟨hdis1, hdis2⟩ := hdis
 have hdst : ∀ {i : Nat} {r : SRow} {d : Tmp}, rows[i]? = some r → r.dst = some d → d < N ∧ base.lookup d = none := by
  intro i r d h1 h2
  have := List.all_eq_true.1 hdis1 d (List.mem_filterMap.2 ⟨r, List.mem_of_getElem? h1, h2⟩)
  simpa using this
 have hlen : rows.length = n := by
  have := congrArg List.length hk
  simp at this
  omega
 have hstart : SInv rows base N w 0 a w.drew := ⟨hsz, hdf, Lat.drew w, hb, fun j r d h => by rw [Nat.zero_testBit] at h; cases h⟩
 refine wp_region_invB (h1 := ⟨hsz, hdf, Lat.refl w, hb, fun j r d h => (by rw [Nat.zero_testBit] at h; cases h)⟩) (I := SInv rows base N w) (n := n) (tbl := tbl) (hm := hm) (hn := hn) (ht := ht) (hd := hd) (h0 := hstart) ?_ ?_
 ·intro i hi o m a w1 ho hmi hdeps hI
  obtain ⟨r, hr, hkey⟩ := hrow ho
  obtain ⟨S1, S23⟩ := hstep.get r (List.mem_of_getElem? hr)
  unfold SRow.key keyO at hkey
  simp only [Prod.mk.injEq] at hkey
  obtain ⟨ke1, ke2, ke3, ke4⟩ := hkey
  have hdeps' : ∀ j ∈ r.deps, m.testBit j = true := by
   intro j hj
   refine hdeps j ?_
   unfold depsOf
   rw [List.getElem?_map, Array.getElem?_toList, ho]
   simp only [Option.map_some, Option.getD_some]
   rw [ke4]
   exact hj
  have hput : ∀ v w', Lat w1 w' → (r.dst.isSome = true → r.V v w') → SInv rows base N w (m ||| 2 ^ i) (a.put o.dst v) w' := by
   intro v w' hl hv
   have hmono : ∀ j rj d, (m ||| 2 ^ i).testBit j = true → j ≠ i → rows[j]? = some rj → rj.dst = some d → ∃ v, Slot a d v ∧ rj.V v w' := by
    intro j rj d hj hne h1 h2
    have hj' : m.testBit j = true := by
     rw [Nat.testBit_or, Nat.testBit_two_pow] at hj
     have : ¬ i = j := fun e => hne e.symm
     simpa [this] using hj
    obtain ⟨u, h3, h4⟩ := hI.slot j rj d hj' h1 h2
    obtain ⟨T1, _⟩ := hstep.get rj (List.mem_of_getElem? h1)
    exact ⟨u, h3, T1 u _ _ h4 hl⟩
   cases hdd : r.dst with
   | none =>
     rw [hdd] at ke2
     rw [ke2]
     refine ⟨hI.size, hI.defers, hI.lat.trans hl, hI.base, fun j rj d hj h1 h2 => ?_⟩
     by_cases hne : j = i
     ·subst hne
      rw [hr] at h1; cases h1
      rw [hdd] at h2; cases h2
     ·exact hmono j rj d hj hne h1 h2
   | some d0 =>
     rw [hdd] at ke2
     rw [ke2]
     obtain ⟨hd0, hd1⟩ := hdst hr hdd
     have hv' := hv (by rw [hdd]; rfl)
     refine ⟨by simp [Act.put, hI.size], by simp [Act.put, hI.defers], hI.lat.trans hl, fun k u hk => ?_, fun j rj d hj h1 h2 => ?_⟩
     ·have := hI.base k u hk
      unfold Slot at this ⊢
      simp only [Act.put]
      rw [Array.getElem?_setIfInBounds_ne (fun e => by subst e; rw [hd1] at hk; cases hk)]
      exact this
     ·by_cases hne : j = i
      ·subst hne
       rw [hr] at h1; cases h1
       rw [hdd] at h2; cases h2
       refine ⟨v, ?_, hv'⟩
       unfold Slot
       simp [Act.put, hI.size, hd0]
      ·obtain ⟨u, h3, h4⟩ := hmono j rj d hj hne h1 h2
       refine ⟨u, ?_, h4⟩
       unfold Slot at h3 ⊢
       simp only [Act.put]
       rw [Array.getElem?_setIfInBounds_ne (fun e => by subst e; exact hne (go_inj hdis2 h1 hr h2 hdd))]
       exact h3
  rcases S23 with ⟨S2, S3⟩ | ⟨S2, S3⟩
  ·have hw : Region.wanted o (yielded ops a.tmps) = true := by
    unfold Region.wanted
    cases hg : o.guard with
    | none => rfl
    | some p =>
      obtain ⟨j, b⟩ := p
      obtain ⟨rj, h1, ⟨d, h2⟩, h3, h4⟩ := S2 j b (by rw [← ke3, hg])
      obtain ⟨v, h5, h6⟩ := hI.slot j rj d (hdeps' j h3) h1 h2
      have h7 := h4 v w1 h6
      subst h7
      have hjn : j < n := by rw [← hlen]; exact (List.getElem?_eq_some_iff.1 h1).1
      have hj : j < ops.size := by omega
      obtain ⟨rj', h8, h9⟩ := hrow (Array.getElem?_eq_getElem hj)
      rw [h1] at h8
      cases h8
      unfold SRow.key keyO at h9
      simp only [Prod.mk.injEq] at h9
      unfold yielded
      unfold Slot at h5
      have hd0 : ops[j].dst = some d := by rw [h9.2.1, h2]
      simp only [Array.getElem?_eq_getElem hj, Option.bind_some, hd0, h5]
      cases b <;> rfl
   have hruns := S3 a w1 hI.lat (fun k v hk => (hI.base k v hk).ev) (fun j rj d hj h1 h2 => by
    obtain ⟨v, h3, h4⟩ := hI.slot j rj d (hdeps' j hj) h1 h2
    exact ⟨v, h3.ev, h4⟩) o ke1
   unfold wpOp
   rw [ho]
   simp only [if_pos hw]
   refine Or.inl ?_
   unfold Oper.wp
   rcases hruns with ⟨v, w', h1, h2, h3⟩ | ⟨f, args, h1, h2⟩
   ·rw [h1, Oper.upon_value]
    exact hput v w' h2 h3
   ·rw [h1, Oper.upon_enter]
    refine h2.mono fun e w' h => ?_
    obtain ⟨v, rfl, h3, h4⟩ := h
    exact hput v w' h3 h4
  ·have hw : Region.wanted o (yielded ops a.tmps) = false := by
    unfold Region.wanted
    obtain ⟨j, b, rj, hg0, h1, ⟨d, h2⟩, h3, h4⟩ := S2
    have hg : o.guard = some (j, b) := by rw [ke3]; exact hg0
    rw [hg]
    obtain ⟨v, h5, h6⟩ := hI.slot j rj d (hdeps' j h3) h1 h2
    have h7 := h4 v w1 h6
    have hjn : j < n := by rw [← hlen]; exact (List.getElem?_eq_some_iff.1 h1).1
    have hj : j < ops.size := by omega
    obtain ⟨rj', h8, h9⟩ := hrow (Array.getElem?_eq_getElem hj)
    rw [h1] at h8
    cases h8
    unfold SRow.key keyO at h9
    simp only [Prod.mk.injEq] at h9
    unfold yielded
    unfold Slot at h5
    have hd0 : ops[j].dst = some d := by rw [h9.2.1, h2]
    simp only [Array.getElem?_eq_getElem hj, Option.bind_some, hd0, h5]
    cases v <;> first | rfl | (rename_i x; cases x <;> cases b <;> first | rfl | exact absurd rfl h7)
   unfold wpOp
   rw [ho]
   simp only [hw]
   exact hput undef w1 (Lat.refl _) (fun _ => S3 w1)
 ·intro m a W hall hI
  exact hend a W hI.size hI.defers hI.lat hI.base (fun j r d h1 h2 => hI.slot j r d (hall j (by rw [← hlen]; exact (List.getElem?_eq_some_iff.1 h1).1)) h1 h2)
end
end Go.Proofs.YtbgngmamnonlbaaGreat
namespace Go.Proofs.YtbgngmamnonlbaaGreat
open Go.RowKit
set_option linter.unusedSimpArgs false
section
variable {P : Program} {rows : List SRow} {base : List (Nat × Value)} {W0 : World} {rs : List SRow} {op : Op} {dst : Option Tmp} {g : Option (Nat × Bool)} {deps : List Nat} {c x y : Value} {t u : Nat}
def EvIs (rows : List SRow) (base : List (Nat × Value)) (deps : List Nat) (t : Nat) (x : Value) : Prop :=
 base.lookup t = some x ∨ ∃ (j : Nat) (rj : SRow), j ∈ deps ∧ rows[j]? = some rj ∧ rj.dst = some t ∧ ∀ v w, rj.V v w → v = x
theorem eb (t : Nat) (h : base.lookup t = some x := by rfl) : EvIs rows base deps t x := .inl h
theorem ed (j : Nat) {rj : SRow} (h1 : rows[j]? = some rj := by rfl) (h0 : j ∈ deps := by simp) (h2 : rj.dst = some t := by rfl) (h3 : ∀ v w, rj.V v w → v = x := by exact fun _ _ h => h) : EvIs rows base deps t x := .inr ⟨j, rj, h0, h1, h2, h3⟩
def GdOk (rows : List SRow) (g : Option (Nat × Bool)) (deps : List Nat) : Prop := ∀ j b, g = some (j, b) → ∃ rj : SRow, rows[j]? = some rj ∧ (∃ d, rj.dst = some d) ∧ j ∈ deps ∧ ∀ v w, rj.V v w → v = .bool b
theorem gd0 : GdOk rows none deps := fun j b h => by cases h
theorem gd1 {j : Nat} {b : Bool} {rj : SRow} {d : Tmp} (h1 : rows[j]? = some rj) (h2 : rj.dst = some d) (h3 : j ∈ deps) (h4 : ∀ v w, rj.V v w → v = .bool b) : GdOk rows (some (j, b)) deps := fun j' b' h => by cases h; exact ⟨rj, h1, ⟨d, h2⟩, h3, h4⟩
theorem EvIs.get (h : EvIs rows base deps t x) {ev : Operand → Value} {w : World} (hb : ∀ k v, base.lookup k = some v → ev (.tmp k) = v) (hd : ∀ (j : Nat) (rj : SRow) (d : Tmp), j ∈ deps → rows[j]? = some rj → rj.dst = some d → ∃ v, ev (.tmp d) = v ∧ rj.V v w) : ev (.tmp t) = x := by
 rcases h with h | ⟨j, rj, h0, h1, h2, h3⟩
 ·exact hb _ _ h
 ·obtain ⟨v, hv, hV⟩ := hd j rj t h0 h1 h2
  rw [hv]
  exact h3 v w hV
theorem n0 (h4 : AllStepsN P rows base W0 rs) (h : ∀ (ev : Operand → Value) (w : World), Lat W0 w → (∀ v, ev (.const v) = v) → ∀ d ty p af q, (execOp ev ⟨d, op, ty, p, af, q⟩).run P w = .ok (.value c) w)
  (hg : GdOk rows g deps := by first | exact gd0 | exact gd1 rfl rfl (by simp) (fun _ _ h => h)) : AllStepsN P rows base W0 (⟨op, dst, g, deps, fun v _ => v = c⟩ :: rs) :=
 AllStepsN.next (fun _ _ _ h _ => h) hg (fun a w hl _ _ o ho => by
  obtain ⟨d, op', ty, p, af, q⟩ := o
  simp only at ho
  subst ho
  exact Runs.val (h a.eval w hl (fun _ => rfl) d ty p af q) ⟨Lat.refl _, fun _ => rfl⟩) h4
theorem n1 (h4 : AllStepsN P rows base W0 rs) (E : EvIs rows base deps t x) (h : ∀ (ev : Operand → Value) (w : World), Lat W0 w → (∀ v, ev (.const v) = v) → ev (.tmp t) = x → ∀ d ty p af q, (execOp ev ⟨d, op, ty, p, af, q⟩).run P w = .ok (.value c) w)
  (hg : GdOk rows g deps := by first | exact gd0 | exact gd1 rfl rfl (by simp) (fun _ _ h => h)) : AllStepsN P rows base W0 (⟨op, dst, g, deps, fun v _ => v = c⟩ :: rs) :=
 AllStepsN.next (fun _ _ _ h _ => h) hg (fun a w hl hb hd o ho => by
  obtain ⟨d, op', ty, p, af, q⟩ := o
  simp only at ho
  subst ho
  exact Runs.val (h a.eval w hl (fun _ => rfl) (E.get hb hd) d ty p af q) ⟨Lat.refl _, fun _ => rfl⟩) h4
theorem n2 (h4 : AllStepsN P rows base W0 rs) (E : EvIs rows base deps t x) (E2 : EvIs rows base deps u y) (h : ∀ (ev : Operand → Value) (w : World), Lat W0 w → (∀ v, ev (.const v) = v) → ev (.tmp t) = x → ev (.tmp u) = y → ∀ d ty p af q, (execOp ev ⟨d, op, ty, p, af, q⟩).run P w = .ok (.value c) w)
  (hg : GdOk rows g deps := by first | exact gd0 | exact gd1 rfl rfl (by simp) (fun _ _ h => h)) : AllStepsN P rows base W0 (⟨op, dst, g, deps, fun v _ => v = c⟩ :: rs) :=
 AllStepsN.next (fun _ _ _ h _ => h) hg (fun a w hl hb hd o ho => by
  obtain ⟨d, op', ty, p, af, q⟩ := o
  simp only at ho
  subst ho
  exact Runs.val (h a.eval w hl (fun _ => rfl) (E.get hb hd) (E2.get hb hd) d ty p af q) ⟨Lat.refl _, fun _ => rfl⟩) h4
theorem nk {j : Nat} {b : Bool} {rj : SRow} {d : Tmp} (h4 : AllStepsN P rows base W0 rs) (h1 : rows[j]? = some rj := by rfl) (h2 : rj.dst = some d := by rfl) (h3 : j ∈ deps := by simp) (h5 : ∀ v w, rj.V v w → v ≠ .bool b := by (intro v w h; cases h; exact fun e => by cases e)) : AllStepsN P rows base W0 (⟨op, dst, some (j, b), deps, fun v _ => v = undef⟩ :: rs) :=
 AllStepsN.skip (fun _ _ _ h _ => h) ⟨j, b, rj, rfl, h1, ⟨d, h2⟩, h3, h5⟩ (fun _ => rfl) h4
end
theorem base_consL {L : List Value} {df} {k : Nat} {v : Value} {r : List (Nat × Value)} (h : L[k]? = some v) (hr : BaseAll ⟨L.toArray, df⟩ r) : BaseAll ⟨L.toArray, df⟩ ((k, v) :: r) := base_cons (by simpa using h) hr
end Go.Proofs.YtbgngmamnonlbaaGreat
namespace Go.Proofs.YtbgngmamnonlbaaGreat
open Go.RowKit
end Go.Proofs.YtbgngmamnonlbaaGreat
