/- Several texts in one: ShareE, ShareF, ShareG, ShareH, ShareI, InvH, InvR. -/
import Derived.Test.YtpmbglhbcjbkcaaGreatH19
import Derived.Deep.MidRow
import Derived.DeepKeys
import Derived.ChangeKeysEq
import Derived.Laws.StructEq
import Derived.Test.YtpmbglhbcjbkcaaGreatH20
namespace Go.Proofs.YtpmbglhbcjbkcaaGreat
set_option maxHeartbeats 16000000
set_option maxRecDepth 100000
open Go.RowKit
theorem zao : (Tryz.prog.info? 40).map (·.size) = some 16 := by kernel_rfl
theorem zmk (u v : W8) (h : u.a0 ≠ v.a0) (w : World) : (Op.equalIn 10000 38 (.agg (W8.one u)) (.agg (W8.one v))).run Tryz.prog w = .ok false w := by
 obtain ⟨i0, hi0, hz0, hz1, hz2⟩ := info_parts zbP
 have hd : (u.a0 == v.a0) = false := beq_eq_false_iff_ne.mpr h
 have hc : Tryz.prog.cellsOf 36 = 1 := by kernel_rfl
 rw [run_equalIn_array w 9999 _ _ Tryz.underlying38 hi0, hc]
 rw [show List.range 8 = [0, 1, 2, 3, 4, 5, 6, 7] from rfl]
 have hp : Tryz.prog.plainKey 36 = true := by kernel_rfl
 have p1 : (part 36 (W8.one u) 0).run Tryz.prog w = .ok (u.b0) w := run_part_plain w hp rfl
 have p2 : (part 36 (W8.one v) 0).run Tryz.prog w = .ok (v.b0) w := run_part_plain w hp rfl
 have p3 : (Op.equalIn 9999 36 (u.b0) (v.b0)).run Tryz.prog w = .ok (u.a0 == v.a0) w := run_equalIn_int w 9998 36 .u64 .u64 _ _ Tryz.underlying36
 rw [Op.eqItems]
 simp only [Nat.zero_mul, Sem.run_bind, p1, p2, p3, Result.andThen_ok, hd]
 simp
theorem zkW (u v : W8) (hu : u.ok) (hv : v.ok) (h0 : v.a0 ≠ 0) (hz : v.toInt ≠ 0) (w : World) :
  Calls Tryz.prog 87 #[.agg (W8.one u), .agg (W8.one v)] w (zbX w (zaT u.toInt v.toInt) (zaU u.toInt v.toInt)) := by
 have hd : ∀ w, (Op.equalIn 10000 38 (.agg (W8.one v)) (.agg #[.int .u64 0, .int .u64 0, .int .u64 0, .int .u64 0, .int .u64 0, .int .u64 0, .int .u64 0, .int .u64 0])).run Tryz.prog w = .ok false w := fun w => zmk v W8.zero h0 w
 have HX := zbV u hu
 have HY := zbV v hv
 have HZ := Lib.hid hz
 clear hu hv h0 hz
 go_enter Tryz.func87, Tryz.ntmps87
 go_wp2
 refine za0 (Q := fun W => Code.wp _ _ _ _ W) ?_
 intro W hl hs k1 k2 k3
 have hne1 : w.heap.size ∉ [w.heap.size + 1 + 1] := by simp; omega
 have hne2 : w.heap.size + 1 ∉ [w.heap.size + 1 + 1] := by simp
 have a0 := k1.evS hne1 0 rfl
 have a1 := k1.evS hne1 1 rfl
 have a2 := k1.evS hne1 2 rfl
 have a3 := k1.evS hne1 3 rfl
 have a4 := k1.evS hne1 4 rfl
 have a5 := k1.evS hne1 5 rfl
 have a6 := k1.evS hne1 6 rfl
 have a7 := k1.evS hne1 7 rfl
 have d0 := k2.evS hne2 0 rfl
 have d1 := k2.evS hne2 1 rfl
 have d2 := k2.evS hne2 2 rfl
 have d3 := k2.evS hne2 3 rfl
 have d4 := k2.evS hne2 4 rfl
 have d5 := k2.evS hne2 5 rfl
 have d6 := k2.evS hne2 6 rfl
 have d7 := k2.evS hne2 7 rfl
 have L0 := Lat.drew W
 have M0 := L0.s [w.heap.size + 1 + 1]
 go_region_held3 (fun w' => LatS W [w.heap.size + 1 + 1] w') (first | (with_reducible assumption) | ((iterate 16 (refine LatS.set ?_ (by simp) _)); with_reducible assumption))
  (first
    | (have _h := HX; go_at_call 80; (with_reducible refine (HX _).mono ?_); rintro e w2 ⟨b1, A1, n1, c1, rfl, q1, q2, q3⟩; have L2 := L0.trans q3; have M2 := L2.s [w.heap.size + 1 + 1]; clear HX _h)
    | (have _h := HY; go_at_call 80; (with_reducible refine (HY _).mono ?_); rintro e w3 ⟨b3, A3, n3, c3, rfl, r1, r2, r3⟩; have L3 := L2.trans r3; have M3 := L3.s [w.heap.size + 1 + 1]; clear HY _h)
    | (go_at_call 36; refine (zbW b1 A1 n1 c1 _ b3 A3 n3 c3 _ _ (q1.later r3) r1 HZ.out (by omega) (by omega)).mono ?_; rintro e w4 ⟨b, A, n, c, b', A', n', c', rfl, s1, s2, s3, s4, s5⟩; have L4 := L3.trans s5; have M4 := L4.s [w.heap.size + 1 + 1])
    | (go_at_call 37; refine (zcL b A n c _ b' A' n' c' _ _ s1 s3 (by omega) (by omega)).mono ?_; rintro e w5 ⟨x, y, r, rfl, t1, t2⟩; have L5 := L4.trans t2; have M5 := L5.s [w.heap.size + 1 + 1]; have T1 := Lib.hid t1; clear t1; have K5 := k3.later L5
       have e0 := K5.cell 0
       have e1 := K5.cell 1
       have e2 := K5.cell 2
       have e3 := K5.cell 3
       have e4 := K5.cell 4
       have e5 := K5.cell 5
       have e6 := K5.cell 6
       have e7 := K5.cell 7
       have e8 := K5.cell 8
       have e9 := K5.cell 9
       have e10 := K5.cell 10
       have e11 := K5.cell 11
       have e12 := K5.cell 12
       have e13 := K5.cell 13
       have e14 := K5.cell 14
       have e15 := K5.cell 15
       have f0 := K5.frozen 0
       have f1 := K5.frozen 1
       have f2 := K5.frozen 2
       have f3 := K5.frozen 3
       have f4 := K5.frozen 4
       have f5 := K5.frozen 5
       have f6 := K5.frozen 6
       have f7 := K5.frozen 7
       have f8 := K5.frozen 8
       have f9 := K5.frozen 9
       have f10 := K5.frozen 10
       have f11 := K5.frozen 11
       have f12 := K5.frozen 12
       have f13 := K5.frozen 13
       have f14 := K5.frozen 14
       have f15 := K5.frozen 15
       have _u := True.intro))
 go_wp2
 refine bodyPost_ret (v := .tuple #[.agg (W8.two x y), .int .i64 r]) (by simp [results, Tryz.results87, go_sem, e0, e1, e2, e3, e4, e5, e6, e7, e8, e9, e10, e11, e12, e13, e14, e15]) rfl ?_
 refine ⟨x, y, r, rfl, T1.out, ?_⟩
 iterate 16 (refine Lat.setCell ?_ (by simp; try omega) _)
 exact hl.trans L5
theorem of_a0 {d : Int} (h0 : d ≠ 0) (h1 : -9223372036854775808 ≤ d) (h2 : d < 9223372036854775808) : (W8.of d).a0 ≠ 0 := by
 intro h
 have e : (d % zcA) % W64 = 0 := h
 unfold zcA W64 at e
 omega
theorem zkX (n d : Int) (h0 : d ≠ 0) (n1 : -9223372036854775808 ≤ n) (n2 : n < 9223372036854775808) (h1 : -9223372036854775808 ≤ d) (h2 : d < 9223372036854775808) (w : World) :
  Calls Tryz.prog 41 #[.int .i64 n, .int .i64 d] w (zbX w (zaT n d) (zaU n d)) := by
 have HM := zkW (W8.of n) (W8.of d) (W8.of_ok n) (W8.of_ok d) (of_a0 h0 h1 h2)
 rw [W8.of_toInt (z := n) (by unfold zaV; omega) (by unfold zaV; omega), W8.of_toInt (z := d) (by unfold zaV; omega) (by unfold zaV; omega)] at HM
 have HX := ze7 n n1 n2
 have HY := ze7 d h1 h2
 have HH := fun w => HM h0 w
 obtain ⟨u, hu⟩ : ∃ u, u = W8.of n := ⟨_, rfl⟩
 obtain ⟨v, hv⟩ : ∃ v, v = W8.of d := ⟨_, rfl⟩
 rw [← hu] at HX
 rw [← hv] at HY
 rw [← hu, ← hv] at HH
 clear HM hu hv h0 h1 h2 n1 n2
 go_enter Tryz.func41, Tryz.ntmps41
 go_wp2_with fail
 refine zas (Q := fun W => Calls _ _ _ W _) ?_
 intro W hl hs k1
 refine (HX W).mono ?_
 rintro e w1 ⟨rfl, l1⟩
 go_wp2_with fail
 refine (HY w1).mono ?_
 rintro e w2 ⟨rfl, l2⟩
 go_wp2_with fail
 refine (HH w2).mono ?_
 rintro e w3 ⟨x, y, r, rfl, q1, l3⟩
 have L := ((hl.trans l1).trans l2).trans l3
 have K := k1.later ((l1.trans l2).trans l3)
 have Q := Lib.hid q1
 clear q1 k1
 have e0 := K.cell 0
 have e1 := K.cell 1
 have e2 := K.cell 2
 have e3 := K.cell 3
 have e4 := K.cell 4
 have e5 := K.cell 5
 have e6 := K.cell 6
 have e7 := K.cell 7
 have e8 := K.cell 8
 have e9 := K.cell 9
 have e10 := K.cell 10
 have e11 := K.cell 11
 have e12 := K.cell 12
 have e13 := K.cell 13
 have e14 := K.cell 14
 have e15 := K.cell 15
 have f0 := K.frozen 0
 have f1 := K.frozen 1
 have f2 := K.frozen 2
 have f3 := K.frozen 3
 have f4 := K.frozen 4
 have f5 := K.frozen 5
 have f6 := K.frozen 6
 have f7 := K.frozen 7
 have f8 := K.frozen 8
 have f9 := K.frozen 9
 have f10 := K.frozen 10
 have f11 := K.frozen 11
 have f12 := K.frozen 12
 have f13 := K.frozen 13
 have f14 := K.frozen 14
 have f15 := K.frozen 15
 go_wp2
 refine bodyPost_ret (v := .tuple #[.agg (W8.two x y), .int .i64 r]) (by simp [results, Tryz.results41, go_sem, e0, e1, e2, e3, e4, e5, e6, e7, e8, e9, e10, e11, e12, e13, e14, e15]) rfl ?_
 refine ⟨x, y, r, rfl, Q.out, ?_⟩
 iterate 16 (refine Lat.setCell ?_ (by simp; try omega) _)
 exact L
set_option linter.unusedSimpArgs false
def zou (P : Program) (o : Oper) (ev : Operand → Value) (w : World) (R : Value → World → Prop) (S : World → Prop) : Prop :=
 Runs P o ev w R ∨ ∃ w', (execOp ev o).run P w = .ok .skip w' ∧ S w'
def GStep (P : Program) (rows : List SRow) (base : List (Nat × Value)) (N : Nat) (tbl : List (List Nat)) (G : Nat → Act → World → Prop) (i : Nat) (r : SRow) : Prop :=
 (∀ v w w', r.V v w → r.V v w') ∧
 (∀ j b, r.guard = some (j, b) → ∃ rj : SRow, rows[j]? = some rj ∧ (∃ d, rj.dst = some d) ∧ j ∈ r.deps ∧ ∀ v w, rj.V v w → v = .bool b) ∧
 ∀ (m : Nat) (a : Act) (w : World), G m a w → a.tmps.size = N → m.testBit i = false → (∀ j ∈ r.deps, m.testBit j = true) → (∀ k, m.testBit k = true → ∀ j ∈ (tbl[k]?).getD [], m.testBit j = true) →
  (∀ k v, base.lookup k = some v → a.eval (.tmp k) = v) → (∀ (j : Nat) (rj : SRow) (d : Tmp), j ∈ r.deps → rows[j]? = some rj → rj.dst = some d → ∃ v, Slot a d v ∧ rj.V v w) →
  ∀ o : Oper, o.op = r.op → zou P o a.eval w (fun v w' => (r.dst.isSome = true → r.V v w') ∧ G (m ||| 2 ^ i) (a.put r.dst v) w') (fun w' => r.dst = Option.none ∧ G (m ||| 2 ^ i) a w')
def AllStepsH (P : Program) (rows : List SRow) (base : List (Nat × Value)) (N : Nat) (tbl : List (List Nat)) (G : Nat → Act → World → Prop) : Nat → List SRow → Prop
 | _, [] => True
 | i, r :: rs => GStep P rows base N tbl G i r ∧ AllStepsH P rows base N tbl G (i + 1) rs
theorem AllStepsH.get {P : Program} {rows : List SRow} {base : List (Nat × Value)} {N : Nat} {tbl : List (List Nat)} {G : Nat → Act → World → Prop} : ∀ {l : List SRow} {i : Nat}, AllStepsH P rows base N tbl G i l → ∀ k r, l[k]? = some r → GStep P rows base N tbl G (i + k) r
 | [], _, _, k, r, h => by simp at h
 | x :: xs, i, h, 0, r, hr => by
   simp only [List.getElem?_cons_zero, Option.some.injEq] at hr
   subst hr
   exact h.1
 | x :: xs, i, h, k + 1, r, hr => by
   have := h.2.get k r (by simpa using hr)
   rw [Nat.add_assoc, Nat.add_comm 1 k] at this
   exact this
theorem AllStepsH.none {P : Program} {rows : List SRow} {base : List (Nat × Value)} {N : Nat} {tbl : List (List Nat)} {G : Nat → Act → World → Prop} {i : Nat} : AllStepsH P rows base N tbl G i [] := trivial
theorem AllStepsH.next {P : Program} {rows : List SRow} {base : List (Nat × Value)} {N : Nat} {tbl : List (List Nat)} {G : Nat → Act → World → Prop} {i : Nat} {r : SRow} {rs : List SRow} (h1 : ∀ v w w', r.V v w → r.V v w')
  (h2 : ∀ j b, r.guard = some (j, b) → ∃ rj : SRow, rows[j]? = some rj ∧ (∃ d, rj.dst = some d) ∧ j ∈ r.deps ∧ ∀ v w, rj.V v w → v = .bool b)
  (h3 : ∀ (m : Nat) (a : Act) (w : World), G m a w → a.tmps.size = N → m.testBit i = false → (∀ j ∈ r.deps, m.testBit j = true) → (∀ k, m.testBit k = true → ∀ j ∈ (tbl[k]?).getD [], m.testBit j = true) →
    (∀ k v, base.lookup k = some v → a.eval (.tmp k) = v) → (∀ (j : Nat) (rj : SRow) (d : Tmp), j ∈ r.deps → rows[j]? = some rj → rj.dst = some d → ∃ v, Slot a d v ∧ rj.V v w) →
    ∀ o : Oper, o.op = r.op → zou P o a.eval w (fun v w' => (r.dst.isSome = true → r.V v w') ∧ G (m ||| 2 ^ i) (a.put r.dst v) w') (fun w' => r.dst = Option.none ∧ G (m ||| 2 ^ i) a w')) (hr : AllStepsH P rows base N tbl G (i + 1) rs) : AllStepsH P rows base N tbl G i (r :: rs) := ⟨⟨h1, h2, h3⟩, hr⟩
structure HInv (rows : List SRow) (base : List (Nat × Value)) (tbl : List (List Nat)) (N : Nat) (G : Nat → Act → World → Prop) (m : Nat) (a : Act) (w : World) : Prop where
 size : a.tmps.size = N
 defers : a.defers = []
 base : ∀ k v, base.lookup k = some v → Slot a k v
 slot : ∀ (j : Nat) (r : SRow) (d : Tmp), m.testBit j = true → rows[j]? = some r → r.dst = some d → ∃ v, Slot a d v ∧ r.V v w
 closed : ∀ k, m.testBit k = true → ∀ j ∈ (tbl[k]?).getD [], m.testBit j = true
 g : G m a w
theorem za3 {P : Program} {ops : Array Oper} {Q : Exit → Act → World → Prop} {id : Nat} {a : Act} {w : World} (rows : List SRow) (base : List (Nat × Value)) (N n : Nat) (tbl : List (List Nat)) (G : Nat → Act → World → Prop)
  (hm : P.follows .mixedOrders = true) (hn : ops.size = n) (ht : zaQ ops = tbl) (hd : ((List.range n).all fun i => ((tbl[i]?).getD []).all fun j => decide (j < i)) = true) (hk : ops.toList.map zbQ = rows.map SRow.key)
  (hdis : distinct rows base N = true) (hsz : a.tmps.size = N) (hdf : a.defers = []) (hb : ∀ k v, base.lookup k = some v → Slot a k v) (h0 : G 0 a w.drew) (hstep : AllStepsH P rows base N tbl G 0 rows)
  (hend : ∀ m a W, (∀ i, i < n → m.testBit i = true) → a.tmps.size = N → a.defers = [] → G m a W → (∀ k v, base.lookup k = some v → Slot a k v) → (∀ (j : Nat) r d, rows[j]? = some r → r.dst = some d → ∃ v, Slot a d v ∧ r.V v W) → Q .normal a W) : (Code.region id ops true).wp P Q a w := by
 have hrow : ∀ {i : Nat} {o : Oper}, ops[i]? = some o → ∃ r, rows[i]? = some r ∧ zbQ o = r.key := by
  intro i o ho
  have h1 : (ops.toList.map zbQ)[i]? = some (zbQ o) := by simp [ho]
  rw [hk, List.getElem?_map] at h1
  cases hr : rows[i]? with
  | none => rw [hr] at h1; cases h1
  | some r => rw [hr] at h1; simp only [Option.map_some, Option.some.injEq] at h1; exact ⟨r, rfl, h1.symm⟩
 simp only [distinct, Bool.and_eq_true] at hdis
 obtain ⟨hdis1, hdis2⟩ := hdis
 have hdst : ∀ {i : Nat} {r : SRow} {d : Tmp}, rows[i]? = some r → r.dst = some d → d < N ∧ base.lookup d = none := by
  intro i r d h1 h2
  have := List.all_eq_true.1 hdis1 d (List.mem_filterMap.2 ⟨r, List.mem_of_getElem? h1, h2⟩)
  simpa using this
 have hlen : rows.length = n := by
  have := congrArg List.length hk
  simp at this
  omega
 have hstart : HInv rows base tbl N G 0 a w.drew := ⟨hsz, hdf, hb, fun j r d h => (by rw [Nat.zero_testBit] at h; cases h), fun k h => (by rw [Nat.zero_testBit] at h; cases h), h0⟩
 refine zbf (I := HInv rows base tbl N G) (n := n) (tbl := tbl) (hm := hm) (hn := hn) (ht := ht) (hd := hd) (h0 := hstart) ?_ ?_
 ·intro i hi o m a w1 ho hmi hdeps hI
  have hdepsT : ∀ j ∈ (tbl[i]?).getD [], m.testBit j = true := by rw [← ht]; exact hdeps
  obtain ⟨r, hr, hkey⟩ := hrow ho
  obtain ⟨S1, S2, S3⟩ := hstep.get i r hr
  rw [Nat.zero_add] at S3
  unfold SRow.key zbQ at hkey
  simp only [Prod.mk.injEq] at hkey
  obtain ⟨ke1, ke2, ke3, ke4⟩ := hkey
  have hdeps' : ∀ j ∈ r.deps, m.testBit j = true := by
   intro j hj
   refine hdeps j ?_
   unfold zaQ
   rw [List.getElem?_map, Array.getElem?_toList, ho]
   simp only [Option.map_some, Option.getD_some]
   rw [ke4]
   exact hj
  have hw : Region.wanted o (yielded ops a.tmps) = true := by
   unfold Region.wanted
   cases hg : o.guard with
   | none => rfl
   | some p =>
     obtain ⟨j, b⟩ := p
     obtain ⟨rj, h1, ⟨d, h2⟩, h3, h4⟩ := S2 j b (by rw [← ke3, hg])
     obtain ⟨v, h5, h6⟩ := hI.slot j rj d (hdeps' j h3) h1 h2
     have h7 := h4 v w1 h6
     subst h7
     have hjn : j < n := by rw [← hlen]; exact (List.getElem?_eq_some_iff.1 h1).1
     have hj : j < ops.size := by omega
     obtain ⟨rj', h8, h9⟩ := hrow (Array.getElem?_eq_getElem hj)
     rw [h1] at h8
     cases h8
     unfold SRow.key zbQ at h9
     simp only [Prod.mk.injEq] at h9
     unfold yielded
     unfold Slot at h5
     have hd0 : ops[j].dst = some d := by rw [h9.2.1, h2]
     simp only [Array.getElem?_eq_getElem hj, Option.bind_some, hd0, h5]
     cases b <;> rfl
  have hclosed : ∀ k, (m ||| 2 ^ i).testBit k = true → ∀ j ∈ (tbl[k]?).getD [], (m ||| 2 ^ i).testBit j = true := by
   intro k hk j hj
   have : m.testBit j = true := by
    rw [Nat.testBit_or, Nat.testBit_two_pow, Bool.or_eq_true] at hk
    rcases hk with hk | hk
    ·exact hI.closed k hk j hj
    ·have e : i = k := of_decide_eq_true hk
     subst e
     exact hdepsT j hj
   rw [Nat.testBit_or, this]; rfl
  have hput : ∀ v w', ((r.dst.isSome = true → r.V v w') ∧ G (m ||| 2 ^ i) (a.put r.dst v) w') → HInv rows base tbl N G (m ||| 2 ^ i) (a.put o.dst v) w' := by
   rintro v w' ⟨hv, hG⟩
   have hmono : ∀ j rj d, (m ||| 2 ^ i).testBit j = true → j ≠ i → rows[j]? = some rj → rj.dst = some d → ∃ v, Slot a d v ∧ rj.V v w' := by
    intro j rj d hj hne h1 h2
    have hj' : m.testBit j = true := by
     rw [Nat.testBit_or, Nat.testBit_two_pow] at hj
     have : ¬ i = j := fun e => hne e.symm
     simpa [this] using hj
    obtain ⟨u, h3, h4⟩ := hI.slot j rj d hj' h1 h2
    obtain ⟨T1, _, _⟩ := hstep.get j rj h1
    exact ⟨u, h3, T1 u _ _ h4⟩
   cases hdd : r.dst with
   | none =>
     rw [hdd] at ke2 hG
     rw [ke2]
     refine ⟨hI.size, hI.defers, hI.base, fun j rj d hj h1 h2 => ?_, hclosed, hG⟩
     by_cases hne : j = i
     ·subst hne
      rw [hr] at h1; cases h1
      rw [hdd] at h2; cases h2
     ·exact hmono j rj d hj hne h1 h2
   | some d0 =>
     rw [hdd] at ke2 hG
     rw [ke2]
     obtain ⟨hd0, hd1⟩ := hdst hr hdd
     have hv' := hv (by rw [hdd]; rfl)
     refine ⟨by simp [Act.put, hI.size], by simp [Act.put, hI.defers], fun k u hk => ?_, fun j rj d hj h1 h2 => ?_, hclosed, hG⟩
     ·have := hI.base k u hk
      unfold Slot at this ⊢
      simp only [Act.put]
      rw [Array.getElem?_setIfInBounds_ne (fun e => by subst e; rw [hd1] at hk; cases hk)]
      exact this
     ·by_cases hne : j = i
      ·subst hne
       rw [hr] at h1; cases h1
       rw [hdd] at h2; cases h2
       refine ⟨v, ?_, hv'⟩
       unfold Slot
       simp [Act.put, hI.size, hd0]
      ·obtain ⟨u, h3, h4⟩ := hmono j rj d hj hne h1 h2
       refine ⟨u, ?_, h4⟩
       unfold Slot at h3 ⊢
       simp only [Act.put]
       rw [Array.getElem?_setIfInBounds_ne (fun e => by subst e; exact hne (zdE hdis2 h1 hr h2 hdd))]
       exact h3
  have hruns := S3 m a w1 hI.g hI.size hmi hdeps' hI.closed (fun k v hk => (hI.base k v hk).ev) (fun j rj d hj h1 h2 => hI.slot j rj d (hdeps' j hj) h1 h2) o ke1
  unfold wpOp
  rw [ho]
  simp only [if_pos hw]
  refine Or.inl ?_
  unfold Oper.wp
  rcases hruns with (⟨v, w', h1, h2⟩ | ⟨f, args, h1, h2⟩) | ⟨w', h1, h2, h3⟩
  rotate_left 2
  ·rw [h1]
   have h4 := hput undef w' ⟨fun h => (by rw [h2] at h; cases h), by rw [h2]; exact h3⟩
   rw [Oper.upon_skip]
   exact h4
  ·rw [h1, Oper.upon_value]
   exact hput v w' h2
  ·rw [h1, Oper.upon_enter]
   refine h2.mono fun e w' h => ?_
   obtain ⟨v, rfl, h3⟩ := h
   exact hput v w' h3
 ·intro m a W hall hI
  exact hend m a W hall hI.size hI.defers hI.g hI.base (fun j r d h1 h2 => hI.slot j r d (hall j (by rw [← hlen]; exact (List.getElem?_eq_some_iff.1 h1).1)) h1 h2)
def zdu (W0 : World) (g h : Nat) (T : TypeId) (X Y : Array Value) (_m : Nat) (_a : Act) (W : World) : Prop := (Blk W g T X ∧ Blk W h T Y) ∧ Lat W0 W
structure zfn (P : Program) (W0 : World) (g h : Nat) (T : TypeId) (X Y : Array Value) : Prop where
 hg : W0.heap.size ≤ g
 hh : W0.heap.size ≤ h
 ne : g ≠ h
 d : ∃ d : TypeDesc, P.underlying T = some d ∧ d.isRow = true
 ix : (P.info? T).map (·.size) = some X.size
 iy : (P.info? T).map (·.size) = some Y.size
 ox : X.all (·.oneCell') = true
 oy : Y.all (·.oneCell') = true
section
variable {P : Program} {rows : List SRow} {base : List (Nat × Value)} {N : Nat} {tbl : List (List Nat)} {W0 : World} {g h : Nat} {T : TypeId} {X Y : Array Value} {i : Nat} {rs : List SRow} {dst : Option Tmp} {deps : List Nat}
theorem zf2 {w : World} {g : Nat} {T : TypeId} {X : Array Value} (hb : Blk w g T X) : w.there g 0 X.size := fun j hj => by
 rw [Nat.zero_add]
 exact ⟨by rw [hb.cell j, Array.getElem?_eq_getElem hj]; rfl, hb.frozen j⟩
theorem zdv {Z : Array Value} {b : Nat} (t : Nat) (hbt : base.lookup t = some (.pointer (some ⟨b, 0, none⟩))) (hZ : (b = g ∧ Z = X) ∨ (b = h ∧ Z = Y)) (hok : zfn P W0 g h T X Y) (hr : AllStepsH P rows base N tbl (zdu W0 g h T X Y) (i + 1) rs) :
  AllStepsH P rows base N tbl (zdu W0 g h T X Y) i (⟨.load T (.tmp t), dst, none, deps, fun v _ => v = .agg Z⟩ :: rs) :=
 AllStepsH.next (fun _ _ _ h => h) (fun j b h => by cases h) (fun m a w hG hsz hmi hdp hcl hb hd o ho => by
  obtain ⟨⟨h1, h2⟩, h3⟩ := hG
  obtain ⟨d, hd1, hd2⟩ := hok.d
  have hbk : Blk w b T Z := by rcases hZ with ⟨rfl, rfl⟩ | ⟨rfl, rfl⟩ <;> assumption
  have hi : (P.info? T).map (·.size) = some Z.toList.length := by
   rw [Array.length_toList]
   rcases hZ with ⟨_, rfl⟩ | ⟨_, rfl⟩
   ·exact hok.ix
   ·exact hok.iy
  have hl := zah (S := fun w' => w' = w) (hb t _ hbt) (fun w' e => by rw [e]; exact fun j v hj => by rw [Nat.zero_add, hbk.cell j]; simpa using hj) hd1 hd2 hi o w ho rfl
  exact .inl (Runs.val hl ⟨fun _ => by simp, ⟨h1, h2⟩, h3⟩)) hr
theorem zcv {Z : Array Value} {b : Nat} {rj : SRow} (t s j : Nat) (hbt : base.lookup t = some (.pointer (some ⟨b, 0, none⟩))) (hZ : (b = g ∧ Z = X) ∨ (b = h ∧ Z = Y)) (hj : j ∈ deps) (hrj : rows[j]? = some rj) (hrs : rj.dst = some s) (hrv : ∀ v w, rj.V v w → v = .agg Z)
  (hok : zfn P W0 g h T X Y) (hr : AllStepsH P rows base N tbl (zdu W0 g h T X Y) (i + 1) rs) :
  AllStepsH P rows base N tbl (zdu W0 g h T X Y) i (⟨.store T (.tmp t) (.tmp s), none, none, deps, fun _ _ => True⟩ :: rs) :=
 AllStepsH.next (fun _ _ _ _ => trivial) (fun j b h => by cases h) (fun m a w hG hsz hmi hdp hcl hb hd o ho => by
  obtain ⟨⟨h1, h2⟩, h3⟩ := hG
  obtain ⟨v, hv1, hv2⟩ := hd j rj s hj hrj hrs
  obtain rfl := hrv v w hv2
  have hbk : Blk w b T Z := by rcases hZ with ⟨rfl, rfl⟩ | ⟨rfl, rfl⟩ <;> assumption
  have hi : (P.info? T).map (·.size) = some Z.size := by
   rcases hZ with ⟨_, rfl⟩ | ⟨_, rfl⟩
   ·exact hok.ix
   ·exact hok.iy
  have ho1 : Z.all (·.oneCell') = true := by
   rcases hZ with ⟨_, rfl⟩ | ⟨_, rfl⟩
   ·exact hok.ox
   ·exact hok.oy
  have hb0 : W0.heap.size ≤ b := by
   rcases hZ with ⟨rfl, _⟩ | ⟨rfl, _⟩
   ·exact hok.hg
   ·exact hok.hh
  have hx := hb t _ hbt
  have hy := hv1.ev
  refine .inr ⟨w.setCells b 0 Z.toList, ?_, rfl, ?_, Lat.setCells hb0 _ _ _ h3⟩
  ·unfold execOp
   simp only [ho, hx, hy, Instr.storeAt, Instr.sureAddr, Sem.run_bind, Sem.run_pure, Result.andThen_ok, run_storeVar_mid w b 0 T Z (zf2 hbk) hi ho1]
  ·have hn := hbk.setCells Z rfl
   rcases hZ with ⟨rfl, rfl⟩ | ⟨rfl, rfl⟩
   ·exact ⟨hn, (zaC (fun e => hok.ne e.symm) _ _ _).trans h2⟩
   ·exact ⟨(zaC hok.ne _ _ _).trans h1, hn⟩) hr
theorem ziw {op : Op} {c : Value} (hrun : ∀ (a : Act) (w : World), (∀ k v, base.lookup k = some v → a.eval (.tmp k) = v) → (∀ (j : Nat) (rj : SRow) (d : Tmp), j ∈ deps → rows[j]? = some rj → rj.dst = some d → ∃ v, Slot a d v ∧ rj.V v w) → ∀ o : Oper, o.op = op → (execOp a.eval o).run P w = .ok (.value c) w)
  (hr : AllStepsH P rows base N tbl (zdu W0 g h T X Y) (i + 1) rs) :
  AllStepsH P rows base N tbl (zdu W0 g h T X Y) i (⟨op, dst, none, deps, fun v _ => v = c⟩ :: rs) :=
 AllStepsH.next (fun _ _ _ h => h) (fun j b h => by cases h) (fun m a w hG hsz hmi hdp hcl hb hd o ho => .inl (Runs.val (hrun a w hb hd o ho) ⟨fun _ => rfl, hG⟩)) hr
end
end Go.Proofs.YtpmbglhbcjbkcaaGreat
