
/- slices.Grow of nil and slices.Concat of two slices of terms (printed by gen_rdl.py). -/
import Derived.Test.YtegejfcfoanaoaaJ18
import Derived.Test.YtegejfcfoanaoaaRdH
namespace Go.Proofs.Ytegejfcfoanaoaa
open Go.RowKit
set_option linter.unusedSimpArgs false
set_option linter.unusedVariables false

/-- 'append(nil, make([]T, n)...)'. -/
theorem run_append_make {P : Program} (w : World) (t ti ty e : TypeId) (i : TypeInfo) (z : Value) (ht : P.underlying t = some (.slice e)) (hti : P.underlying ti = some (.int .i64)) (hi : P.info? e = some i) (hz : i.zero = some z) (hz0 : 0 < i.size)
    (n : Nat) (h0 : 0 < n) (h63 : n ≤ 1000000) (hb : i.bytes ≤ 1000) :
    (Builtin.append_ #[t, ti] ty #[.slice none 0 0, .int .i64 n]).run P w =
      .ok (.slice (some ⟨w.heap.size, 0, none⟩) n (grownCap w n 0 e)) (w.drew.alloc (.cells (Builtin.zeroCells z.cells n ++ Builtin.zeroCells z.cells (grownCap w n 0 e - n)) e)) := by
  have hn : n ≠ 0 := by omega
  have hm : n * i.bytes ≤ 1000000 * 1000 := Nat.mul_le_mul h63 hb
  have hm2 : ((n * i.bytes : Nat) : Int) = (n : Int) * (i.bytes : Int) := by simp
  have h48' : ¬ (281474976710656 < Builtin.nextslicecap n 0 * i.bytes) := by rw [nextslicecap_zero h0]; omega
  have hneg : ¬ ((n : Int) < 0) := by omega
  have hw : IntKind.i64.wrap (n : Int) = (n : Int) := by rw [IntWalk.i64_left]; exact IntWalk.wrap64_in _ (by omega)
  have hlen : ¬ (281474976710656 < (n : Int) * (i.bytes : Int)) := by omega
  have h63' : ¬ (9223372036854775807 < (n : Int)) := by omega
  have hs0 : i.size ≠ 0 := by omega
  simp [Builtin.append_, run_underlying ht, run_underlying hti, sizeOf, typeInfo, zeroValue, hi, hz, Builtin.lenOf, hn, h63', h48', Question.forced, run_firstCells_none, newRow, grownCap, asInt, asIntOf, hw, hneg, hlen, hs0]
  intro hc
  exact absurd hc (Nat.mul_ne_zero hn hs0)
theorem wpList_make {P : Program} {ops : Array Oper} {rest : List Oper} {o : Oper} {a : Act} {Q : Exit → Act → World → Prop} (hgd : o.guard = none) (s x : Operand) (t ti : TypeId)
    (ho : o.op = .call { callee := .builtin .append, args := #[s, x], argTypes := #[t, ti] })
    (E : TypeId) (z : Value) (m by_ : Nat) (ht : P.underlying t = some (.slice E)) (hti : P.underlying ti = some (.int .i64)) (hinfo : (P.info? E).map (fun i => (i.zero, i.size, i.bytes)) = some (some z, m, by_)) (hz : z.cells.size = m) (hm : 0 < m) (hby : by_ ≤ 1000)
    (n : Nat) (h0 : 0 < n) (hn : n ≤ 1000000) (w : World) (hs : a.eval s = .slice none 0 0) (hx : a.eval x = .int .i64 n)
    (h : ∀ cap cur, n ≤ cap → cap ≤ maxLen → cur.size = cap * m → wpList P ops Q rest (a.put o.dst (.slice (some ⟨w.heap.size, 0, none⟩) n cap)) (w.drew.alloc (.cells cur E))) : wpList P ops Q (o :: rest) a w := by
  obtain ⟨i0, hi, hz0, hz1, hz2⟩ := info_parts hinfo
  refine wpList_plain hgd fun K hK => ?_
  have hrun := run_append_make (P := P) w t ti o.type E i0 z ht hti hi hz0 (by omega) n h0 hn (by omega)
  unfold Oper.wp
  simp only [execOp, ho, resolve, invoke, builtin, Sem.run_bind, Sem.run_pure, Result.andThen_ok, List.map_toArray, List.map_cons, List.map_nil, hs, hx, hrun]
  refine hK _ _ (h _ _ (grownCap_ge w n 0 E) (grownCap_le_maxLen w n 0 E (by unfold maxLen; omega)) ?_)
  simp only [Array.size_append, size_zeroCells, hz, ← Nat.add_mul]
  congr 1
  have := grownCap_ge w n 0 E
  omega
/-- 'append(out, xs...)' of elements of m cells, whatever xs is. -/
theorem wpList_glueM {P : Program} {ops : Array Oper} {rest : List Oper} {o : Oper} {a : Act} {Q : Exit → Act → World → Prop} (hgd : o.guard = none) (s x : Operand) (t : TypeId)
    (ho : o.op = .call { callee := .builtin .append, args := #[s, x], argTypes := #[t, t] })
    (B : Nat) (E : TypeId) (z : Value) (m by_ : Nat) (ht : P.underlying t = some (.slice E)) (hinfo : (P.info? E).map (fun i => (i.zero, i.size, i.bytes)) = some (some z, m, by_)) (hz : z.cells.size = m) (hm : 0 < m) (hby : by_ ≤ 1000)
    (v : Value) (os xs : List (List Value)) (h1 : ∀ l ∈ xs, ∀ u ∈ l, u.oneCell' = true) (w : World) (hs : a.eval s = v) (hown : OwnM w B E m v os)
    (A : Option Addr) (n c : Nat) (hx : a.eval x = .slice A n c) (hxs : RowM w A m n xs) (hlen : os.length + n ≤ 100000000) (hB : B ≤ w.heap.size)
    (h : ∀ v' w', OwnM w' B E m v' (os ++ xs) → w.grownBy w' v.ownBlock → (∀ W0, Lat W0 w → W0.heap.size ≤ B → Lat W0 w') → wpList P ops Q rest (a.put o.dst v') w') : wpList P ops Q (o :: rest) a w := by
  obtain ⟨i0, hi, hz0, hz1, hz2⟩ := info_parts hinfo
  have hl := hxs.1
  cases A with
  | none =>
    obtain rfl : n = 0 := by
      rcases Nat.eq_zero_or_pos n with h0 | h0
      · exact h0
      · obtain ⟨g, o', e, _⟩ := hxs.2.2 h0
        cases e
    have : xs = [] := List.eq_nil_of_length_eq_zero hl
    subst this
    refine wpList_plain hgd fun K hK => ?_
    have hrun := run_glue_nil (P := P) (w := w) B t o.type E i0 m ht hi v os.length _ hown.2 c
    unfold Oper.wp
    simp [execOp, ho, resolve, invoke, builtin, hs, hx, hrun, Result.andThen]
    exact hK _ _ (h v w (by rw [List.append_nil]; exact hown) ⟨rfl, rfl, rfl, Nat.le_refl _, fun _ _ _ => rfl⟩ (fun W0 hl _ => hl))
  | some ad =>
    have hfl := flat_length hxs.2.1
    refine wpList_append_own _ hgd s x t ho B E i0 z m by_ ht hi hz0 hz1 hz2 hz hm v os.length _ hs hown.2 ad n c xs.flatten hx (by rw [hfl, hl]) ?_ ?_ ?_ ?_ hB ?_
    · intro j u hu
      have hj : j < n * m := by
        have := (List.getElem?_eq_some_iff.1 hu).1
        rw [hfl, hl] at this
        exact this
      have hnp : 0 < n := by
        rcases Nat.eq_zero_or_pos n with h0 | h0
        · rw [h0, Nat.zero_mul] at hj; omega
        · exact h0
      obtain ⟨g, of, e, _, hc⟩ := hxs.2.2 hnp
      cases e
      have hi2 : j / m < xs.length := by rw [hl]; exact Nat.div_lt_of_lt_mul (by rw [Nat.mul_comm]; exact hj)
      have hxi := List.getElem?_eq_getElem hi2
      have hrem : j % m < m := Nat.mod_lt _ hm
      have hxl : (xs[j / m]).length = m := hxs.2.1 _ (List.getElem_mem hi2)
      have hv := List.getElem?_eq_getElem (l := xs[j / m]) (i := j % m) (by omega)
      have hg := flat_get hxs.2.1 hxi hv
      have hj2 : j / m * m + j % m = j := by rw [Nat.mul_comm]; exact Nat.div_add_mod j m
      rw [hj2, hu] at hg
      cases hg
      have hcell := hc (j / m) _ hxi (j % m) _ hv
      have e : (⟨g, of, none⟩ : Addr).add j = ⟨g, of + j / m * m + j % m, none⟩ := by
        rw [Nat.add_assoc, hj2]
        unfold Addr.add
        split <;> simp_all
      rw [e]
      exact hcell
    · intro u hu
      obtain ⟨l, hl1, hl2⟩ := List.mem_flatten.1 hu
      exact h1 l hl1 u hl2
    · unfold maxLen; omega
    · have := Nat.mul_le_mul_left (os.length + n) hby; omega
    · intro v' w' h2 h3 _
      refine h v' w' ⟨fun y hy => ?_, ?_⟩ h3 (fun W0 hl hle => hown.lat hl hle h3)
      · rcases List.mem_append.1 hy with hy | hy
        · exact hown.1 y hy
        · exact hxs.2.1 y hy
      · rw [List.length_append, List.flatten_append, hl]
        exact h2
theorem OwnM.lowT {w : World} {B B2 m : Nat} {E : TypeId} {v : Value} {l : List (List Value)} (h : OwnM w B E m v l) (hB : B2 ≤ B) : OwnM w B2 E m v l := by
  refine ⟨h.1, ?_⟩
  obtain ⟨h0, h1 | ⟨b, c, cur, e, hb, r⟩⟩ := h.2
  · exact ⟨h0, .inl h1⟩
  · exact ⟨h0, .inr ⟨b, c, cur, e, Nat.le_trans hB hb, r⟩⟩
theorem OwnM.fresh {w : World} {B m cap : Nat} {E : TypeId} {cur : Array Value} (hB : B ≤ w.heap.size) (hc : cap ≤ maxLen) (hs : cur.size = cap * m) : OwnM (w.drew.alloc (.cells cur E)) B E m (.slice (some ⟨w.heap.size, 0, none⟩) 0 cap) [] :=
  ⟨fun x h => by simp at h, by simp, .inr ⟨w.heap.size, cap, cur, rfl, hB, heap_alloc_new w.drew _, Nat.zero_le _, hc, hs, by simp⟩⟩
set_option maxRecDepth 100000 in
set_option maxHeartbeats 4000000 in
theorem grow_nil (n : Nat) (hn : n ≤ 1000000) (w : World) : Calls Try.prog 27 #[.slice none 0 0, .int .i64 n] w (fun e w' => ∃ v, e = .returned v ∧ OwnM w' w.heap.size 40 2 v [] ∧ Lat w w') := by
  rcases Nat.eq_zero_or_pos n with rfl | h0
  · go_enter Try.func27, Try.ntmps27
    go_wp2
    go_ret
    exact ⟨_, rfl, OwnM.nil _ _ _ _, Lat.refl _⟩
  · have hI : (0 : Int) < (n : Int) := by omega
    have hN : ¬ ((n : Int) < 0) := by omega
    go_enter Try.func27, Try.ntmps27
    go_wp2_with (at_builtin; refine wpList_make rfl _ _ 27 3 (by rfl) 40 (.agg #[.int .i64 0, .int .i64 0]) 2 16 Try.underlying27 Try.underlying3 termInfo rfl (by decide) (by decide) n h0 hn w (by rfl) (by rfl) ?_; intro cap cur hcap hmax hcur)
    go_ret
    exact ⟨_, rfl, OwnM.fresh (Nat.le_refl _) hmax hcur, (Lat.drew w).trans (Lat.alloc _ _)⟩
/-- The first j of two slices, one behind the other; and how many elements they have. -/
def catR (r0 r1 : List (List Value)) : Nat → List (List Value)
  | 0 => []
  | 1 => r0
  | _ => r0 ++ r1
def catN (n0 n1 : Nat) : Nat → Nat
  | 0 => 0
  | 1 => n0
  | _ => n0 + n1
set_option maxRecDepth 100000 in
set_option maxHeartbeats 8000000 in
theorem concat_two (A0 A1 : Option Addr) (n0 c0 n1 c1 c gb : Nat) (r0 r1 : List (List Value)) (ho0 : ∀ l ∈ r0, ∀ u ∈ l, u.oneCell' = true) (ho1 : ∀ l ∈ r1, ∀ u ∈ l, u.oneCell' = true) (hn0 : n0 ≤ 100000) (hn1 : n1 ≤ 100000) (w : World)
    (hb : Blk w gb 27 #[.slice A0 n0 c0, .slice A1 n1 c1]) (h0 : RowM w A0 2 n0 r0) (h1 : RowM w A1 2 n1 r1) :
    Calls Try.prog 11 #[.slice (some ⟨gb, 0, none⟩) 2 c] w (fun e w' => ∃ v, e = .returned v ∧ OwnM w' w.heap.size 40 2 v (r0 ++ r1) ∧ Lat w w') := by
  have HO0 := Lib.hid ho0
  have HO1 := Lib.hid ho1
  have HR0 := Lib.hid h0
  have HR1 := Lib.hid h1
  have hl0 := h0.1
  have hl1 := h1.1
  clear ho0 ho1 h0 h1
  go_enter Try.func11, Try.ntmps11
  go_upto_region 3 with (fail)
  go_loopw [3, 5, 11] (fun sv _ i wr => ∃ j : Nat, j ≤ 2 ∧ i = .int .i64 j ∧ sv = .int .i64 (catN n0 n1 j : Nat) ∧ Lat w wr) (fun _ _ i _ => 2 - (RowKit.intOf i).toNat)
  case atStart => exact ⟨0, by omega, rfl, rfl, Lat.refl _⟩
  case round =>
    obtain ⟨j, hj, rfl, rfl, hlr⟩ := hrel
    have B := hb.later hlr
    have k0 := B.cell 0
    have k1 := B.cell 1
    rcases (show j = 0 ∨ j = 1 ∨ j = 2 by omega) with rfl | rfl | rfl
    · have f1 : wrap64 (((catN n0 n1 0 : Nat) : Int) + (n0 : Int)) = ((catN n0 n1 1 : Nat) : Int) := by show wrap64 (((0 : Nat) : Int) + n0) = n0; rw [IntWalk.wrap64_in _ (by omega)]; omega
      have f2 : ¬ (((catN n0 n1 1 : Nat) : Int) < 0) := by omega
      go_wp2
      go_roundw
      case rel => exact ⟨1, by omega, rfl, by rw [f1], hlr⟩
      case measure => simp [RowKit.intOf]
    · have f1 : wrap64 (((catN n0 n1 1 : Nat) : Int) + (n1 : Int)) = ((catN n0 n1 2 : Nat) : Int) := by show wrap64 ((n0 : Int) + n1) = ((n0 + n1 : Nat) : Int); rw [IntWalk.wrap64_in _ (by omega)]; omega
      have f2 : ¬ (((catN n0 n1 2 : Nat) : Int) < 0) := by omega
      go_wp2
      go_roundw
      case rel => exact ⟨2, by omega, rfl, by rw [f1], hlr⟩
      case measure => simp [RowKit.intOf]
    · clear k0 k1 B
      have HG := grow_nil (catN n0 n1 2) (by show n0 + n1 ≤ 1000000; omega) wr
      go_wp2_with fail
      refine HG.mono ?_
      rintro e W ⟨v, rfl, O, hlW⟩
      have O0 : OwnM W w.heap.size 40 2 v (catR r0 r1 0) := O.lowT hlr.size
      have L0 := hlr.trans hlW
      clear O HG hlr hlW
      go_upto_region 11 with (fail)
      go_loopw [6, 8, 27] (fun ov _ i wr => ∃ j : Nat, j ≤ 2 ∧ i = .int .i64 j ∧ OwnM wr w.heap.size 40 2 ov (catR r0 r1 j) ∧ Lat w wr) (fun _ _ i _ => 2 - (RowKit.intOf i).toNat)
      case atStart => exact ⟨0, by omega, rfl, O0, L0⟩
      case round =>
        clear O0 L0
        obtain ⟨j, hj, rfl, O, hlr⟩ := hrel
        have B := hb.later hlr
        have k0 := B.cell 0
        have k1 := B.cell 1
        have hsz := hlr.size
        rcases (show j = 0 ∨ j = 1 ∨ j = 2 by omega) with rfl | rfl | rfl
        · have R0 := HR0.out.later hlr
          go_wp2_with (at_builtin; refine wpList_glueM rfl _ _ 27 (by rfl) w.heap.size 40 (.agg #[.int .i64 0, .int .i64 0]) 2 16 Try.underlying27 termInfo rfl (by decide) (by decide) _ _ r0 HO0.out _ (by rfl) O A0 n0 c0 (by rfl) R0 (by show 0 + n0 ≤ _; omega) hsz ?_; intro v' w' h1 h2 h3)
          have L4 := h3 _ hlr (Nat.le_refl _)
          go_roundw
          case rel => exact ⟨1, by omega, rfl, h1, L4⟩
          case measure => simp [RowKit.intOf]
        · have R1 := HR1.out.later hlr
          go_wp2_with (at_builtin; refine wpList_glueM rfl _ _ 27 (by rfl) w.heap.size 40 (.agg #[.int .i64 0, .int .i64 0]) 2 16 Try.underlying27 termInfo rfl (by decide) (by decide) _ _ r1 HO1.out _ (by rfl) O A1 n1 c1 (by rfl) R1 (by show r0.length + n1 ≤ _; omega) hsz ?_; intro v' w' h1 h2 h3)
          have L4 := h3 _ hlr (Nat.le_refl _)
          go_roundw
          case rel => exact ⟨2, by omega, rfl, h1, L4⟩
          case measure => simp [RowKit.intOf]
        · go_wp2
          go_ret
          exact ⟨_, rfl, O, hlr⟩
end Go.Proofs.Ytegejfcfoanaoaa
