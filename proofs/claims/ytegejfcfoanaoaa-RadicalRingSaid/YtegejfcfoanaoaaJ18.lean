/- Several texts in one: RefH, RefI, RefJ, RefK. -/
import Derived.Test.YtegejfcfoanaoaaJ17

/- The reference's numbers: what 'parts' does to slices. -/
namespace Go.Proofs.Ytegejfcfoanaoaa
open Go.RowKit

theorem run_glue_nil {P : Program} {w : World} (B : Nat) (t ty e : TypeId) (i : TypeInfo) (size : Nat) (ht : P.underlying t = some (.slice e)) (hi : P.info? e = some i)
    (v : Value) (n : Nat) (xs : List Value) (hown : w.ownsRow B e size v n xs) (c : Nat) : (Builtin.append_ #[t, t] ty #[v, .slice none 0 c]).run P w = .ok v w := by
  rcases hown.2 with ⟨rfl, rfl⟩ | ⟨g, cap, cur, rfl, _, _, hnc, _⟩
  · simp [Builtin.append_, run_underlying ht, sizeOf, typeInfo, hi, Builtin.lenOf, Builtin.firstCells]
  · simp [Builtin.append_, run_underlying ht, sizeOf, typeInfo, hi, Builtin.lenOf, Builtin.firstCells, hnc, storeCells]
/-- 'append(out, xs...)', whatever xs is. -/
theorem wpList_glue {P : Program} {ops : Array Oper} {rest : List Oper} {o : Oper} {a : Act} {Q : Exit → Act → World → Prop} (hgd : o.guard = none) (s x : Operand) (t : TypeId)
    (ho : o.op = .call { callee := .builtin .append, args := #[s, x], argTypes := #[t, t] })
    (B : Nat) (E : TypeId) (k : IntKind) (by_ : Nat) (ht : P.underlying t = some (.slice E)) (hinfo : (P.info? E).map (fun i => (i.zero, i.size, i.bytes)) = some (some (.int k 0), 1, by_)) (hby : by_ ≤ 8)
    (v : Value) (os xs : List Int) (w : World) (hs : a.eval s = v) (hown : Own w B E k v os)
    (A : Option Addr) (n c : Nat) (hx : a.eval x = .slice A n c) (hxs : Sl w k A n xs) (hlen : os.length + n ≤ 17000000000000) (hB : B ≤ w.heap.size)
    (h : ∀ v' w', Own w' B E k v' (os ++ xs) → (∀ W0, Lat W0 w → W0.heap.size ≤ B → Lat W0 w') → wpList P ops Q rest (a.put o.dst v') w') : wpList P ops Q (o :: rest) a w := by
  obtain ⟨i0, hi, hz0, hz1, hz2⟩ := info_parts hinfo
  have hl := hxs.1
  cases A with
  | none =>
    obtain rfl : n = 0 := by
      rcases Nat.eq_zero_or_pos n with h0 | h0
      · exact h0
      · obtain ⟨a', e, _⟩ := hxs.2 h0
        cases e
    have : xs = [] := List.eq_nil_of_length_eq_zero hl
    subst this
    refine wpList_plain hgd fun K hK => ?_
    have hrun := run_glue_nil (P := P) (w := w) B t o.type E i0 1 ht hi v os.length _ hown c
    unfold Oper.wp
    simp [execOp, ho, resolve, invoke, builtin, hs, hx, hrun, Result.andThen]
    exact hK _ _ (h v w (by rw [List.append_nil]; exact hown) (fun W0 hl _ => hl))
  | some ad =>
    refine wpList_append_own _ hgd s x t ho B E i0 (.int k 0) 1 by_ ht hi hz0 hz1 hz2 rfl (by decide) v os.length _ hs hown ad n c (xs.map (Value.int k)) hx (by simp [hl]) ?_ ?_ ?_ ?_ hB ?_
    · intro j u hu
      have hj : j < n := by
        have := (List.getElem?_eq_some_iff.1 hu).1
        simpa [hl] using this
      obtain ⟨a', e, _, hc⟩ := hxs.2 (by omega)
      cases e
      rw [List.getElem?_map] at hu
      cases hxj : xs[j]? with
      | none => rw [hxj] at hu; cases hu
      | some y => rw [hxj] at hu; cases hu; exact hc j y hxj
    · exact ints_oneCell _ _
    · unfold maxLen; omega
    · have := Nat.mul_le_mul_left (os.length + n) hby; omega
    · intro v' w' h1 h2 _
      refine h v' w' ?_ (fun W0 hl hle => Own.lat hown hl hle h2)
      unfold Own
      rw [List.length_append, List.map_append, hl]
      exact h1

theorem Own.made {w : World} {g : Nat} {E : TypeId} {k : IntKind} {B : Nat} (h : Blk w g E #[]) (hB : B ≤ g) : Own w B E k (.slice (some ⟨g, 0, none⟩) 0 0) [] :=
  ⟨rfl, .inr ⟨g, 0, #[], rfl, hB, h, Nat.le_refl _, by simp [maxLen], rfl, rfl⟩⟩

theorem add_add (a : Addr) (i j : Nat) : (a.add i).add j = a.add (i + j) := by
  unfold Addr.add
  by_cases hi : i = 0 <;> by_cases hj : j = 0 <;> simp [hi, hj, Nat.add_assoc]

/-- 'xs[lo:]': one run equation, and what the slice reads as. -/
theorem run_from {P : Program} {t e : TypeId} {z : Value} {by_ : Nat} (ht : P.underlying t = some (.slice e)) (hinfo : (P.info? e).map (fun i => (i.zero, i.size, i.bytes)) = some (some z, 1, by_))
    {A : Option Addr} {n c lo : Nat} {k : IntKind} {xs : List Int} {W0 : World} (hs : Sl W0 k A n xs) (hlo : lo ≤ n) (hc : n ≤ c) (L : Int) (hL : L = (lo : Int)) :
    ∃ A' c', (∀ W, (Instr.sliceAt t (.slice A n c) (some (.int .i64 L)) none none).run P W = .ok (.slice A' (n - lo) c') W) ∧ Sl W0 k A' (n - lo) (xs.drop lo) ∧ n - lo ≤ c' := by
  obtain ⟨i0, hi, _, hz1, _⟩ := info_parts hinfo
  have he : P.elem t = e := by simp [Program.elem, ht]
  have ht' : P.underlying t = some (.slice (P.elem t)) := by rw [he]; exact ht
  refine ⟨if c = lo then A else A.map (·.add (lo * 1)), c - lo, fun W => ?_, ?_, by omega⟩
  · subst hL
    rw [run_sliceAt_slice _ _ _ _ _ _ ht', run_slice_l _ _ _ _ _ ht' _ _ (by omega) (by omega), he]
    simp [sizeOf, typeInfo, hi, hz1, Result.andThen, sliced]
  · refine ⟨by rw [List.length_drop, hs.1], fun hp => ?_⟩
    obtain ⟨a, rfl, hb, hcell⟩ := hs.2 (by omega)
    rw [if_neg (by omega)]
    refine ⟨a.add (lo * 1), rfl, by rw [block_add]; exact hb, fun i x hx => ?_⟩
    rw [add_add, Nat.mul_one]
    exact hcell _ x (by rw [← hx, List.getElem?_drop])

theorem run_shr_i64 (P : Program) (t : TypeId) (x : Int) (n : Nat) (hn : n ≤ 64) (W : World) : (binOp .shr t (.int .i64 x) (.int .i64 n)).run P W = .ok (.int .i64 (x / 2 ^ n)) W := by
  have h1 : ¬ ((n : Int) < 0) := by omega
  have h2 : min n 64 = n := by omega
  simp only [binOp, Op.shift, h1, if_false, IntKind.bits, Int.toNat_natCast, h2, Sem.run_pure]
  rw [Int.fdiv_eq_ediv_of_nonneg _ (Int.le_of_lt (Int.pow_pos (by decide)))]

/-- A number's digits. -/
def Dg (w : World) (A : Option Addr) (n c : Nat) (z : Int) : Prop := n ≤ c ∧ ∃ xs, Sl w .i64 A n xs ∧ InR B32 xs ∧ Nz xs ∧ val B32 xs = z
theorem Dg.later {W w : World} {A : Option Addr} {n c : Nat} {z : Int} (h : Dg W A n c z) (hl : Lat W w) : Dg w A n c z := by
  obtain ⟨hn, xs, hs, r⟩ := h
  exact ⟨hn, xs, hs.later hl, r⟩
theorem Dg.off {w : World} {A : Option Addr} {n c : Nat} {z : Int} (h : Dg w A n c z) {p : Addr} (hp : ∀ a, A = some a → a.block ≠ p.block) (u : Value) : Dg (w.setCell p u) A n c z := by
  obtain ⟨hn, xs, hs, r⟩ := h
  exact ⟨hn, xs, hs.off' (fun _ => hp) u, r⟩
end Go.Proofs.Ytegejfcfoanaoaa

/- The reference's numbers: parts. -/
namespace Go.Proofs.Ytegejfcfoanaoaa
open Go.RowKit

/-- What 'parts' leaves. -/
def PrtPost (w : World) (q r : Int) (N M : Nat) (e : Ending) (w' : World) : Prop :=
  ∃ A n c A' n' c', e = .returned (.tuple #[.slice A n c, .slice A' n' c']) ∧ Dg w' A n c q ∧ n ≤ N ∧ Dg w' A' n' c' r ∧ n' ≤ M ∧ Lat w w'

end Go.Proofs.Ytegejfcfoanaoaa

/- The reference's numbers: parts, bit by bit. -/
namespace Go.Proofs.Ytegejfcfoanaoaa
open Go.RowKit

theorem set_same {xs : List Int} {i : Nat} {x : Int} (h : xs[i]? = some x) : xs.set i x = xs := by
  apply List.ext_getElem?
  intro j
  rw [List.getElem?_set]
  split
  · rename_i e
    subst e
    split
    · exact h.symm
    · rename_i hl
      rw [List.getElem?_eq_none (by omega)]
  · rfl
theorem bits_pow {k : Nat} (h : k < 32) : (0 : Int) < 2 ^ k ∧ (2 : Int) ^ k ≤ 2147483648 := by
  refine ⟨Int.pow_pos (by decide), ?_⟩
  have : (2 : Int) ^ k ≤ 2 ^ 31 := pw_le (by decide) (by omega)
  exact this

end Go.Proofs.Ytegejfcfoanaoaa

/- The reference's numbers: Turn, Times, Plus, Minus. -/
namespace Go.Proofs.Ytegejfcfoanaoaa
open Go.RowKit

theorem rs_neg (b : Bool) (z : Int) : sgn (!b) z = - sgn b z := by cases b <;> simp [sgn]
theorem rs_mul (b c : Bool) (x y : Int) : sgn (b != c) (x * y) = sgn b x * sgn c y := by
  cases b <;> cases c <;> simp [sgn, Int.mul_neg, Int.neg_mul]
theorem rs_add (b : Bool) (x y : Int) : sgn b (x + y) = sgn b x + sgn b y := by
  cases b <;> simp [sgn, Int.neg_add]
theorem rs_sub {b c : Bool} (h : b ≠ c) (x y : Int) : sgn b (x - y) = sgn b x + sgn c y := by
  cases b <;> cases c <;> simp [sgn] at h ⊢ <;> omega

set_option maxHeartbeats 400000 in
theorem rTurn_any (b1 : Bool) (A1 : Option Addr) (n1 c1 : Nat) (x : Int) (w : World) (h1 : Rg w b1 A1 n1 c1 x) (hn : n1 ≤ 1000000) :
    Calls Try.prog 87 #[.agg #[.bool b1, .slice A1 n1 c1]] w (RefPost w (- x) n1) := by
  obtain ⟨hc, xs, s1, r1, z1, _, v1⟩ := h1
  have V1 := Lib.hid v1
  clear v1
  go_enter Try.func87, Try.ntmps87
  go_wp2_with fail
  refine name2 (Q := fun W => Calls _ _ _ W _) ?_
  intro W hl hs k1 k2
  refine (made_any (!b1) A1 n1 c1 W xs (s1.later hl) r1 hc (by omega)).mono ?_
  rintro e w1 ⟨b, A, n, c, rfl, hlg, hnn, hl1⟩
  have hk2 := k2.later hl1
  have c0 := hk2.cell 0
  have c1' := hk2.cell 1
  have f0 := hk2.frozen 0
  have f1 := hk2.frozen 1
  go_wp2
  refine bodyPost_ret (v := .agg #[.bool b, .slice A n c]) (by simp [results, Try.results87, go_sem, c0, c1']) rfl ?_
  have := RefPost.close hk2 hlg (hl.trans hl1) (by omega) hnn
  rw [rs_neg, ← V1.out] at this
  exact this

set_option maxHeartbeats 400000 in
theorem rTimes_any (b1 : Bool) (A1 : Option Addr) (n1 c1 : Nat) (x : Int) (b2 : Bool) (A2 : Option Addr) (n2 c2 : Nat) (y : Int) (w : World) (h1 : Rg w b1 A1 n1 c1 x) (h2 : Rg w b2 A2 n2 c2 y) (hn : n1 ≤ 1000000) (hm : n2 ≤ 1000000) :
    Calls Try.prog 43 #[.agg #[.bool b1, .slice A1 n1 c1], .agg #[.bool b2, .slice A2 n2 c2]] w (RefPost w (x * y) (n1 + n2)) := by
  obtain ⟨hc1, xs, s1, r1, z1, _, v1⟩ := h1
  obtain ⟨hc2, ys, s2, r2, z2, _, v2⟩ := h2
  have V1 := Lib.hid v1
  have V2 := Lib.hid v2
  clear v1 v2
  go_enter Try.func43, Try.ntmps43
  go_wp2
  refine name3 (Q := fun W => Code.wp _ _ _ _ W) ?_
  intro W hl hs k1 k2 k3
  have a1 := k1.evS (gs := [w.heap.size + 1 + 1]) (by simp; try omega) 0 rfl
  have a2 := k1.evS (gs := [w.heap.size + 1 + 1]) (by simp; try omega) (0 + 1) rfl
  have a3 := k2.evS (gs := [w.heap.size + 1 + 1]) (by simp; try omega) 0 rfl
  have a4 := k2.evS (gs := [w.heap.size + 1 + 1]) (by simp; try omega) (0 + 1) rfl
  have L0 := Lat.drew W
  have M0 := L0.s [w.heap.size + 1 + 1]
  go_region_held3 (fun w' => LatS W [w.heap.size + 1 + 1] w') (first | assumption | ((repeat refine LatS.set ?_ (by simp) _); assumption))
    (first
      | (go_at_call 59; refine (product_any A1 n1 c1 xs A2 n2 c2 ys _ (s1.later (hl.trans L0)) (s2.later (hl.trans L0)) r1 r2 hn hm).mono ?_; rintro e w1 ⟨A, n, c, zs, rfl, p1, p2, p2', p3, p4, p5, p6, p7⟩; have L1 := L0.trans p6; have M1 := L1.s [w.heap.size + 1 + 1]; have P3 := Lib.hid p3; clear p3)
      | (go_at_call 58; refine (made_any (b1 != b2) A n c _ zs p1 p2 p4 (by omega)).mono ?_; rintro e w2 ⟨b, A', m, c', rfl, q1, q2, q3⟩; have L2 := L1.trans q3; have M2 := L2.s [w.heap.size + 1 + 1]; have hk3 := k3.later L2; have c0 := hk3.cell 0; have c1' := hk3.cell 1; have f0 := hk3.frozen 0; have f1 := hk3.frozen 1))
  go_wp2
  refine bodyPost_ret (v := .agg #[.bool b, .slice A' m c']) (by simp [results, Try.results43, go_sem, c0, c1']) rfl ?_
  have := RefPost.close hk3 q1 (hl.trans L2) (by omega) (Nat.le_trans q2 p5)
  rw [P3.out, rs_mul, ← V1.out, ← V2.out] at this
  exact this

set_option maxHeartbeats 400000 in
theorem rPlus_same (b1 : Bool) (A1 : Option Addr) (n1 c1 : Nat) (x : Int) (A2 : Option Addr) (n2 c2 : Nat) (y : Int) (w : World) (h1 : Rg w b1 A1 n1 c1 x) (h2 : Rg w b1 A2 n2 c2 y) (hn : n1 ≤ 1000000) (hm : n2 ≤ 1000000) :
    Calls Try.prog 57 #[.agg #[.bool b1, .slice A1 n1 c1], .agg #[.bool b1, .slice A2 n2 c2]] w (RefPost w (x + y) (max n1 n2 + 1)) := by
  obtain ⟨hc1, xs, s1, r1, z1, _, v1⟩ := h1
  obtain ⟨hc2, ys, s2, r2, z2, _, v2⟩ := h2
  have V1 := Lib.hid v1
  have V2 := Lib.hid v2
  clear v1 v2
  go_enter Try.func57, Try.ntmps57
  go_wp2
  refine name3 (Q := fun W => Code.wp _ _ _ _ W) ?_
  intro W hl hs k1 k2 k3
  have a1 := k1.evS (gs := [w.heap.size + 1 + 1]) (by simp; try omega) 0 rfl
  have a2 := k1.evS (gs := [w.heap.size + 1 + 1]) (by simp; try omega) (0 + 1) rfl
  have a4 := k2.evS (gs := [w.heap.size + 1 + 1]) (by simp; try omega) (0 + 1) rfl
  have L0 := Lat.drew W
  have M0 := L0.s [w.heap.size + 1 + 1]
  go_region_held3 (fun w' => LatS W [w.heap.size + 1 + 1] w') (first | assumption | ((repeat refine LatS.set ?_ (by simp) _); assumption))
    (first
      | (go_at_call 69; refine (more_any A1 n1 c1 xs A2 n2 c2 ys _ (s1.later (hl.trans L0)) (s2.later (hl.trans L0)) r1 r2 hn hm).mono ?_; rintro e w1 ⟨A, n, c, zs, rfl, p1, p2, p3, p4, p5, p6⟩; have L1 := L0.trans p6; have M1 := L1.s [w.heap.size + 1 + 1]; have P3 := Lib.hid p3; clear p3)
      | (go_at_call 58; refine (made_any b1 A n c _ zs p1 p2 p4 (by omega)).mono ?_; rintro e w2 ⟨b, A', m, c', rfl, q1, q2, q3⟩; have L2 := L1.trans q3; have M2 := L2.s [w.heap.size + 1 + 1]; have hk3 := k3.later L2; have c0 := hk3.cell 0; have c1' := hk3.cell 1; have f0 := hk3.frozen 0; have f1 := hk3.frozen 1))
  go_wp2
  refine bodyPost_ret (v := .agg #[.bool b, .slice A' m c']) (by simp [results, Try.results57, go_sem, c0, c1']) rfl ?_
  have := RefPost.close hk3 q1 (hl.trans L2) (by omega) (Nat.le_trans q2 p5)
  rw [P3.out, rs_add, ← V1.out, ← V2.out] at this
  exact this

set_option maxHeartbeats 1000000 in
theorem rPlus_other (b1 : Bool) (A1 : Option Addr) (n1 c1 : Nat) (x : Int) (b2 : Bool) (A2 : Option Addr) (n2 c2 : Nat) (y : Int) (w : World) (h1 : Rg w b1 A1 n1 c1 x) (h2 : Rg w b2 A2 n2 c2 y) (hb : b1 ≠ b2) (hn : n1 ≤ 1000000) (hm : n2 ≤ 1000000) :
    Calls Try.prog 57 #[.agg #[.bool b1, .slice A1 n1 c1], .agg #[.bool b2, .slice A2 n2 c2]] w (RefPost w (x + y) (max n1 n2 + 1)) := by
  obtain ⟨hc1, xs, s1, r1, z1, _, v1⟩ := h1
  obtain ⟨hc2, ys, s2, r2, z2, _, v2⟩ := h2
  have V1 := Lib.hid v1
  have V2 := Lib.hid v2
  clear v1 v2
  have hbb : (b1 == b2) = false := by simpa using hb
  have HB := Lib.hid hb
  clear hb
  go_enter Try.func57, Try.ntmps57
  go_wp2_with fail
  refine name3 (Q := fun W => Calls _ _ _ W _) ?_
  intro W hl hs k1 k2 k3
  refine (order_any A1 n1 c1 xs A2 n2 c2 ys W (s1.later hl) (s2.later hl) r1 r2 z1 z2 hn hm).mono ?_
  intro e W1 hpost
  by_cases hge : val B32 ys ≤ val B32 xs
  · obtain ⟨r, rfl, r0, hl1⟩ := hpost.ge hge
    clear hpost
    have hlw := hl.trans hl1
    have hlen := len_le_of_val' B32_pos r2 r1 z2 hge
    rw [s1.1, s2.1] at hlen
    have HGE := Lib.hid hge
    have hk1 := k1.later hl1
    have hk2 := k2.later hl1
    have hk3 := k3.later hl1
    have hs1 := hl1.size
    clear k1 k2 k3 hl hge
    go_wp2
    have a1 := hk1.evS (gs := [w.heap.size + 1 + 1]) (by simp; try omega) 0 rfl
    have a2 := hk1.evS (gs := [w.heap.size + 1 + 1]) (by simp; try omega) (0 + 1) rfl
    have a4 := hk2.evS (gs := [w.heap.size + 1 + 1]) (by simp; try omega) (0 + 1) rfl
    have L0 := Lat.drew W1
    have M0 := L0.s [w.heap.size + 1 + 1]
    go_region_held3 (fun w' => LatS W1 [w.heap.size + 1 + 1] w') (first | assumption | ((repeat refine LatS.set ?_ (by simp) _); assumption))
      (first
        | (go_at_call 70; refine (less_any A1 n1 c1 xs A2 n2 c2 ys _ (s1.later (hlw.trans L0)) (s2.later (hlw.trans L0)) r1 r2 hlen HGE.out hn).mono ?_; rintro e w1 ⟨A, n, c, zs, rfl, p1, p2, p2', p3, p4, p5, p6, p7⟩; have L1 := L0.trans p6; have M1 := L1.s [w.heap.size + 1 + 1]; have P3 := Lib.hid p3; clear p3)
        | (go_at_call 58; refine (made_any b1 A n c _ zs p1 p2 p4 (by omega)).mono ?_; rintro e w2 ⟨b, A', m, c', rfl, q1, q2, q3⟩; have L2 := L1.trans q3; have M2 := L2.s [w.heap.size + 1 + 1]; have hk3' := hk3.later L2; have c0 := hk3'.cell 0; have c1' := hk3'.cell 1; have f0 := hk3'.frozen 0; have f1 := hk3'.frozen 1))
    go_wp2
    refine bodyPost_ret (v := .agg #[.bool b, .slice A' m c']) (by simp [results, Try.results57, go_sem, c0, c1']) rfl ?_
    have := RefPost.close hk3' q1 (hlw.trans L2) (by omega) (N := max n1 n2 + 1) (by omega)
    rw [P3.out, rs_sub HB.out, ← V1.out, ← V2.out] at this
    exact this
  · obtain ⟨r, rfl, r0, hl1⟩ := hpost.lt (by omega)
    clear hpost
    have hlw := hl.trans hl1
    have hge' : val B32 xs ≤ val B32 ys := by omega
    have hlen := len_le_of_val' B32_pos r1 r2 z1 hge'
    rw [s1.1, s2.1] at hlen
    have HGE := Lib.hid hge'
    have hk1 := k1.later hl1
    have hk2 := k2.later hl1
    have hk3 := k3.later hl1
    have hs1 := hl1.size
    have r0' : ¬ 0 ≤ r := by omega
    clear k1 k2 k3 hl hge hge'
    go_wp2
    have a1 := hk2.evS (gs := [w.heap.size + 1 + 1]) (by simp; try omega) 0 rfl
    have a2 := hk1.evS (gs := [w.heap.size + 1 + 1]) (by simp; try omega) (0 + 1) rfl
    have a4 := hk2.evS (gs := [w.heap.size + 1 + 1]) (by simp; try omega) (0 + 1) rfl
    have L0 := Lat.drew W1
    have M0 := L0.s [w.heap.size + 1 + 1]
    go_region_held3 (fun w' => LatS W1 [w.heap.size + 1 + 1] w') (first | assumption | ((repeat refine LatS.set ?_ (by simp) _); assumption))
      (first
        | (go_at_call 70; refine (less_any A2 n2 c2 ys A1 n1 c1 xs _ (s2.later (hlw.trans L0)) (s1.later (hlw.trans L0)) r2 r1 hlen HGE.out hm).mono ?_; rintro e w1 ⟨A, n, c, zs, rfl, p1, p2, p2', p3, p4, p5, p6, p7⟩; have L1 := L0.trans p6; have M1 := L1.s [w.heap.size + 1 + 1]; have P3 := Lib.hid p3; clear p3)
        | (go_at_call 58; refine (made_any b2 A n c _ zs p1 p2 p4 (by omega)).mono ?_; rintro e w2 ⟨b, A', m, c', rfl, q1, q2, q3⟩; have L2 := L1.trans q3; have M2 := L2.s [w.heap.size + 1 + 1]; have hk3' := hk3.later L2; have c0 := hk3'.cell 0; have c1' := hk3'.cell 1; have f0 := hk3'.frozen 0; have f1 := hk3'.frozen 1))
    go_wp2
    refine bodyPost_ret (v := .agg #[.bool b, .slice A' m c']) (by simp [results, Try.results57, go_sem, c0, c1']) rfl ?_
    have := RefPost.close hk3' q1 (hlw.trans L2) (by omega) (N := max n1 n2 + 1) (by omega)
    rw [P3.out, rs_sub (fun e => HB.out e.symm), ← V1.out, ← V2.out, Int.add_comm] at this
    exact this

theorem rPlus_any (b1 : Bool) (A1 : Option Addr) (n1 c1 : Nat) (x : Int) (b2 : Bool) (A2 : Option Addr) (n2 c2 : Nat) (y : Int) (w : World) (h1 : Rg w b1 A1 n1 c1 x) (h2 : Rg w b2 A2 n2 c2 y) (hn : n1 ≤ 1000000) (hm : n2 ≤ 1000000) :
    Calls Try.prog 57 #[.agg #[.bool b1, .slice A1 n1 c1], .agg #[.bool b2, .slice A2 n2 c2]] w (RefPost w (x + y) (max n1 n2 + 1)) := by
  by_cases hb : b1 = b2
  · subst hb
    exact rPlus_same b1 A1 n1 c1 x A2 n2 c2 y w h1 h2 hn hm
  · exact rPlus_other b1 A1 n1 c1 x b2 A2 n2 c2 y w h1 h2 hb hn hm

set_option maxHeartbeats 400000 in
theorem rMinus_any (b1 : Bool) (A1 : Option Addr) (n1 c1 : Nat) (x : Int) (b2 : Bool) (A2 : Option Addr) (n2 c2 : Nat) (y : Int) (w : World) (h1 : Rg w b1 A1 n1 c1 x) (h2 : Rg w b2 A2 n2 c2 y) (hn : n1 ≤ 1000000) (hm : n2 ≤ 1000000) :
    Calls Try.prog 71 #[.agg #[.bool b1, .slice A1 n1 c1], .agg #[.bool b2, .slice A2 n2 c2]] w (RefPost w (x - y) (max n1 n2 + 1)) := by
  go_enter Try.func71, Try.ntmps71
  go_wp2
  refine name3 (Q := fun W => Code.wp _ _ _ _ W) ?_
  intro W hl hs k1 k2 k3
  have a1 := k1.evS (gs := [w.heap.size + 1 + 1]) (by simp; try omega) 0 rfl
  have a2 := k1.evS (gs := [w.heap.size + 1 + 1]) (by simp; try omega) (0 + 1) rfl
  have a3 := k2.evS (gs := [w.heap.size + 1 + 1]) (by simp; try omega) 0 rfl
  have a4 := k2.evS (gs := [w.heap.size + 1 + 1]) (by simp; try omega) (0 + 1) rfl
  have L0 := Lat.drew W
  have M0 := L0.s [w.heap.size + 1 + 1]
  go_region_held3 (fun w' => LatS W [w.heap.size + 1 + 1] w') (first | assumption | ((repeat refine LatS.set ?_ (by simp) _); assumption))
    (first
      | (go_at_call 87; refine (rTurn_any b2 A2 n2 c2 y _ (h2.later (hl.trans L0)) hm).mono ?_; rintro e w1 ⟨b, A, n, c, rfl, p1, p2, p3⟩; have L1 := L0.trans p3; have M1 := L1.s [w.heap.size + 1 + 1])
      | (go_at_call 57; refine (rPlus_any b1 A1 n1 c1 x b A n c (- y) _ (h1.later (hl.trans L1)) p1 hn (by omega)).mono ?_; rintro e w2 ⟨b', A', m, c', rfl, q1, q2, q3⟩; have L2 := L1.trans q3; have M2 := L2.s [w.heap.size + 1 + 1]; have hk3 := k3.later L2; have c0 := hk3.cell 0; have c1' := hk3.cell 1; have f0 := hk3.frozen 0; have f1 := hk3.frozen 1))
  go_wp2
  refine bodyPost_ret (v := .agg #[.bool b', .slice A' m c']) (by simp [results, Try.results71, go_sem, c0, c1']) rfl ?_
  exact RefPost.close hk3 q1 (hl.trans L2) (by omega) (by omega)
end Go.Proofs.Ytegejfcfoanaoaa
