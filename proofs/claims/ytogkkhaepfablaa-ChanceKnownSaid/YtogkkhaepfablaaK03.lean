/- Several texts in one: ChA, ChB, ChC, ChD. -/
import Derived.WalkKit
import Derived.Test.YtogkkhaepfablaaK02
import Derived.Test.YtogkkhaepfablaaProg
import Derived.Laws.Bits64
import Derived.Deep.DeepCutAuto
import Derived.Deep.RegionHeld3
import Derived.RangeFuncGives
import Derived.LoopNIn
import Derived.LoopIn
import Derived.TacticsInMore
import Derived.WalkMore

/- Chance: the plain law: the numbers, the candidates, and the state that leads to a number. -/
namespace Go.Proofs.Ytogkkhaepfablaa
open Go.RowKit

def chStep (s : Nat) : Nat := (s + 11400714819323198485) % 18446744073709551616
def chM1 (z : Nat) : Nat := ((z ^^^ (z / 1073741824)) * 13787848793156543929) % 18446744073709551616
def chM2 (z : Nat) : Nat := ((z ^^^ (z / 134217728)) * 10723151780598845931) % 18446744073709551616
def chM3 (z : Nat) : Nat := z ^^^ (z / 2147483648)
def chMix (z : Nat) : Nat := chM3 (chM2 (chM1 z))
theorem chStep_lt (s : Nat) : chStep s < 18446744073709551616 := Nat.mod_lt _ (by decide)
theorem chM1_lt (s : Nat) : chM1 s < 18446744073709551616 := Nat.mod_lt _ (by decide)
theorem chM2_lt (s : Nat) : chM2 s < 18446744073709551616 := Nat.mod_lt _ (by decide)
theorem chM3_lt {s : Nat} (h : s < 18446744073709551616) : chM3 s < 18446744073709551616 := Nat.xor_lt_two_pow (n := 64) h (Nat.lt_of_le_of_lt (Nat.div_le_self _ _) h)
theorem chMix_lt (s : Nat) : chMix s < 18446744073709551616 := chM3_lt (chM2_lt _)

/-- The first candidate that is taken, and the state behind it. -/
def chTry {α : Type} (draw : Nat → α × Nat) (ok : α → Bool) : Nat → Nat → Option (α × Nat)
  | 0, _ => none
  | f + 1, s => if ok (draw s).1 = true then some (draw s) else chTry draw ok f (draw s).2
/-- The state behind j candidates. -/
def chAfter {α : Type} (draw : Nat → α × Nat) : Nat → Nat → Nat
  | 0, s => s
  | j + 1, s => (draw (chAfter draw j s)).2
/-- None of the first j candidates is taken. -/
def chNone {α : Type} (draw : Nat → α × Nat) (ok : α → Bool) (j s : Nat) : Prop := ∀ i, i < j → ok (draw (chAfter draw i s)).1 = false
theorem chTry_take {α : Type} {draw : Nat → α × Nat} {ok : α → Bool} : ∀ {f j s : Nat}, j < f → chNone draw ok j s → ok (draw (chAfter draw j s)).1 = true → chTry draw ok f s = some (draw (chAfter draw j s))
  | 0, j, s, h, _, _ => absurd h (by omega)
  | f + 1, 0, s, _, _, h2 => by
    have h2 : ok (draw s).1 = true := h2
    rw [chTry, if_pos h2]; rfl
  | f + 1, j + 1, s, h, h1, h2 => by
    have e : ∀ j, chAfter draw (j + 1) s = chAfter draw j (draw s).2 := by
      intro j
      induction j with
      | zero => rfl
      | succ j ih => rw [chAfter, ih]; rfl
    have h0 : ok (draw s).1 = false := h1 0 (by omega)
    rw [chTry, if_neg (by rw [h0]; decide), e]
    rw [e] at h2
    exact chTry_take (by omega) (fun i hi => by rw [← e]; exact h1 (i + 1) (by omega)) h2
theorem chTry_none {α : Type} {draw : Nat → α × Nat} {ok : α → Bool} : ∀ {f s : Nat}, chNone draw ok f s → chTry draw ok f s = none
  | 0, s, _ => rfl
  | f + 1, s, h1 => by
    have e : ∀ j, chAfter draw (j + 1) s = chAfter draw j (draw s).2 := by
      intro j
      induction j with
      | zero => rfl
      | succ j ih => rw [chAfter, ih]; rfl
    have h0 : ok (draw s).1 = false := h1 0 (by omega)
    rw [chTry, if_neg (by rw [h0]; decide)]
    exact chTry_none (fun i hi => by rw [← e]; exact h1 (i + 1) (by omega))

/-- One number of 64 bits. -/
def chNext (s : Nat) : Nat × Nat := (chMix (chStep s), chStep s)
/-- Whether a number is taken for a number below n. -/
def chOk (n x : Nat) : Bool := decide (x ≤ 18446744073709551615 - (18446744073709551616 - n) % n ∨ (18446744073709551616 - n) % n = 0)
def chBel (s n : Nat) : Option (Nat × Nat) := chTry chNext (chOk n) 200 s
def optR (n : Nat) : Option (Nat × Nat) → Int
  | some p => ((p.1 % n : Nat) : Int)
  | none => 0
def optE {α : Type} : Option α → Int
  | some _ => 0
  | none => 9
def optT {α : Type} (d : Nat) : Option (α × Nat) → Nat
  | some p => p.2
  | none => d
def optI : Option (Int × Nat) → Int
  | some p => p.1
  | none => 0
/-- What Below returns: the number, the state, the error. -/
def belV (s : Nat) (n : Int) : Int := if n < 1 then 0 else optR n.toNat (chBel s n.toNat)
def belS (s : Nat) (n : Int) : Nat := if n < 1 then 0 else optT 0 (chBel s n.toNat)
def belE (s : Nat) (n : Int) : Int := if n < 1 then 2 else optE (chBel s n.toNat)

def bfX (k : Nat) (z : Nat) : Nat := z ^^^ (z >>> k ^^^ z >>> (2 * k))
theorem bfX_lt {k z : Nat} (h : z < 18446744073709551616) : bfX k z < 18446744073709551616 :=
  Nat.xor_lt_two_pow (n := 64) h (Nat.xor_lt_two_pow (n := 64) (by rw [Nat.shiftRight_eq_div_pow]; exact Nat.lt_of_le_of_lt (Nat.div_le_self _ _) h) (by rw [Nat.shiftRight_eq_div_pow]; exact Nat.lt_of_le_of_lt (Nat.div_le_self _ _) h))
def bf1 (x : Nat) : Nat := bfX 31 x * 3573116690164977347 % 18446744073709551616
def bf2 (x : Nat) : Nat := bfX 27 x * 10871156337175269513 % 18446744073709551616
def bf3 (x : Nat) : Nat := bfX 30 x
/-- The state whose next number is x. -/
def chBefore (x : Nat) : Nat := (bf3 (bf2 (bf1 x)) + (18446744073709551616 - 11400714819323198485)) % 18446744073709551616
end Go.Proofs.Ytogkkhaepfablaa

/- Chance: the next number, and another state. -/
namespace Go.Proofs.Ytogkkhaepfablaa
open Go.RowKit
set_option linter.unusedSimpArgs false

/-- The facts of one number, as the walk needs them. -/
structure MixF (s : Nat) : Prop where
  e0 : IntKind.u64.wrap ((s : Int) + 11400714819323198485) = (chStep s : Int)
  e1 : IntKind.u64.wrap (bits .xor .u64 (chStep s : Int) ((chStep s : Int) / 1073741824) * 13787848793156543929) = (chM1 (chStep s) : Int)
  e2 : IntKind.u64.wrap (bits .xor .u64 (chM1 (chStep s) : Int) ((chM1 (chStep s) : Int) / 134217728) * 10723151780598845931) = (chM2 (chM1 (chStep s)) : Int)
  e3 : bits .xor .u64 (chM2 (chM1 (chStep s)) : Int) ((chM2 (chM1 (chStep s)) : Int) / 2147483648) = (chMix (chStep s) : Int)
theorem mixF (s : Nat) (_hs : s < 18446744073709551616) : MixF s := by
  have h1 := chStep_lt s
  have h2 := chM1_lt (chStep s)
  have h3 := chM2_lt (chM1 (chStep s))
  have hd : ∀ {a : Nat} (_ : a < 18446744073709551616) (k : Nat), a / k < 18446744073709551616 := fun h k => Nat.lt_of_le_of_lt (Nat.div_le_self _ _) h
  refine ⟨?_, ?_, ?_, ?_⟩
  · rw [IntKind.wrap_u64]
    unfold chStep
    omega
  · rw [show ((chStep s : Int) / 1073741824) = ((chStep s / 1073741824 : Nat) : Int) by omega, bits_xor_u64_nat _ _ h1 (hd h1 _), IntKind.wrap_u64]
    unfold chM1
    omega
  · rw [show ((chM1 (chStep s) : Int) / 134217728) = ((chM1 (chStep s) / 134217728 : Nat) : Int) by omega, bits_xor_u64_nat _ _ h2 (hd h2 _), IntKind.wrap_u64]
    unfold chM2
    omega
  · rw [show ((chM2 (chM1 (chStep s)) : Int) / 2147483648) = ((chM2 (chM1 (chStep s)) / 2147483648 : Nat) : Int) by omega, bits_xor_u64_nat _ _ h3 (hd h3 _)]
    rfl

set_option maxRecDepth 100000 in
set_option maxHeartbeats 1000000 in
/-- The next number: the state goes on in place. -/
theorem chNext_any (b : Nat) (t : TypeId) (s : Nat) (hs : s < 18446744073709551616) (w : World) (hb : Blk w b t #[.int .u64 s]) :
    Calls Try.prog 31 #[.pointer (some ⟨b, 0, none⟩)] w (fun e w' => e = .returned (.int .u64 (chMix (chStep s) : Nat)) ∧ Blk w' b t #[.int .u64 (chStep s : Nat)] ∧ LatP (· = b) w w' ∧ w'.heap.size = w.heap.size) := by
  have F := mixF s hs
  obtain ⟨z0, hz0⟩ : ∃ z, (chStep s : Nat) = z := ⟨_, rfl⟩
  obtain ⟨z1, hz1⟩ : ∃ z, chM1 z0 = z := ⟨_, rfl⟩
  obtain ⟨z2, hz2⟩ : ∃ z, chM2 z1 = z := ⟨_, rfl⟩
  obtain ⟨z3, hz3⟩ : ∃ z, chMix z0 = z := ⟨_, rfl⟩
  obtain ⟨e0, e1, e2, e3⟩ := F
  rw [hz0] at e0 e1 e2 e3 ⊢
  rw [hz1] at e1 e2 e3
  rw [hz2] at e2 e3
  rw [hz3] at e3 ⊢
  clear hz0 hz1 hz2 hz3
  have c0 := hb.cell 0
  have f0 := hb.frozen 0
  go_enter Try.func31, Try.ntmps31
  go_wp2
  refine name_set (Q := fun W => bodyPost _ _ _ _ _ W) hb ?_
  intro W' k h1 h2 h3
  go_ret
  exact ⟨rfl, by simpa using k, h3, h2⟩

/-- A source. -/
theorem chFrom_any (s : Nat) (w : World) :
    Calls Try.prog 28 #[.agg #[.int .u64 s]] w (fun e w' => ∃ g : Nat, e = .returned (.pointer (some ⟨g, 0, none⟩)) ∧ Blk w' g 72 #[.int .u64 s] ∧ w.heap.size ≤ g ∧ Lat w w') := by
  go_enter Try.func28, Try.ntmps28
  go_wp2
  refine name2 (Q := fun W => bodyPost _ _ _ _ _ W) ?_
  intro W l1 hs k1 k2
  go_ret
  exact ⟨_, rfl, k2, by omega, l1⟩

theorem LatS.drew {W w : World} {gs : List Nat} (h : LatS W gs w) : LatS W gs w.drew := h
theorem LatS.alloc {W w : World} {gs : List Nat} (h : LatS W gs w) (o : Obj) : LatS W gs (w.alloc o) :=
  ⟨Nat.le_trans h.1 (Lat.alloc w o).size, fun k hk hn => (Below.heap_alloc w o k (Nat.lt_of_lt_of_le hk h.1)).trans (h.2 k hk hn)⟩
theorem cell_off {w : World} {g b : Nat} (h : g ≠ b) {o : Nat} {v : Value} (u : Value) (hc : w.cell? ⟨g, o, none⟩ = some v) : (w.setCell ⟨b, 0, none⟩ u).drew.cell? ⟨g, o, none⟩ = some v := by
  have e : (w.setCell ⟨b, 0, none⟩ u).drew.cell? ⟨g, o, none⟩ = w.cell? ⟨g, o, none⟩ := World.cell?_of_block (a := ⟨g, o, none⟩) (Below.heap_setCell w ⟨b, 0, none⟩ u g h)
  rw [e, hc]
/-- What a call of next does, with the numbers hidden. -/
def NextC (s x t : Nat) : Prop := ∀ (b : Nat) (w : World), Blk w b 72 #[.int .u64 s] →
  Calls Try.prog 31 #[.pointer (some ⟨b, 0, none⟩)] w (fun e w' => e = .returned (.int .u64 (x : Nat)) ∧ Blk w' b 72 #[.int .u64 (t : Nat)] ∧ LatP (· = b) w w' ∧ w'.heap.size = w.heap.size)
theorem nextC (s : Nat) (hs : s < 18446744073709551616) : NextC s (chMix (chStep s)) (chStep s) := fun b w hb => chNext_any b _ s hs w hb

set_option maxRecDepth 100000 in
set_option maxHeartbeats 1000000 in
theorem cNext_in (s x t : Nat) (HN : NextC s x t) (w : World) :
    Calls Try.prog 13 #[.agg #[.int .u64 s]] w (fun e w' => e = .returned (.tuple #[.int .u64 (x : Nat), .agg #[.int .u64 (t : Nat)]]) ∧ Lat w w') := by
  go_enter Try.func13, Try.ntmps13
  go_wp2_with fail
  refine name2 (Q := fun W => Calls _ _ _ W _) ?_
  intro W1 l1 hs1 k1 k3
  refine (chFrom_any s W1).mono ?_
  rintro e W2 ⟨g, rfl, kg, hg, l2⟩
  have k3 := k3.later l2
  have L2 := l1.trans l2
  go_wp2_with fail
  refine (HN g W2 kg).mono ?_
  rintro e W3 ⟨rfl, kg3, lp, hsz⟩
  have hne : ¬ w.heap.size + 1 = g := by omega
  have k3 := k3.keepP lp hne
  have L3 := lp.narrow L2 (by omega)
  have c0 : W3.cell? ⟨g, 0, none⟩ = some (.int .u64 (t : Int)) := kg3.cell 0
  have hlt := kg3.lt
  clear l1 l2 hs1 k1 kg lp hsz L2 hg HN
  have f3 := k3.frozen 0
  have d3 : W3.cell? ⟨w.heap.size + 1, 0, none⟩ = some (.int .u64 0) := k3.cell 0
  have h3 := k3.lt
  have c1 : W3.drew.cell? ⟨g, 0, none⟩ = some (.int .u64 (t : Int)) := c0
  have hng : g ≠ w.heap.size + 1 := fun h => hne h.symm
  go_wp2_with fail
  go_region_held3 (fun w' => w'.cell? ⟨g, 0, none⟩ = some (.int .u64 (t : Int))) (first | (with_reducible assumption) | exact cell_off hng _ c1) (fail)
  all_goals
    go_wp2
    have e3 : ((W3.setCell ⟨w.heap.size + 1, 0, none⟩ (.int .u64 (t : Int))).drew).cell? ⟨w.heap.size + 1, 0, none⟩ = some (.int .u64 (t : Int)) := by
      have := (k3.set 0 (.int .u64 (t : Int))).cell 0
      simpa using this
    refine bodyPost_ret (v := .tuple #[.int .u64 (x : Int), .agg #[.int .u64 (t : Int)]]) (by simp [results, Try.results13, go_sem, e3]) rfl ?_
    exact ⟨rfl, (L3.setCell (p := ⟨w.heap.size + 1, 0, none⟩) (by simp) _).trans (Lat.drew _)⟩
theorem cNext_any (s : Nat) (hs : s < 18446744073709551616) (w : World) :
    Calls Try.prog 13 #[.agg #[.int .u64 s]] w (fun e w' => e = .returned (.tuple #[.int .u64 (chMix (chStep s) : Nat), .agg #[.int .u64 (chStep s : Nat)]]) ∧ Lat w w') :=
  cNext_in s _ _ (nextC s hs) w
end Go.Proofs.Ytogkkhaepfablaa

/- Chance: another state by a label; the candidates. -/
namespace Go.Proofs.Ytogkkhaepfablaa
open Go.RowKit
set_option linter.unusedSimpArgs false

def NxC (s x t : Nat) : Prop := ∀ w : World, Calls Try.prog 13 #[.agg #[.int .u64 s]] w (fun e w' => e = .returned (.tuple #[.int .u64 (x : Nat), .agg #[.int .u64 (t : Nat)]]) ∧ Lat w w')

set_option maxRecDepth 100000 in
set_option maxHeartbeats 1000000 in
theorem split_in (c a x1 t1 b x2 t2 : Nat) (label : Int) (hw : IntKind.u64.wrap label = (a : Int)) (hx : bits .xor .u64 (c : Int) (x1 : Int) = (b : Int)) (H1 : NxC a x1 t1) (H2 : NxC b x2 t2) (w : World) :
    Calls Try.prog 16 #[.agg #[.int .u64 c], .int .i64 label] w (fun e w' => e = .returned (.agg #[.int .u64 (x2 : Nat)]) ∧ Lat w w') := by
  go_enter Try.func16, Try.ntmps16
  go_wp2_with fail
  refine name2 (Q := fun W => Calls _ _ _ W _) ?_
  intro W1 l1 hs1 k1 k2
  refine (H1 W1).mono ?_
  rintro e W2 ⟨rfl, l2⟩
  have k1 := k1.later l2
  have k2 := k2.later l2
  have L2 := l1.trans l2
  have hs2 := l2.size
  clear l1 l2
  have c0 : W2.cell? ⟨w.heap.size, 0, none⟩ = some (.int .u64 (c : Int)) := k1.cell 0
  have d0 : W2.cell? ⟨w.heap.size + 1, 0, none⟩ = some (.int .u64 0) := k2.cell 0
  have e0 := k2.frozen 0
  have lt1 := k1.lt
  have lt2 := k2.lt
  clear k1 hs1
  go_wp2_with fail
  refine name1 (Q := fun W => Calls _ _ _ W _) ?_
  intro W3 l3 hs3 k3
  refine (H2 W3).mono ?_
  rintro e W4 ⟨rfl, l4⟩
  have k2 := k2.later (l3.trans l4)
  have L4 := L2.trans (l3.trans l4)
  clear c0 d0 e0 lt1 lt2 l3 l4 hs3 k3 L2 hs2
  have d0 : W4.cell? ⟨w.heap.size + 1, 0, none⟩ = some (.int .u64 0) := k2.cell 0
  have e0 := k2.frozen 0
  have lt2 := k2.lt
  go_wp2
  refine name_set (Q := fun W => bodyPost _ _ _ _ _ (W.alloc _)) k2 ?_
  intro W5 k5 h1 h2 h3
  have L5 := h3.narrow L4 (by omega)
  clear h3 h2 h1
  refine name1 (Q := fun W => bodyPost _ _ _ _ _ W) ?_
  intro W6 l6 hs6 k6
  have g0 : W6.cell? ⟨w.heap.size + 1, 0, none⟩ = some (.int .u64 (x2 : Int)) := (k5.later l6).cell 0
  refine bodyPost_ret (v := .agg #[.int .u64 (x2 : Int)]) (by simp [results, Try.results16, go_sem, g0]) rfl ?_
  exact ⟨rfl, L5.trans l6⟩
theorem nxC (s : Nat) (hs : s < 18446744073709551616) : NxC s (chMix (chStep s)) (chStep s) := fun w => cNext_any s hs w
/-- The state that a label leads to. -/
def chSplit (s a : Nat) : Nat := chMix (chStep (s ^^^ chMix (chStep a)))
theorem cSplit_any (s : Nat) (hs : s < 18446744073709551616) (label : Int) (w : World) :
    Calls Try.prog 16 #[.agg #[.int .u64 s], .int .i64 label] w (fun e w' => e = .returned (.agg #[.int .u64 (chSplit s (label % 18446744073709551616).toNat : Nat)]) ∧ Lat w w') := by
  obtain ⟨a, ha⟩ := Int.eq_ofNat_of_zero_le (Int.emod_nonneg label (show (18446744073709551616 : Int) ≠ 0 by decide))
  have ha2 : a < 18446744073709551616 := by have := Int.emod_lt_of_pos label (show (0 : Int) < 18446744073709551616 by decide); omega
  rw [ha, Int.toNat_natCast]
  have hx := chMix_lt (chStep a)
  exact split_in s a _ _ _ _ _ label (by rw [IntKind.wrap_u64, ha]) (bits_xor_u64_nat _ _ hs hx) (nxC a ha2) (nxC _ (Nat.xor_lt_two_pow (n := 64) hs hx)) w

end Go.Proofs.Ytogkkhaepfablaa

/- Chance: the candidates. -/
namespace Go.Proofs.Ytogkkhaepfablaa
open Go.RowKit
set_option linter.unusedSimpArgs false

/-- A round of the range over the candidates, as the iterator sees it. -/
def YieldsC (l : Nat) (n : Nat) (I : Nat → World → Prop) (J : Nat → Value → World → Prop) (D : World → Prop) : Prop :=
  ∀ (j : Nat) (v : Value) (W : World), j < n → J j v W → YieldAt Fence.wide 2 Try.prog l #[v] W (fun e W' => ∃ b, e = .returned (.bool b) ∧ ((b = true ∧ I (j + 1) W') ∨ (b = false ∧ D W')))

set_option maxRecDepth 100000 in
set_option maxHeartbeats 4000000 in
/-- The candidates: the function is called 200 times, each answer handed to the body, until it says no. -/
theorem candU_iter (l bt b : Nat) (I : Nat → World → Prop) (J : Nat → Value → World → Prop) (D : World → Prop)
    (hB : ∀ j W, I j W → Blk W bt 73 #[.func (.func 31) #[.pointer (some ⟨b, 0, none⟩)] #[]])
    (hO : ∀ j W, j < 200 → I j W → Calls Try.prog 31 #[.pointer (some ⟨b, 0, none⟩)] W (fun e W' => ∃ v, e = .returned v ∧ J j v W'))
    (hY : YieldsC l 200 I J D) (W0 : World) (hI0 : I 0 W0) :
    Calls Try.prog 74 #[.func (.yield l) #[] #[], .pointer (some ⟨bt, 0, none⟩)] W0 (fun e W' => ∃ v, e = .returned v ∧ (I 200 W' ∨ D W')) := by
  have HB := Lib.hid hB
  have HO := Lib.hid hO
  clear hB hO
  go_enter Try.func74, Try.ntmps74
  go_wp2
  go_loopw [3] (fun t wr => ∃ (i : Nat), i ≤ 200 ∧ t = .int .i64 i ∧ I i wr) (fun t _ => 200 - (intOf t).toNat)
  case atStart => exact ⟨0, by omega, rfl, hI0⟩
  case round =>
    obtain ⟨i, hi, rfl, hIi⟩ := hrel
    clear hI0
    by_cases hlt : i < 200
    · have hltI : (i : Int) < 200 := by omega
      have kb := HB.out _ _ hIi
      have c0 := kb.cell 0
      have HC := HO.out i wr hlt hIi
      have HYY := fun v W h => hY i v W hlt h
      go_upto_region 2 with fail
      refine (wpIn_wide (n := 3)).1 ?_
      gi_wp2_with fail
      refine ⟨trivial, (callsIn_wide.2 HC).mono ?_⟩
      rintro e W1 ⟨v, rfl, hJ⟩
      obtain ⟨fn, tmps, assign, body, hy', hR⟩ := HYY v W1 hJ
      have hy : (Instr.yield l #[v]).run Try.prog W1 = .ok (.round l fn tmps assign body) W1 := hy'
      clear hy' HYY HC hJ c0 kb
      gi_wp2
      refine hR.mono ?_
      clear hR hy
      rintro e w6 ⟨bb, rfl, hq⟩
      rcases hq with ⟨rfl, hI6⟩ | ⟨rfl, hD6⟩
      · gi_wp2
        go_wp2
        go_roundw
        case rel => exact ⟨i + 1, by omega, by go_num, hI6⟩
        case measure => simp [intOf]; omega
      · gi_wp2
        go_wp2
        refine bodyPost_ret (results_none rfl _ _ _) rfl ?_
        exact ⟨_, rfl, .inr hD6⟩
    · obtain rfl : i = 200 := by omega
      go_wp2
      refine bodyPost_end (results_none rfl _ _ _) rfl ?_
      exact ⟨_, rfl, .inl hIi⟩

set_option maxRecDepth 100000 in
set_option maxHeartbeats 4000000 in
/-- .. of wide numbers. -/
theorem candW_iter (l bt b1 b2 : Nat) (I : Nat → World → Prop) (J : Nat → Value → World → Prop) (D : World → Prop)
    (hB : ∀ j W, I j W → Blk W bt 103 #[.func (.func 54) #[] #[.pointer (some ⟨b1, 0, none⟩), .pointer (some ⟨b2, 0, none⟩)]])
    (hO : ∀ j W, j < 200 → I j W → Calls Try.prog 54 #[.pointer (some ⟨b1, 0, none⟩), .pointer (some ⟨b2, 0, none⟩)] W (fun e W' => ∃ v, e = .returned v ∧ J j v W'))
    (hY : YieldsC l 200 I J D) (W0 : World) (hI0 : I 0 W0) :
    Calls Try.prog 82 #[.func (.yield l) #[] #[], .pointer (some ⟨bt, 0, none⟩)] W0 (fun e W' => ∃ v, e = .returned v ∧ (I 200 W' ∨ D W')) := by
  have HB := Lib.hid hB
  have HO := Lib.hid hO
  clear hB hO
  go_enter Try.func82, Try.ntmps82
  go_wp2
  go_loopw [3] (fun t wr => ∃ (i : Nat), i ≤ 200 ∧ t = .int .i64 i ∧ I i wr) (fun t _ => 200 - (intOf t).toNat)
  case atStart => exact ⟨0, by omega, rfl, hI0⟩
  case round =>
    obtain ⟨i, hi, rfl, hIi⟩ := hrel
    clear hI0
    by_cases hlt : i < 200
    · have hltI : (i : Int) < 200 := by omega
      have kb := HB.out _ _ hIi
      have c0 := kb.cell 0
      have HC := HO.out i wr hlt hIi
      have HYY := fun v W h => hY i v W hlt h
      go_upto_region 2 with fail
      refine (wpIn_wide (n := 3)).1 ?_
      gi_wp2_with fail
      refine ⟨trivial, (callsIn_wide.2 HC).mono ?_⟩
      rintro e W1 ⟨v, rfl, hJ⟩
      obtain ⟨fn, tmps, assign, body, hy', hR⟩ := HYY v W1 hJ
      have hy : (Instr.yield l #[v]).run Try.prog W1 = .ok (.round l fn tmps assign body) W1 := hy'
      clear hy' HYY HC hJ c0 kb
      gi_wp2
      refine hR.mono ?_
      clear hR hy
      rintro e w6 ⟨bb, rfl, hq⟩
      rcases hq with ⟨rfl, hI6⟩ | ⟨rfl, hD6⟩
      · gi_wp2
        go_wp2
        go_roundw
        case rel => exact ⟨i + 1, by omega, by go_num, hI6⟩
        case measure => simp [intOf]; omega
      · gi_wp2
        go_wp2
        refine bodyPost_ret (results_none rfl _ _ _) rfl ?_
        exact ⟨_, rfl, .inr hD6⟩
    · obtain rfl : i = 200 := by omega
      go_wp2
      refine bodyPost_end (results_none rfl _ _ _) rfl ?_
      exact ⟨_, rfl, .inl hIi⟩
end Go.Proofs.Ytogkkhaepfablaa
