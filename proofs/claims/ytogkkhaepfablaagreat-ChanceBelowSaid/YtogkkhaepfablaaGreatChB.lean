
/- Chance: the next number, and another state. -/
import Derived.Test.YtogkkhaepfablaaGreatChA
import Derived.Test.YtogkkhaepfablaaGreatChP
import Derived.Test.YtogkkhaepfablaaGreatProg
import Derived.Laws.Bits64
import Derived.Deep.DeepCutAuto
import Derived.Deep.RegionHeld3
namespace Go.Proofs.YtogkkhaepfablaaGreat
open Go.RowKit
set_option linter.unusedSimpArgs false

/-- The facts of one number, as the walk needs them. -/
structure MixF (s : Nat) : Prop where
  e0 : IntKind.u64.wrap ((s : Int) + 11400714819323198485) = (chStep s : Int)
  e1 : IntKind.u64.wrap (bits .xor .u64 (chStep s : Int) ((chStep s : Int) / 1073741824) * 13787848793156543929) = (chM1 (chStep s) : Int)
  e2 : IntKind.u64.wrap (bits .xor .u64 (chM1 (chStep s) : Int) ((chM1 (chStep s) : Int) / 134217728) * 10723151780598845931) = (chM2 (chM1 (chStep s)) : Int)
  e3 : bits .xor .u64 (chM2 (chM1 (chStep s)) : Int) ((chM2 (chM1 (chStep s)) : Int) / 2147483648) = (chMix (chStep s) : Int)
theorem mixF (s : Nat) (_hs : s < 18446744073709551616) : MixF s := by
  have h1 := chStep_lt s
  have h2 := chM1_lt (chStep s)
  have h3 := chM2_lt (chM1 (chStep s))
  have hd : ∀ {a : Nat} (_ : a < 18446744073709551616) (k : Nat), a / k < 18446744073709551616 := fun h k => Nat.lt_of_le_of_lt (Nat.div_le_self _ _) h
  refine ⟨?_, ?_, ?_, ?_⟩
  · rw [IntKind.wrap_u64]
    unfold chStep
    omega
  · rw [show ((chStep s : Int) / 1073741824) = ((chStep s / 1073741824 : Nat) : Int) by omega, bits_xor_u64_nat _ _ h1 (hd h1 _), IntKind.wrap_u64]
    unfold chM1
    omega
  · rw [show ((chM1 (chStep s) : Int) / 134217728) = ((chM1 (chStep s) / 134217728 : Nat) : Int) by omega, bits_xor_u64_nat _ _ h2 (hd h2 _), IntKind.wrap_u64]
    unfold chM2
    omega
  · rw [show ((chM2 (chM1 (chStep s)) : Int) / 2147483648) = ((chM2 (chM1 (chStep s)) / 2147483648 : Nat) : Int) by omega, bits_xor_u64_nat _ _ h3 (hd h3 _)]
    rfl

set_option maxRecDepth 100000 in
set_option maxHeartbeats 1000000 in
/-- The next number: the state goes on in place. -/
theorem chNext_any (b : Nat) (t : TypeId) (s : Nat) (hs : s < 18446744073709551616) (w : World) (hb : Blk w b t #[.int .u64 s]) :
    Calls Tryz.prog 61 #[.pointer (some ⟨b, 0, none⟩)] w (fun e w' => e = .returned (.int .u64 (chMix (chStep s) : Nat)) ∧ Blk w' b t #[.int .u64 (chStep s : Nat)] ∧ LatP (· = b) w w' ∧ w'.heap.size = w.heap.size) := by
  have F := mixF s hs
  obtain ⟨z0, hz0⟩ : ∃ z, (chStep s : Nat) = z := ⟨_, rfl⟩
  obtain ⟨z1, hz1⟩ : ∃ z, chM1 z0 = z := ⟨_, rfl⟩
  obtain ⟨z2, hz2⟩ : ∃ z, chM2 z1 = z := ⟨_, rfl⟩
  obtain ⟨z3, hz3⟩ : ∃ z, chMix z0 = z := ⟨_, rfl⟩
  obtain ⟨e0, e1, e2, e3⟩ := F
  rw [hz0] at e0 e1 e2 e3 ⊢
  rw [hz1] at e1 e2 e3
  rw [hz2] at e2 e3
  rw [hz3] at e3 ⊢
  clear hz0 hz1 hz2 hz3
  have c0 := hb.cell 0
  have f0 := hb.frozen 0
  go_enter Tryz.func61, Tryz.ntmps61
  go_wp2
  refine name_set (Q := fun W => bodyPost _ _ _ _ _ W) hb ?_
  intro W' k h1 h2 h3
  go_ret
  exact ⟨rfl, by simpa using k, h3, h2⟩

/-- A source. -/
theorem chFrom_any (s : Nat) (w : World) :
    Calls Tryz.prog 34 #[.agg #[.int .u64 s]] w (fun e w' => ∃ g : Nat, e = .returned (.pointer (some ⟨g, 0, none⟩)) ∧ Blk w' g 83 #[.int .u64 s] ∧ w.heap.size ≤ g ∧ Lat w w') := by
  go_enter Tryz.func34, Tryz.ntmps34
  go_wp2
  refine name2 (Q := fun W => bodyPost _ _ _ _ _ W) ?_
  intro W l1 hs k1 k2
  go_ret
  exact ⟨_, rfl, k2, by omega, l1⟩

theorem LatS.drew {W w : World} {gs : List Nat} (h : LatS W gs w) : LatS W gs w.drew := h
theorem LatS.alloc {W w : World} {gs : List Nat} (h : LatS W gs w) (o : Obj) : LatS W gs (w.alloc o) :=
  ⟨Nat.le_trans h.1 (Lat.alloc w o).size, fun k hk hn => (Below.heap_alloc w o k (Nat.lt_of_lt_of_le hk h.1)).trans (h.2 k hk hn)⟩
theorem cell_off {w : World} {g b : Nat} (h : g ≠ b) {o : Nat} {v : Value} (u : Value) (hc : w.cell? ⟨g, o, none⟩ = some v) : (w.setCell ⟨b, 0, none⟩ u).drew.cell? ⟨g, o, none⟩ = some v := by
  have e : (w.setCell ⟨b, 0, none⟩ u).drew.cell? ⟨g, o, none⟩ = w.cell? ⟨g, o, none⟩ := World.cell?_of_block (a := ⟨g, o, none⟩) (Below.heap_setCell w ⟨b, 0, none⟩ u g h)
  rw [e, hc]
/-- What a call of next does, with the numbers hidden. -/
def NextC (s x t : Nat) : Prop := ∀ (b : Nat) (w : World), Blk w b 83 #[.int .u64 s] →
  Calls Tryz.prog 61 #[.pointer (some ⟨b, 0, none⟩)] w (fun e w' => e = .returned (.int .u64 (x : Nat)) ∧ Blk w' b 83 #[.int .u64 (t : Nat)] ∧ LatP (· = b) w w' ∧ w'.heap.size = w.heap.size)
theorem nextC (s : Nat) (hs : s < 18446744073709551616) : NextC s (chMix (chStep s)) (chStep s) := fun b w hb => chNext_any b _ s hs w hb

set_option maxRecDepth 100000 in
set_option maxHeartbeats 1000000 in
theorem cNext_in (s x t : Nat) (HN : NextC s x t) (w : World) :
    Calls Tryz.prog 25 #[.agg #[.int .u64 s]] w (fun e w' => e = .returned (.tuple #[.int .u64 (x : Nat), .agg #[.int .u64 (t : Nat)]]) ∧ Lat w w') := by
  go_enter Tryz.func25, Tryz.ntmps25
  go_wp2_with fail
  refine name2 (Q := fun W => Calls _ _ _ W _) ?_
  intro W1 l1 hs1 k1 k3
  refine (chFrom_any s W1).mono ?_
  rintro e W2 ⟨g, rfl, kg, hg, l2⟩
  have k3 := k3.later l2
  have L2 := l1.trans l2
  go_wp2_with fail
  refine (HN g W2 kg).mono ?_
  rintro e W3 ⟨rfl, kg3, lp, hsz⟩
  have hne : ¬ w.heap.size + 1 = g := by omega
  have k3 := k3.keepP lp hne
  have L3 := lp.narrow L2 (by omega)
  have c0 : W3.cell? ⟨g, 0, none⟩ = some (.int .u64 (t : Int)) := kg3.cell 0
  have hlt := kg3.lt
  clear l1 l2 hs1 k1 kg lp hsz L2 hg HN
  have f3 := k3.frozen 0
  have d3 : W3.cell? ⟨w.heap.size + 1, 0, none⟩ = some (.int .u64 0) := k3.cell 0
  have h3 := k3.lt
  have c1 : W3.drew.cell? ⟨g, 0, none⟩ = some (.int .u64 (t : Int)) := c0
  have hng : g ≠ w.heap.size + 1 := fun h => hne h.symm
  go_wp2_with fail
  go_region_held3 (fun w' => w'.cell? ⟨g, 0, none⟩ = some (.int .u64 (t : Int))) (first | (with_reducible assumption) | exact cell_off hng _ c1) (fail)
  all_goals
    go_wp2
    have e3 : ((W3.setCell ⟨w.heap.size + 1, 0, none⟩ (.int .u64 (t : Int))).drew).cell? ⟨w.heap.size + 1, 0, none⟩ = some (.int .u64 (t : Int)) := by
      have := (k3.set 0 (.int .u64 (t : Int))).cell 0
      simpa using this
    refine bodyPost_ret (v := .tuple #[.int .u64 (x : Int), .agg #[.int .u64 (t : Int)]]) (by simp [results, Tryz.results25, go_sem, e3]) rfl ?_
    exact ⟨rfl, (L3.setCell (p := ⟨w.heap.size + 1, 0, none⟩) (by simp) _).trans (Lat.drew _)⟩
theorem cNext_any (s : Nat) (hs : s < 18446744073709551616) (w : World) :
    Calls Tryz.prog 25 #[.agg #[.int .u64 s]] w (fun e w' => e = .returned (.tuple #[.int .u64 (chMix (chStep s) : Nat), .agg #[.int .u64 (chStep s : Nat)]]) ∧ Lat w w') :=
  cNext_in s _ _ (nextC s hs) w
end Go.Proofs.YtogkkhaepfablaaGreat
