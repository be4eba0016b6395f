/- Several texts in one: RefMath, RefA, RefB, RefC, Own, RefD, RefE, RefF, RefG, RefH, RefI, RefJ, RefK, RefL, RefM, RefN, RefO, RefP, RefQ, RefR, RefS, RefT, RefU. -/
import Derived.Test.YteocdndanehpnaaGreatH01
import Derived.Test.YteocdndanehpnaaGreatProg
import Derived.Deep.QuietTactic
import Derived.BigQuiet
import Derived.StillTailTactics
import Derived.Deep.RegionHeld3
import Derived.Deep.AppendLies
import Derived.Deep.LoopGhost
import Derived.Test.YteocdndanehpnaaGreatH07
import Derived.Deep.DeepCutAuto
import Derived.Deep.DrawnRows
import Derived.Test.YteocdndanehpnaaGreatH09
import Derived.Test.YteocdndanehpnaaGreatH10
import Derived.Test.YteocdndanehpnaaGreatH11
namespace Go.Proofs.YteocdndanehpnaaGreat
end Go.Proofs.YteocdndanehpnaaGreat
namespace Go.Proofs.YteocdndanehpnaaGreat
open Go.RowKit
end Go.Proofs.YteocdndanehpnaaGreat
namespace Go.Proofs.YteocdndanehpnaaGreat
open Go.RowKit
end Go.Proofs.YteocdndanehpnaaGreat
namespace Go.Proofs.YteocdndanehpnaaGreat
open Go.RowKit
end Go.Proofs.YteocdndanehpnaaGreat
namespace Go.Proofs.YteocdndanehpnaaGreat
open Go.RowKit
def Own (w : World) (B : Nat) (E : TypeId) (k : IntKind) (v : Value) (xs : List Int) : Prop := w.ownsRow B E 1 v xs.length (xs.map (Value.int k))
section
variable {w w' : World} {B : Nat} {E : TypeId} {k : IntKind} {v : Value} {xs : List Int}
theorem Own.nil (w : World) (B : Nat) (E : TypeId) (k : IntKind) : Own w B E k (.slice none 0 0) [] := World.ownsRow_nil _ _ _ _
theorem Own.later (h : Own w B E k v xs) (hl : Lat w w') : Own w' B E k v xs := by
 obtain ⟨h1, h2⟩ := h
 refine ⟨h1, ?_⟩
 rcases h2 with h2 | ⟨g, cap, cur, a1, a2, a3, a4⟩
 ·exact .inl h2
 ·refine .inr ⟨g, cap, cur, a1, a2, ?_, a4⟩
  have hlt : g < w.heap.size := by
   rcases Nat.lt_or_ge g w.heap.size with hlt | hge
   ·exact hlt
   ·rw [Array.getElem?_eq_none hge] at a3; cases a3
  rw [Below.block hl g hlt]; exact a3
theorem Own.form (h : Own w B E k v xs) : ∃ A c, v = .slice A xs.length c ∧ Sl w k A xs.length xs ∧ xs.length ≤ c ∧ ∀ a, A = some a → B ≤ a.block ∧ a.block < w.heap.size := by
 obtain ⟨h1, h2⟩ := h
 rcases h2 with ⟨rfl, h0⟩ | ⟨g, cap, cur, rfl, hb, hg, hnc, _, hcs, ht⟩
 ·refine ⟨none, 0, by rw [h0], ?_, by omega, fun a e => by cases e⟩
  have : xs = [] := List.eq_nil_of_length_eq_zero h0
  subst this
  exact Sl.nil _ _ _
 ·have hlt : g < w.heap.size := by
   rcases Nat.lt_or_ge g w.heap.size with hlt | hge
   ·exact hlt
   ·rw [Array.getElem?_eq_none hge] at hg; cases hg
  refine ⟨_, cap, rfl, ⟨rfl, fun hn => ⟨_, rfl, hlt, fun i x hx => ?_⟩⟩, hnc, fun a e => by cases e; exact ⟨hb, hlt⟩⟩
  have e : (⟨g, 0, none⟩ : Addr).add i = ⟨g, i, none⟩ := by unfold Addr.add; split <;> simp_all
  rw [e, cell_of_row w g i cur E (0, 0) hg]
  have hi : (xs.map (Value.int k))[i]? = some (.int k x) := by simp [hx]
  rw [← ht, List.getElem?_take] at hi
  split at hi
  ·simpa using hi
  ·cases hi
theorem Own.lat {W : World} (h : Own w B E k v xs) (hl : Lat W w) (hB : W.heap.size ≤ B) (hg : w.grownBy w' v.ownBlock) : Lat W w' :=
 Below.grown hl hg (hl.size) (fun j hj => by
  rcases h.2 with ⟨rfl, _⟩ | ⟨g, cap, cur, rfl, hb, _⟩
  ·cases hj
  ·have : g = j := by simpa [Value.ownBlock] using hj
   omega)
end
theorem wpList_push {P : Program} {ops : Array Oper} {rest : List Oper} {o : Oper} {a : Act} {Q : Exit → Act → World → Prop} (hgd : o.guard = none) (s x : Operand) (t : TypeId)
  (ho : o.op = .call { callee := .builtin .append, args := #[s, x], argTypes := #[t, t] })
  (B : Nat) (E T : TypeId) (k : IntKind) (by_ : Nat) (ht : P.underlying t = some (.slice E)) (hinfo : (P.info? E).map (fun i => (i.zero, i.size, i.bytes)) = some (some (.int k 0), 1, by_)) (hby : by_ ≤ 8)
  (v : Value) (xs ys : List Int) (cs : Array Value) (hcs : cs = nums k ys) (W : World) (hs : a.eval s = v) (hown : Own W B E k v xs)
  (m : Nat) (hm : ys.length = m) (hm0 : 0 < m) (hx : a.eval x = .slice (some ⟨W.heap.size, 0, none⟩) m m) (hlen : xs.length + m ≤ 17000000000000) (hB : B ≤ W.heap.size)
  (h : ∀ v' w', Own w' B E k v' (xs ++ ys) → (∀ W0, Lat W0 W → W0.heap.size ≤ B → Lat W0 w') → wpList P ops Q rest (a.put o.dst v') w') : wpList P ops Q (o :: rest) a (W.alloc (.cells cs T)) := by
 obtain ⟨i0, hi, hz0, hz1, hz2⟩ := info_parts hinfo
 subst hcs
 have hown1 := Own.later hown (Lat.alloc W (.cells (nums k ys) T))
 have hb := Blk.new W T (nums k ys)
 subst hm
 refine wpList_append_own _ hgd s x t ho B E i0 (.int k 0) 1 by_ ht hi hz0 hz1 hz2 rfl (by decide) v xs.length _ hs hown1 ⟨W.heap.size, 0, none⟩ ys.length ys.length (ys.map (Value.int k)) hx (by simp) ?_ ?_ ?_ ?_ ?_ ?_
 ·intro j u hu
  have e : (⟨W.heap.size, 0, none⟩ : Addr).add j = ⟨W.heap.size, j, none⟩ := by unfold Addr.add; split <;> simp_all
  rw [e, hb.cell j]
  simpa [nums] using hu
 ·exact ints_oneCell _ _
 ·unfold maxLen; omega
 ·have := Nat.mul_le_mul_left (xs.length + ys.length) hby; omega
 ·simp; omega
 ·intro v' w' h1 h2 _
  refine h v' w' ?_ (fun W0 hl hle => Own.lat hown1 (hl.trans (Lat.alloc _ _)) hle h2)
  unfold Own
  rw [List.length_append, List.map_append]
  exact h1
end Go.Proofs.YteocdndanehpnaaGreat
namespace Go.Proofs.YteocdndanehpnaaGreat
open Go.RowKit
theorem infoI64 : (Tryz.prog.info? 3).map (fun i => (i.zero, i.size, i.bytes)) = some (some (.int .i64 0), 1, 8) := by kernel_rfl
end Go.Proofs.YteocdndanehpnaaGreat
namespace Go.Proofs.YteocdndanehpnaaGreat
open Go.RowKit
end Go.Proofs.YteocdndanehpnaaGreat
namespace Go.Proofs.YteocdndanehpnaaGreat
open Go.RowKit
end Go.Proofs.YteocdndanehpnaaGreat
namespace Go.Proofs.YteocdndanehpnaaGreat
open Go.RowKit
end Go.Proofs.YteocdndanehpnaaGreat
namespace Go.Proofs.YteocdndanehpnaaGreat
open Go.RowKit
end Go.Proofs.YteocdndanehpnaaGreat
namespace Go.Proofs.YteocdndanehpnaaGreat
open Go.RowKit
end Go.Proofs.YteocdndanehpnaaGreat
namespace Go.Proofs.YteocdndanehpnaaGreat
open Go.RowKit
end Go.Proofs.YteocdndanehpnaaGreat
namespace Go.Proofs.YteocdndanehpnaaGreat
open Go.RowKit
end Go.Proofs.YteocdndanehpnaaGreat
namespace Go.Proofs.YteocdndanehpnaaGreat
open Go.RowKit
end Go.Proofs.YteocdndanehpnaaGreat
namespace Go.Proofs.YteocdndanehpnaaGreat
open Go.RowKit
end Go.Proofs.YteocdndanehpnaaGreat
namespace Go.Proofs.YteocdndanehpnaaGreat
open Go.RowKit
attribute [local go_sem ↓] Go.wp_at_zero Go.wp_at_succ
end Go.Proofs.YteocdndanehpnaaGreat
namespace Go.Proofs.YteocdndanehpnaaGreat
open Go.RowKit
end Go.Proofs.YteocdndanehpnaaGreat
namespace Go.Proofs.YteocdndanehpnaaGreat
open Go.RowKit
end Go.Proofs.YteocdndanehpnaaGreat
namespace Go.Proofs.YteocdndanehpnaaGreat
open Go.RowKit
end Go.Proofs.YteocdndanehpnaaGreat
namespace Go.Proofs.YteocdndanehpnaaGreat
open Go.RowKit
end Go.Proofs.YteocdndanehpnaaGreat
namespace Go.Proofs.YteocdndanehpnaaGreat
open Go.RowKit
end Go.Proofs.YteocdndanehpnaaGreat
namespace Go.Proofs.YteocdndanehpnaaGreat
open Go.RowKit
end Go.Proofs.YteocdndanehpnaaGreat
namespace Go.Proofs.YteocdndanehpnaaGreat
open Go.RowKit
end Go.Proofs.YteocdndanehpnaaGreat
