
/- For regions that draw their order, walked by hand: blocks whole, operations whose guard does not hold (the general part of RefZ and Skip). -/
import Derived.Test.YtogkkhaepfablaaGreatJ28
import Derived.Deep.DeepCutAuto
namespace Go.Proofs.YtogkkhaepfablaaGreat
open Go.RowKit

theorem Blk.rangeAll {w : World} {g : Nat} {t : TypeId} {l : List Value} (h : Blk w g t l.toArray) : w.rangeAt g 0 l := fun j v hj => by rw [Nat.zero_add, h.cell j]; simpa using hj
theorem Blk.thereAll {w : World} {g : Nat} {t : TypeId} {cs : Array Value} (h : Blk w g t cs) (n : Nat) (hn : cs.size = n) : w.there g 0 n := fun j hj => by
  rw [Nat.zero_add]
  exact ⟨by rw [h.cell j, Array.getElem?_eq_getElem (by omega)]; rfl, h.frozen j⟩

theorem Blk.keepS {W w : World} {g : Nat} {t : TypeId} {cs : Array Value} {gs : List Nat} (h : Blk W g t cs) (hg : g ∉ gs) (hl : LatS W gs w) : Blk w g t cs := (hl.2 g h.lt hg).trans h

theorem LatS.setCells {w0 : World} {gs : List Nat} {g : Nat} (hg : g ∈ gs) (vs : List Value) : ∀ (w : World) (o : Nat), LatS w0 gs w → LatS w0 gs (w.setCells g o vs) := by
  induction vs with
  | nil => exact fun w o h => h
  | cons x r ih => exact fun w o h => ih _ _ (h.set (p := ⟨g, o, none⟩) hg x)

theorem wpAnyH_skip {P : Program} {md : Region.Mode} {ops : Array Oper} {Q : Exit → Act → World → Prop} {S : World → Prop} (i : Nat) (d : Tmp) {fuel : Nat} {listed : Array Bool} {a : Act} {w : World} (h0 : (ops[i]?).map (·.dst) = some (some d))
    (hs : Region.noSelect ops = true) (hf : Region.free md ops listed i = true) (hr : (Region.ready md ops listed).contains i = true)
    (hQ : ∀ c (a : Act) w, Q (.panic c) (a.put (some d) undef) w → Q (.panic c) a w) (hw : (ops[i]?).map (fun o => Region.wanted o (yielded ops a.tmps)) = some false) (hS : S w)
    (h : wpAnyH P md ops Q S fuel (listed.setIfInBounds i true) (a.put (some d) undef) w) : wpAnyH P md ops Q S (fuel + 1) listed a w := by
  cases ho : ops[i]? with
  | none => rw [ho] at h0; cases h0
  | some o =>
    rw [ho] at h0 hw
    simp only [Option.map_some, Option.some.injEq] at h0 hw
    refine wpAnyH_take (oi := o) (v := undef) ho hs hf hr (by rw [h0]; exact hQ) (.inr ⟨hw, rfl⟩) hS ?_
    rw [h0]
    exact h

end Go.Proofs.YtogkkhaepfablaaGreat
