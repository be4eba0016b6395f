/- Several texts in one: ShareE, ShareF, ShareG. -/
import Derived.Test.YtogkkhaepfablaaGreatJ13
import Derived.Deep.MidRow

/- Shares: valid ones, two of them, products and comparisons. -/
namespace Go.Proofs.YtogkkhaepfablaaGreat
open Go.RowKit

theorem shareInfo : (Tryz.prog.info? 53).map (·.size) = some 16 := by kernel_rfl
theorem load_share {w : World} {g o : Nat} (x y : W8) (h : w.rangeAt g o [.int .u64 x.a0, .int .u64 x.a1, .int .u64 x.a2, .int .u64 x.a3, .int .u64 x.a4, .int .u64 x.a5, .int .u64 x.a6, .int .u64 x.a7, .int .u64 y.a0, .int .u64 y.a1, .int .u64 y.a2, .int .u64 y.a3, .int .u64 y.a4, .int .u64 y.a5, .int .u64 y.a6, .int .u64 y.a7]) :
    (Instr.loadAt 53 (.pointer (some ⟨g, o, none⟩))).run Tryz.prog w = .ok (.agg #[.int .u64 x.a0, .int .u64 x.a1, .int .u64 x.a2, .int .u64 x.a3, .int .u64 x.a4, .int .u64 x.a5, .int .u64 x.a6, .int .u64 x.a7, .int .u64 y.a0, .int .u64 y.a1, .int .u64 y.a2, .int .u64 y.a3, .int .u64 y.a4, .int .u64 y.a5, .int .u64 y.a6, .int .u64 y.a7]) w :=
  run_loadAt_mid w g o _ _ _ h Tryz.underlying53 rfl shareInfo
theorem Blk.range {w : World} {g o : Nat} {t : TypeId} {cs : Array Value} (h : Blk w g t cs) (l : List Value) (hl : ∀ j v, l[j]? = some v → cs[o + j]? = some v) : w.rangeAt g o l :=
  fun j v hj => (h.cell (o + j)).trans (hl j v hj)

end Go.Proofs.YtogkkhaepfablaaGreat

/- Shares: products and comparisons of valid ones. -/
namespace Go.Proofs.YtogkkhaepfablaaGreat
open Go.RowKit

theorem Blk.rangeS {W : World} {g : Nat} {t : TypeId} {cs : List Value} (h : Blk W g t cs.toArray) {gs : List Nat} (hg : g ∉ gs) : ∀ w, LatS W gs w → w.rangeAt g 0 cs := by
  intro w hl j v hj
  have hlt := h.lt
  have : w.heap[g]? = W.heap[g]? := hl.2 g hlt hg
  have hb : Blk w g t cs.toArray := this.trans h
  rw [Nat.zero_add, hb.cell j]
  simpa using hj

end Go.Proofs.YtogkkhaepfablaaGreat

/- Shares: Cmp, Mul, Make, Of. -/
namespace Go.Proofs.YtogkkhaepfablaaGreat
open Go.RowKit

end Go.Proofs.YtogkkhaepfablaaGreat
