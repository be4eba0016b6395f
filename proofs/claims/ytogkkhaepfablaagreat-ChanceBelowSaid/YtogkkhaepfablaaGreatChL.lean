
/- wide: the map of the operations. -/
import Derived.Test.YtogkkhaepfablaaGreatChK
import Derived.WideMake
namespace Go.Proofs.YtogkkhaepfablaaGreat
open Go.RowKit
set_option linter.unusedSimpArgs false

def opEs : Array MapEntry := #[{ key := .int .u8 43, val := .func (.func 97) #[] #[], born := 0 }, { key := .int .u8 45, val := .func (.func 98) #[] #[], born := 1 }, { key := .int .u8 42, val := .func (.func 99) #[] #[], born := 2 }]
theorem run_ins {w : World} {r clock : Nat} {es : Array MapEntry} (k : Int) (val : Value) (hb : w.heap[r]? = some (.map es clock)) (hf : Instr.findNow (.int .u8) (.int .u8 k) es.toList 0 = some none) :
    (Instr.mapUpdate 131 (.map (some r)) (.int .u8 k) val).run Tryz.prog w = .ok () (w.putObj r (.map (es.push { key := .int .u8 k, val := val, born := clock }) (clock + 1))) := by
  have hk := Tryz.underlying5
  have hc : (Instr.checkKey false 10000 5 (.int .u8 k)).run Tryz.prog w = .ok () w := MapKept.run_checkKey (k := .int .u8 k) hk (by simp [MapKept.IsKey]) false 9999
  simp [Instr.mapUpdate, run_underlying Tryz.underlying131, MapKept.run_getObj_map hb, hc, MapKept.run_findKey hk hf, MapKept.run_setObj_map _ hb, Result.andThen, World.putObj]
theorem run_look {w : World} {r clock i : Nat} {es : Array MapEntry} (k : Int) (val : Value) (hb : w.heap[r]? = some (.map es clock)) (hf : Instr.findNow (.int .u8) (.int .u8 k) es.toList 0 = some (some (i, val))) :
    (Instr.lookup 131 (.map (some r)) (.int .u8 k) false).run Tryz.prog w = .ok val w := by
  have hk := Tryz.underlying5
  have hc : (Instr.checkKey es.isEmpty 10000 5 (.int .u8 k)).run Tryz.prog w = .ok () w := MapKept.run_checkKey (k := .int .u8 k) hk (by simp [MapKept.IsKey]) _ 9999
  simp [Instr.lookup, run_underlying Tryz.underlying131, MapKept.run_getObj_map hb, hc, MapKept.run_findKey hk hf, Result.andThen]

set_option maxRecDepth 100000 in
set_option maxHeartbeats 4000000 in
theorem operations_any (w : World) : Calls Tryz.prog 80 #[] w (fun e w' => ∃ r, e = .returned (.map (some r)) ∧ w'.heap[r]? = some (.map opEs 3) ∧ Lat w w') := by
  have hmm := @run_makeMap Tryz.prog
  have b0 : (w.alloc (.map #[] 0)).heap[w.heap.size]? = some (.map #[] 0) := World.alloc_heap_new w _
  have p1 := lat_putObj (o := .map #[{ key := .int .u8 43, val := .func (.func 97) #[] #[], born := 0 }] 1) (heap_lt b0)
  have b1 := putObj_at (o := .map #[{ key := .int .u8 43, val := .func (.func 97) #[] #[], born := 0 }] 1) (heap_lt b0)
  have h1 := run_ins 43 (.func (.func 97) #[] #[]) b0 (by rfl)
  have p2 := lat_putObj (o := .map #[{ key := .int .u8 43, val := .func (.func 97) #[] #[], born := 0 }, { key := .int .u8 45, val := .func (.func 98) #[] #[], born := 1 }] 2) (heap_lt b1)
  have b2 := putObj_at (o := .map #[{ key := .int .u8 43, val := .func (.func 97) #[] #[], born := 0 }, { key := .int .u8 45, val := .func (.func 98) #[] #[], born := 1 }] 2) (heap_lt b1)
  have h2 := run_ins 45 (.func (.func 98) #[] #[]) b1 (by rfl)
  have p3 := lat_putObj (o := .map opEs 3) (heap_lt b2)
  have b3 := putObj_at (o := .map opEs 3) (heap_lt b2)
  have h3 := run_ins 42 (.func (.func 99) #[] #[]) b2 (by rfl)
  have LF := ((p1.trans p2).trans p3).narrow (Lat.alloc w (.map #[] 0)) (Nat.le_refl _)
  have HB := Lib.hid b3
  have HL := Lib.hid LF
  clear p1 p2 p3 b0 b1 b2 b3 LF
  go_enter Tryz.func80, Tryz.ntmps80
  go_wp2
  go_ret
  exact ⟨_, rfl, HB.out, HL.out⟩

/-- What holds of the worlds may be said more narrowly on the way. -/
theorem wpAnyH_mono {P : Program} {md : Region.Mode} {ops : Array Oper} {Q : Exit → Act → World → Prop} {S S' : World → Prop} (hS : ∀ w, S' w → S w) :
    ∀ (fuel : Nat) (listed : Array Bool) (a : Act) (w : World), wpAnyH P md ops Q S' fuel listed a w → wpAnyH P md ops Q S fuel listed a w
  | 0, _, _, _, h => h
  | fuel + 1, _, _, _, h => ⟨h.1, fun i hi => wpOp_mono (fun a' w' h' => ⟨hS _ h'.1, wpAnyH_mono hS fuel _ a' w' h'.2⟩) (h.2 i hi)⟩
end Go.Proofs.YtogkkhaepfablaaGreat
