/- Several texts in one: Below. -/
import Derived.Test.YtkjnjooggicgiaaRows
import Derived.Test.YtkjnjooggicgiaaJ01
import Derived.Below
import Derived.WalkKit
import Derived.ProofKit
import Derived.OpenShut
import Derived.ShutString
import Derived.ChangeSame

/- The row's last step where the world behind the call is later ('Lat'): what was there is as it was. -/
namespace Go.Proofs.Ytkjnjooggicgiaa
open Go.ChangeShapes Go.WideShapes Go.ChangeAt Go.RowKit

section
variable {H : Type} {enc : TypeId × Value → H} {P : Program}
/-- The post of a row of a law without variables, whose call hands back results and leaves its arguments reading as before. -/
theorem post_later {f : Func} {s : ChangeSpec} {apart fresh handsOn again : Bool} {W W' : World} {args : Array Value} {v : Value} {ds gs : List (DataW H)} {before pa pv : List MemPlace}
    (hW : DataW.Whole enc P f.params.toList s.vars apart W args.toList ds gs before) (hps : before = pa ++ pv) (hb : Lat W W')
    (hres : ∀ (b : Nat) (sp : Nat → Bool) (hd : Bool), DataW.TrodAll enc P W' b sp hd f.resultTypes.toList (v.resultList f.resultTypes.size) (s.fn H (ds ++ gs)).results [])
    (hargs : ∀ sp : Nat → Bool, (∀ p ∈ before, sp p.block = true) → DataW.TrodAll enc P W' 0 sp true f.params.toList args.toList (s.fn H (ds ++ gs)).args pa)
    (hvars : ∀ sp : Nat → Bool, (∀ p ∈ before, sp p.block = true) → DataW.TrodVars enc P W' sp s.vars (s.fn H (ds ++ gs)).vars pv)
    (hok : ∀ (j : Nat) (t : TypeId) (r : Value), f.resultTypes[j]? = some t → (v.resultList f.resultTypes.size)[j]? = some r → Value.okWide P W' .any 0 t r) :
    s.post enc P f apart fresh handsOn again W args v W' := by
  have hB : Below W.heap.size W W' := hb
  have hlt := fun p hp => hW.lt p hp
  have hsp : ∀ p ∈ before, decide (p.block < W.heap.size) = true := fun p hp => decide_eq_true (hlt p hp)
  obtain ⟨h1, h2, h3, h4, h5, hz, hn⟩ := id hW
  have hno : ∀ b off, MemPlace.cell b off ∈ pa ++ pv → W'.frozen? ⟨b, off, none⟩ = false := fun b off hp => by
    have hin : MemPlace.cell b off ∈ before := hps ▸ hp
    rw [hB.frozen (hlt _ hin)]
    exact hz b off hin
  refine ⟨ds, gs, before, [], pa, pv, hW, hres _ _ _, hargs (fun b => decide (b < W.heap.size)) hsp, hvars (fun b => decide (b < W.heap.size)) hsp, World.keptBut_mono (fun p hp => ⟨hp, ?_⟩) (hB.frame (· ∈ before)), fun _ => ⟨hok, (s.fn H (ds ++ gs)).results ++ (s.fn H (ds ++ gs)).args, (s.fn H (ds ++ gs)).vars, pa ++ pv, ⟨pa, pv, ?_, hvars (fun _ => true) (fun _ _ => rfl), rfl, hno, ?_⟩, ?_⟩⟩
  · rw [hps] at hp
    exact .inr (List.mem_append.1 hp)
  · have := trodAll_append (hargs (fun _ => true) (fun _ _ => rfl)) (hres 0 (fun _ => true) true)
    simpa using this
  · intro ha
    have := hn ha
    rwa [hps] at this
  · intro p hp _
    rwa [hps]
end
end Go.Proofs.Ytkjnjooggicgiaa
