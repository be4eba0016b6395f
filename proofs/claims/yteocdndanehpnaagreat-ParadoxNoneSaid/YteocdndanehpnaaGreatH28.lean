/- Several texts in one: Below, Frame, FrameB, FrameC. -/
import Derived.Test.YteocdndanehpnaaGreatRows
import Derived.Test.YteocdndanehpnaaGreatH01
import Derived.Below
import Derived.WalkKit
import Derived.ProofKit
import Derived.OpenShut
import Derived.ShutString
import Derived.ChangeSame
import Derived.ReadAgain
import Derived.Lib.SmallJoins
import Derived.Laws.IdiomArrays
namespace Go.Proofs.YteocdndanehpnaaGreat
open Go.ChangeShapes Go.WideShapes Go.ChangeAt Go.RowKit
section
variable {H : Type} {enc : TypeId × Value → H} {P : Program}
theorem post_later {f : Func} {s : ChangeSpec} {apart fresh handsOn again : Bool} {W W' : World} {args : Array Value} {v : Value} {ds gs : List (DataW H)} {before pa pv : List MemPlace}
  (hW : DataW.Whole enc P f.params.toList s.vars apart W args.toList ds gs before) (hps : before = pa ++ pv) (hb : Lat W W')
  (hres : ∀ (b : Nat) (sp : Nat → Bool) (hd : Bool), DataW.TrodAll enc P W' b sp hd f.resultTypes.toList (v.resultList f.resultTypes.size) (s.fn H (ds ++ gs)).results [])
  (hargs : ∀ sp : Nat → Bool, (∀ p ∈ before, sp p.block = true) → DataW.TrodAll enc P W' 0 sp true f.params.toList args.toList (s.fn H (ds ++ gs)).args pa)
  (hvars : ∀ sp : Nat → Bool, (∀ p ∈ before, sp p.block = true) → DataW.TrodVars enc P W' sp s.vars (s.fn H (ds ++ gs)).vars pv)
  (hok : ∀ (j : Nat) (t : TypeId) (r : Value), f.resultTypes[j]? = some t → (v.resultList f.resultTypes.size)[j]? = some r → Value.okWide P W' .any 0 t r) :
  s.post enc P f apart fresh handsOn again W args v W' := by
 have hB : Below W.heap.size W W' := hb
 have hlt := fun p hp => hW.lt p hp
 have hsp : ∀ p ∈ before, decide (p.block < W.heap.size) = true := fun p hp => decide_eq_true (hlt p hp)
 obtain ⟨h1, h2, h3, h4, h5, hz, hn⟩ := id hW
 have hno : ∀ b off, MemPlace.cell b off ∈ pa ++ pv → W'.frozen? ⟨b, off, none⟩ = false := fun b off hp => by
  have hin : MemPlace.cell b off ∈ before := hps ▸ hp
  rw [hB.frozen (hlt _ hin)]
  exact hz b off hin
 refine ⟨ds, gs, before, [], pa, pv, hW, hres _ _ _, hargs (fun b => decide (b < W.heap.size)) hsp, hvars (fun b => decide (b < W.heap.size)) hsp, World.keptBut_mono (fun p hp => ⟨hp, ?_⟩) (hB.frame (· ∈ before)), fun _ => ⟨hok, (s.fn H (ds ++ gs)).results ++ (s.fn H (ds ++ gs)).args, (s.fn H (ds ++ gs)).vars, pa ++ pv, ⟨pa, pv, ?_, hvars (fun _ => true) (fun _ _ => rfl), rfl, hno, ?_⟩, ?_⟩⟩
 ·rw [hps] at hp
  exact .inr (List.mem_append.1 hp)
 ·have := trodAll_append (hargs (fun _ => true) (fun _ _ => rfl)) (hres 0 (fun _ => true) true)
  simpa using this
 ·intro ha
  have := hn ha
  rwa [hps] at this
 ·intro p hp _
  rwa [hps]
end
end Go.Proofs.YteocdndanehpnaaGreat
namespace Go.Proofs.YteocdndanehpnaaGreat
open Go.ChangeShapes Go.WideShapes Go.ChangeAt Go.RowKit
theorem kidsA : Kids Tryz.prog (· < Tryz.prog.types.size) := kids_rows (by kernel_rfl) (by kernel_rfl)
theorem fullA : ∀ t e, t < Tryz.prog.types.size → Tryz.prog.underlying t = some (.slice e) → 0 < Tryz.prog.cellsOf e := slices_full_of Tryz.prog (by kernel_rfl)
section
variable {H : Type} {enc : TypeId × Value → H} {P : Program} {T : TypeId → Prop} {w w' : World} {base : Nat} {spare : Nat → Bool} {held : Bool}
theorem trodAll_carry : ∀ {ts : List TypeId} {vs : List Value} {ds : List (DataW H)} {ps : List MemPlace}, DataW.TrodAll enc P w base spare held ts vs ds ps → (∀ p ∈ ps, w.sameAt w' p) → DataW.TrodAll enc P w' base spare held ts vs ds ps
 | [], [], [], _, h, _ => h
 | _ :: _, _ :: _, _ :: _, _, ⟨p, q, ⟨n, h1⟩, h2, e⟩, hs =>
   ⟨p, q, ⟨n, DataW.trod_carry n _ _ _ h1 (fun x hx => hs x (by rw [e]; exact List.mem_append_left _ hx))⟩, trodAll_carry h2 (fun x hx => hs x (by rw [e]; exact List.mem_append_right _ hx)), e⟩
theorem sameAt_later {W W' : World} (hl : Lat W W') : ∀ p : MemPlace, p.block < W.heap.size → W.sameAt W' p
 | .cell b off, h => World.cell?_of_block (a := ⟨b, off, none⟩) (Below.block hl b h)
 | .map b, h => Below.block hl b h
theorem post_true (K : Kids P T) (hz : ∀ t e, T t → P.underlying t = some (.slice e) → 0 < P.cellsOf e) {f : Func} {s : ChangeSpec} {apart fresh handsOn again : Bool} {W W' : World} {args : Array Value} {ds gs : List (DataW H)} {before ps : List MemPlace} {tb : TypeId}
  (hT : ∀ t ∈ f.params.toList, T t) (hA : DataW.TrodAll enc P W 0 (fun _ => true) true f.params.toList args.toList ds ps) (hpb : before = ps)
  (hW : DataW.Whole enc P f.params.toList s.vars apart W args.toList ds gs before) (hl : Lat W W') (hv : s.vars = [])
  (hr : (s.fn H (ds ++ gs)).results = [.lit (.bool true)]) (ha : (s.fn H (ds ++ gs)).args = ds) (hx : (s.fn H (ds ++ gs)).vars = []) (ht : f.resultTypes = #[tb]) (hb : P.underlying tb = some .bool) :
  s.post enc P f apart fresh handsOn again W args (.bool true) W' := by
 subst hpb
 have hlt := hA.lt
 refine post_later (pa := before) (pv := []) hW (by simp) hl (fun b sp hd => ?_) (fun sp hsp => ?_) (fun sp _ => ?_) ?_
 ·rw [hr, ht]
  exact trodAll_cons_mk (shut_bool hb true) trodAll_mk0
 ·rw [ha]
  exact trodAll_carry (DataW.TrodAll.respare K hz hT hA hsp) (fun p hp => sameAt_later hl p (hlt p hp))
 ·rw [hx, hv]
  rfl
 ·exact ok_one ht rfl (okWide_bool_mk hb true)
theorem open_slT {t e : TypeId} {k : IntKind} {fuel : Nat} {c : Value} {x : DataW H × List MemPlace} (ht : P.underlying t = some (.slice e)) (he : P.underlying e = some (.int k)) (hc : P.cellsOf e = 1)
  (hf : DataW.trod enc P w base spare held fuel t [c] = some x) :
  ∃ A n c' xs, c = .slice A n c' ∧ Sl w k A n xs ∧ n ≤ c' ∧ n ≤ 9223372036854775807 ∧ ∀ x ∈ xs, (Lit.int k x).wf = true := by
 rcases open_ints ht he hc hf with ⟨h1, _⟩ | ⟨a, len, cap, zs, h1, _, hlc, hcm, hz, _, hcell, hw⟩
 ·simp only [List.cons.injEq, and_true] at h1
  subst h1
  exact ⟨none, 0, 0, [], rfl, Sl.nil _ _ _, Nat.le_refl _, by omega, fun x hx => by cases hx⟩
 ·simp only [List.cons.injEq, and_true] at h1
  subst h1
  have hlz : len ≤ zs.length := by rw [hz]; split <;> omega
  refine ⟨some a, len, cap, zs.take len, rfl, ⟨by rw [List.length_take]; omega, fun hn => ⟨a, rfl, ?_, fun i x hx => ?_⟩⟩, hlc, by unfold maxLen at hcm; omega, fun x hx => hw x (List.mem_of_mem_take hx)⟩
  ·have := World.block_lt_of_cell? _ _ (hcell 0 (by omega))
   rwa [block_add] at this
  ·have hi : i < len := by
    have := (List.getElem?_eq_some_iff.1 hx).1
    rw [List.length_take] at this
    omega
   rw [hcell i (by omega)]
   rw [List.getElem?_take_of_lt hi] at hx
   rw [List.getD, hx]
   rfl
theorem open_sl {r : Reach} {b0 : Nat} {t e : TypeId} {k : IntKind} {v : Value} {d : DataW H} {ps : List MemPlace} (ht : P.underlying t = some (.slice e)) (he : P.underlying e = some (.int k)) (hc : P.cellsOf e = 1)
  (hval : Value.okWide P w r b0 t v) (h : DataW.Trod enc P w base spare held t v d ps) :
  ∃ A n c xs, v = .slice A n c ∧ Sl w k A n xs ∧ n ≤ c ∧ n ≤ 9223372036854775807 ∧ ∀ x ∈ xs, (Lit.int k x).wf = true := by
 obtain ⟨a0, len0, cap0, rfl⟩ := okWide_slice ht hval
 obtain ⟨fuel, hf⟩ := h
 exact open_slT ht he hc hf
end
end Go.Proofs.YteocdndanehpnaaGreat
namespace Go.Proofs.YteocdndanehpnaaGreat
open Go.ChangeShapes Go.WideShapes Go.ChangeAt Go.RowKit
section
variable {H : Type} {enc : TypeId × Value → H} {P : Program} {w : World} {base : Nat} {spare : Nat → Bool} {held : Bool}
end
end Go.Proofs.YteocdndanehpnaaGreat
namespace Go.Proofs.YteocdndanehpnaaGreat
open Go.ChangeShapes Go.WideShapes Go.ChangeAt Go.RowKit
end Go.Proofs.YteocdndanehpnaaGreat
