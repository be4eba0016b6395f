/- Several texts in one: Below, Frame, FrameC, FrDr. -/
import Derived.Test.YtogkkhaepfablaaGreatRows
import Derived.Test.YtogkkhaepfablaaGreatJ01
import Derived.Below
import Derived.WalkKit
import Derived.ProofKit
import Derived.OpenShut
import Derived.ShutString
import Derived.ChangeSame
import Derived.ReadAgain
import Derived.Lib.SmallJoins
import Derived.Test.YtogkkhaepfablaaGreatK34
import Derived.Deep.Strs
namespace Go.Proofs.YtogkkhaepfablaaGreat
open Go.ChangeShapes Go.WideShapes Go.ChangeAt Go.RowKit
section
variable {H : Type} {enc : TypeId × Value → H} {P : Program}
theorem post_later {f : Func} {s : ChangeSpec} {apart fresh handsOn again : Bool} {W W' : World} {args : Array Value} {v : Value} {ds gs : List (DataW H)} {before pa pv : List MemPlace}
  (hW : DataW.Whole enc P f.params.toList s.vars apart W args.toList ds gs before) (hps : before = pa ++ pv) (hb : Lat W W')
  (hres : ∀ (b : Nat) (sp : Nat → Bool) (hd : Bool), DataW.TrodAll enc P W' b sp hd f.resultTypes.toList (v.resultList f.resultTypes.size) (s.fn H (ds ++ gs)).results [])
  (hargs : ∀ sp : Nat → Bool, (∀ p ∈ before, sp p.block = true) → DataW.TrodAll enc P W' 0 sp true f.params.toList args.toList (s.fn H (ds ++ gs)).args pa)
  (hvars : ∀ sp : Nat → Bool, (∀ p ∈ before, sp p.block = true) → DataW.TrodVars enc P W' sp s.vars (s.fn H (ds ++ gs)).vars pv)
  (hok : ∀ (j : Nat) (t : TypeId) (r : Value), f.resultTypes[j]? = some t → (v.resultList f.resultTypes.size)[j]? = some r → Value.okWide P W' .any 0 t r) :
  s.post enc P f apart fresh handsOn again W args v W' := by
 have hB : Below W.heap.size W W' := hb
 have hlt := fun p hp => hW.lt p hp
 have hsp : ∀ p ∈ before, decide (p.block < W.heap.size) = true := fun p hp => decide_eq_true (hlt p hp)
 obtain ⟨h1, h2, h3, h4, h5, hz, hn⟩ := id hW
 have hno : ∀ b off, MemPlace.cell b off ∈ pa ++ pv → W'.frozen? ⟨b, off, none⟩ = false := fun b off hp => by
  have hin : MemPlace.cell b off ∈ before := hps ▸ hp
  rw [hB.frozen (hlt _ hin)]
  exact hz b off hin
 refine ⟨ds, gs, before, [], pa, pv, hW, hres _ _ _, hargs (fun b => decide (b < W.heap.size)) hsp, hvars (fun b => decide (b < W.heap.size)) hsp, World.keptBut_mono (fun p hp => ⟨hp, ?_⟩) (hB.frame (· ∈ before)), fun _ => ⟨hok, (s.fn H (ds ++ gs)).results ++ (s.fn H (ds ++ gs)).args, (s.fn H (ds ++ gs)).vars, pa ++ pv, ⟨pa, pv, ?_, hvars (fun _ => true) (fun _ _ => rfl), rfl, hno, ?_⟩, ?_⟩⟩
 ·rw [hps] at hp
  exact .inr (List.mem_append.1 hp)
 ·have := trodAll_append (hargs (fun _ => true) (fun _ _ => rfl)) (hres 0 (fun _ => true) true)
  simpa using this
 ·intro ha
  have := hn ha
  rwa [hps] at this
 ·intro p hp _
  rwa [hps]
end
end Go.Proofs.YtogkkhaepfablaaGreat
namespace Go.Proofs.YtogkkhaepfablaaGreat
open Go.ChangeShapes Go.WideShapes Go.ChangeAt Go.RowKit
theorem kidsA : Kids Tryz.prog (· < Tryz.prog.types.size) := kids_rows (by kernel_rfl) (by kernel_rfl)
theorem fullA : ∀ t e, t < Tryz.prog.types.size → Tryz.prog.underlying t = some (.slice e) → 0 < Tryz.prog.cellsOf e := slices_full_of Tryz.prog (by kernel_rfl)
section
variable {H : Type} {enc : TypeId × Value → H} {P : Program} {T : TypeId → Prop} {w w' : World} {base : Nat} {spare : Nat → Bool} {held : Bool}
theorem trodAll_carry : ∀ {ts : List TypeId} {vs : List Value} {ds : List (DataW H)} {ps : List MemPlace}, DataW.TrodAll enc P w base spare held ts vs ds ps → (∀ p ∈ ps, w.sameAt w' p) → DataW.TrodAll enc P w' base spare held ts vs ds ps
 | [], [], [], _, h, _ => h
 | _ :: _, _ :: _, _ :: _, _, ⟨p, q, ⟨n, h1⟩, h2, e⟩, hs =>
   ⟨p, q, ⟨n, DataW.trod_carry n _ _ _ h1 (fun x hx => hs x (by rw [e]; exact List.mem_append_left _ hx))⟩, trodAll_carry h2 (fun x hx => hs x (by rw [e]; exact List.mem_append_right _ hx)), e⟩
theorem sameAt_later {W W' : World} (hl : Lat W W') : ∀ p : MemPlace, p.block < W.heap.size → W.sameAt W' p
 | .cell b off, h => World.cell?_of_block (a := ⟨b, off, none⟩) (Below.block hl b h)
 | .map b, h => Below.block hl b h
theorem post_true (K : Kids P T) (hz : ∀ t e, T t → P.underlying t = some (.slice e) → 0 < P.cellsOf e) {f : Func} {s : ChangeSpec} {apart fresh handsOn again : Bool} {W W' : World} {args : Array Value} {ds gs : List (DataW H)} {before ps : List MemPlace} {tb : TypeId}
  (hT : ∀ t ∈ f.params.toList, T t) (hA : DataW.TrodAll enc P W 0 (fun _ => true) true f.params.toList args.toList ds ps) (hpb : before = ps)
  (hW : DataW.Whole enc P f.params.toList s.vars apart W args.toList ds gs before) (hl : Lat W W') (hv : s.vars = [])
  (hr : (s.fn H (ds ++ gs)).results = [.lit (.bool true)]) (ha : (s.fn H (ds ++ gs)).args = ds) (hx : (s.fn H (ds ++ gs)).vars = []) (ht : f.resultTypes = #[tb]) (hb : P.underlying tb = some .bool) :
  s.post enc P f apart fresh handsOn again W args (.bool true) W' := by
 subst hpb
 have hlt := hA.lt
 refine post_later (pa := before) (pv := []) hW (by simp) hl (fun b sp hd => ?_) (fun sp hsp => ?_) (fun sp _ => ?_) ?_
 ·rw [hr, ht]
  exact trodAll_cons_mk (shut_bool hb true) trodAll_mk0
 ·rw [ha]
  exact trodAll_carry (DataW.TrodAll.respare K hz hT hA hsp) (fun p hp => sameAt_later hl p (hlt p hp))
 ·rw [hx, hv]
  rfl
 ·exact ok_one ht rfl (okWide_bool_mk hb true)
theorem open_slT {t e : TypeId} {k : IntKind} {fuel : Nat} {c : Value} {x : DataW H × List MemPlace} (ht : P.underlying t = some (.slice e)) (he : P.underlying e = some (.int k)) (hc : P.cellsOf e = 1)
  (hf : DataW.trod enc P w base spare held fuel t [c] = some x) :
  ∃ A n c' xs, c = .slice A n c' ∧ Sl w k A n xs ∧ n ≤ c' ∧ n ≤ 9223372036854775807 ∧ ∀ x ∈ xs, (Lit.int k x).wf = true := by
 rcases open_ints ht he hc hf with ⟨h1, _⟩ | ⟨a, len, cap, zs, h1, _, hlc, hcm, hz, _, hcell, hw⟩
 ·simp only [List.cons.injEq, and_true] at h1
  subst h1
  exact ⟨none, 0, 0, [], rfl, Sl.nil _ _ _, Nat.le_refl _, by omega, fun x hx => by cases hx⟩
 ·simp only [List.cons.injEq, and_true] at h1
  subst h1
  have hlz : len ≤ zs.length := by rw [hz]; split <;> omega
  refine ⟨some a, len, cap, zs.take len, rfl, ⟨by rw [List.length_take]; omega, fun hn => ⟨a, rfl, ?_, fun i x hx => ?_⟩⟩, hlc, by unfold maxLen at hcm; omega, fun x hx => hw x (List.mem_of_mem_take hx)⟩
  ·have := World.block_lt_of_cell? _ _ (hcell 0 (by omega))
   rwa [block_add] at this
  ·have hi : i < len := by
    have := (List.getElem?_eq_some_iff.1 hx).1
    rw [List.length_take] at this
    omega
   rw [hcell i (by omega)]
   rw [List.getElem?_take_of_lt hi] at hx
   rw [List.getD, hx]
   rfl
theorem open_sl {r : Reach} {b0 : Nat} {t e : TypeId} {k : IntKind} {v : Value} {d : DataW H} {ps : List MemPlace} (ht : P.underlying t = some (.slice e)) (he : P.underlying e = some (.int k)) (hc : P.cellsOf e = 1)
  (hval : Value.okWide P w r b0 t v) (h : DataW.Trod enc P w base spare held t v d ps) :
  ∃ A n c xs, v = .slice A n c ∧ Sl w k A n xs ∧ n ≤ c ∧ n ≤ 9223372036854775807 ∧ ∀ x ∈ xs, (Lit.int k x).wf = true := by
 obtain ⟨a0, len0, cap0, rfl⟩ := okWide_slice ht hval
 obtain ⟨fuel, hf⟩ := h
 exact open_slT ht he hc hf
end
end Go.Proofs.YtogkkhaepfablaaGreat
namespace Go.Proofs.YtogkkhaepfablaaGreat
open Go.ChangeShapes Go.WideShapes Go.ChangeAt Go.RowKit
theorem chanceCells : Tryz.prog.cellsOf 24 = 1 := by kernel_rfl
theorem cellU64 : Tryz.prog.cellsOf 22 = 1 := by kernel_rfl
theorem list_one {α : Type} (l : List α) (h : (⟨l⟩ : Array α).size = 1) : ∃ a, l = [a] := by
 match l, h with
 | [a], _ => exact ⟨a, rfl⟩
set_option maxRecDepth 100000 in
theorem open_chance {H : Type} {enc : TypeId × Value → H} {w : World} {base : Nat} {spare : Nat → Bool} {held : Bool} {r : Reach} {b0 : Nat} {v : Value} {d : DataW H} {ps : List MemPlace}
  (hval : Value.okWide Tryz.prog w r b0 24 v) (h : DataW.Trod enc Tryz.prog w base spare held 24 v d ps) : ∃ s : Int, v = .agg #[.int .u64 s] ∧ (Lit.int .u64 s).wf = true := by
 obtain ⟨cs, rfl, hsz⟩ := okWide_struct Tryz.underlying24 hval
 rw [chanceCells] at hsz
 obtain ⟨l⟩ := cs
 obtain ⟨c0, rfl⟩ := list_one l hsz
 obtain ⟨fuel, hf⟩ := h
 obtain ⟨y0, n, _, _, h0⟩ := trod_struct1 Tryz.underlying24 hf
 simp only [cellU64, Value.cells] at h0
 obtain ⟨s, e0, _, w0⟩ := DataW.trod_int Tryz.underlying22 h0
 simp at e0
 subst e0
 exact ⟨s, rfl, w0⟩
theorem wf_u64' {a : Int} (h : (Lit.int .u64 a).wf = true) : 0 ≤ a ∧ a < 18446744073709551616 := by
 have e1 : IntKind.u64.min = 0 := by decide
 have e2 : IntKind.u64.max = 18446744073709551615 := by decide
 simp [Lit.wf, e1, e2] at h
 omega
end Go.Proofs.YtogkkhaepfablaaGreat
namespace Go.Proofs.YtogkkhaepfablaaGreat
open Go.ChangeShapes Go.WideShapes Go.ChangeAt Go.RowKit Go.Joins
theorem wf_u16d {x : Int} (h : (Lit.int .u16 x).wf = true) : 0 ≤ x ∧ x ≤ 65535 := by
 have e3 : IntKind.u16.min = 0 := by decide
 have e4 : IntKind.u16.max = 65535 := by decide
 simp [Lit.wf, e3, e4] at h
 omega
theorem wf_u32d {a : Int} (h : (Lit.int .u32 a).wf = true) : 0 ≤ a ∧ a < 4294967296 := by
 have e1 : IntKind.u32.min = 0 := by decide
 have e2 : IntKind.u32.max = 4294967295 := by decide
 simp [Lit.wf, e1, e2] at h
 omega
theorem cellsD1 : Tryz.prog.cellsOf 30 = 3 := by kernel_rfl
theorem cellsD2 : Tryz.prog.cellsOf 44 = 6 := by kernel_rfl
theorem cellsB : Tryz.prog.cellsOf 4 = 1 := by kernel_rfl
theorem cellsS16 : Tryz.prog.cellsOf 27 = 1 := by kernel_rfl
theorem cells16d : Tryz.prog.cellsOf 46 = 1 := by kernel_rfl
theorem cells32d : Tryz.prog.cellsOf 28 = 1 := by kernel_rfl
theorem list_six {α : Type} (l : List α) (h : (⟨l⟩ : Array α).size = 6) : ∃ a b c d e f, l = [a, b, c, d, e, f] := by
 match l, h with
 | [a, b, c, d, e, f], _ => exact ⟨a, b, c, d, e, f, rfl⟩
set_option maxRecDepth 100000 in
theorem trod_d1 {H : Type} {enc : TypeId × Value → H} {w : World} {base : Nat} {spare : Nat → Bool} {held : Bool} {fuel : Nat} {c0 c1 c2 : Value} {x : DataW H × List MemPlace}
  (h : DataW.trod enc Tryz.prog w base spare held fuel 30 [c0, c1, c2] = some x) : ∃ b A n c l, c0 = .bool b ∧ c1 = .slice A n c ∧ c2 = .int .u32 l ∧ DrIn w A n l := by
 obtain ⟨y0, y1, y2, n, _, _, h0, h1, h2⟩ := Go.Deep.trod_struct3 Tryz.underlying30 h
 simp only [cellsB, cellsS16, cells32d] at h0 h1 h2
 obtain ⟨b, e0, _⟩ := DataW.trod_bool Tryz.underlying4 h0
 obtain ⟨A, m, c, xs, e1, sl, _, _, wl⟩ := open_slT Tryz.underlying27 Tryz.underlying46 cells16d h1
 obtain ⟨l, e2, _, w2⟩ := DataW.trod_int Tryz.underlying28 h2
 simp at e0 e2
 exact ⟨b, A, m, c, l, e0, e1, e2, wf_u32d w2, xs, sl, fun x hx => wf_u16d (wl x hx)⟩
set_option maxRecDepth 100000 in
theorem open_draft2 {H : Type} {enc : TypeId × Value → H} {w : World} {base : Nat} {spare : Nat → Bool} {held : Bool} {r : Reach} {b0 : Nat} {v : Value} {d : DataW H} {ps : List MemPlace}
  (hval : Value.okWide Tryz.prog w r b0 44 v) (h : DataW.Trod enc Tryz.prog w base spare held 44 v d ps) :
  ∃ b1 A1 n1 c1 l1 b2 A2 n2 c2 l2, v = .agg #[.bool b1, .slice A1 n1 c1, .int .u32 l1, .bool b2, .slice A2 n2 c2, .int .u32 l2] ∧ DrIn w A1 n1 l1 ∧ DrIn w A2 n2 l2 := by
 obtain ⟨cs, rfl, hsz⟩ := okWide_struct Tryz.underlying44 hval
 rw [cellsD2] at hsz
 obtain ⟨l⟩ := cs
 obtain ⟨a, b, c, d, e, f, rfl⟩ := list_six l hsz
 obtain ⟨fuel, hf⟩ := h
 obtain ⟨y0, y1, n, _, _, h0, h1⟩ := trod_struct2 Tryz.underlying44 hf
 simp only [cellsD1, Value.cells] at h0 h1
 obtain ⟨b1, A1, n1, c1, l1, rfl, rfl, rfl, d1⟩ := trod_d1 h0
 obtain ⟨b2, A2, n2, c2, l2, rfl, rfl, rfl, d2⟩ := trod_d1 h1
 exact ⟨b1, A1, n1, c1, l1, b2, A2, n2, c2, l2, rfl, d1, d2⟩
theorem trod_eight {H : Type} {enc : TypeId × Value → H} {P : Program} {w : World} {base : Nat} {spare : Nat → Bool} {held : Bool} {t e : TypeId} {fuel : Nat} {c0 c1 c2 c3 c4 c5 c6 c7 : Value} {x : DataW H × List MemPlace} (ht : P.underlying t = some (.array 8 e)) (hce : P.cellsOf e = 1)
  (h : DataW.trod enc P w base spare held fuel t [c0, c1, c2, c3, c4, c5, c6, c7] = some x) :
  ∃ n y0 y1 y2 y3 y4 y5 y6 y7, DataW.trod enc P w base spare held n e [c0] = some y0 ∧ DataW.trod enc P w base spare held n e [c1] = some y1 ∧ DataW.trod enc P w base spare held n e [c2] = some y2 ∧ DataW.trod enc P w base spare held n e [c3] = some y3 ∧ DataW.trod enc P w base spare held n e [c4] = some y4 ∧ DataW.trod enc P w base spare held n e [c5] = some y5 ∧ DataW.trod enc P w base spare held n e [c6] = some y6 ∧ DataW.trod enc P w base spare held n e [c7] = some y7 := by
 cases fuel with
 | zero => simp [DataW.trod] at h
 | succ n =>
   unfold DataW.trod at h
   rw [ht] at h
   have r8 : List.range 8 = [0, 1, 2, 3, 4, 5, 6, 7] := rfl
   simp [r8, hce] at h
   obtain ⟨_, h⟩ := h
   rcases h0 : DataW.trod enc P w base spare held n e [c0] with _ | y0
   ·simp [h0] at h
   rcases h1 : DataW.trod enc P w base spare held n e [c1] with _ | y1
   ·simp [h0, h1] at h
   rcases h2 : DataW.trod enc P w base spare held n e [c2] with _ | y2
   ·simp [h0, h1, h2] at h
   rcases h3 : DataW.trod enc P w base spare held n e [c3] with _ | y3
   ·simp [h0, h1, h2, h3] at h
   rcases h4 : DataW.trod enc P w base spare held n e [c4] with _ | y4
   ·simp [h0, h1, h2, h3, h4] at h
   rcases h5 : DataW.trod enc P w base spare held n e [c5] with _ | y5
   ·simp [h0, h1, h2, h3, h4, h5] at h
   rcases h6 : DataW.trod enc P w base spare held n e [c6] with _ | y6
   ·simp [h0, h1, h2, h3, h4, h5, h6] at h
   rcases h7 : DataW.trod enc P w base spare held n e [c7] with _ | y7
   ·simp [h0, h1, h2, h3, h4, h5, h6, h7] at h
   exact ⟨n, y0, y1, y2, y3, y4, y5, y6, y7, h0, h1, h2, h3, h4, h5, h6, h7⟩
theorem cellsW8 : Tryz.prog.cellsOf 26 = 8 := by kernel_rfl
theorem cellsU64 : Tryz.prog.cellsOf 22 = 1 := by kernel_rfl
theorem list_eight {α : Type} (l : List α) (h : (⟨l⟩ : Array α).size = 8) : ∃ a b c d e f g i, l = [a, b, c, d, e, f, g, i] := by
 match l, h with
 | [a, b, c, d, e, f, g, i], _ => exact ⟨a, b, c, d, e, f, g, i, rfl⟩
theorem wf_u64d {a : Int} (h : (Lit.int .u64 a).wf = true) : 0 ≤ a ∧ a < W64 := by
 have e1 : IntKind.u64.min = 0 := by decide
 have e2 : IntKind.u64.max = 18446744073709551615 := by decide
 simp [Lit.wf, e1, e2] at h
 unfold W64
 omega
end Go.Proofs.YtogkkhaepfablaaGreat
