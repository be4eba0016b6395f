/- Several texts in one: Below, Frame, FrameB, RdZ, RdTs. -/
import Derived.Test.YtpmbglhbcjbkcaaGreatRows
import Derived.Below
import Derived.WalkKit
import Derived.ProofKit
import Derived.OpenShut
import Derived.ShutString
import Derived.ChangeSame
import Derived.ReadAgain
import Derived.Lib.SmallJoins
import Derived.Laws.IdiomArrays
import Derived.Test.YtpmbglhbcjbkcaaGreatH42
namespace Go.Proofs.YtpmbglhbcjbkcaaGreat
set_option maxHeartbeats 16000000
set_option maxRecDepth 100000
open Go.ChangeShapes Go.WideShapes Go.ChangeAt Go.RowKit
section
variable {H : Type} {enc : TypeId × Value → H} {P : Program}
theorem zjR {f : Func} {s : ChangeSpec} {apart fresh handsOn again : Bool} {W W' : World} {args : Array Value} {v : Value} {ds gs : List (DataW H)} {before pa pv : List MemPlace}
  (hW : DataW.Whole enc P f.params.toList s.vars apart W args.toList ds gs before) (hps : before = pa ++ pv) (hb : Lat W W')
  (hres : ∀ (b : Nat) (sp : Nat → Bool) (hd : Bool), DataW.TrodAll enc P W' b sp hd f.resultTypes.toList (v.resultList f.resultTypes.size) (s.fn H (ds ++ gs)).results [])
  (hargs : ∀ sp : Nat → Bool, (∀ p ∈ before, sp p.block = true) → DataW.TrodAll enc P W' 0 sp true f.params.toList args.toList (s.fn H (ds ++ gs)).args pa)
  (hvars : ∀ sp : Nat → Bool, (∀ p ∈ before, sp p.block = true) → DataW.TrodVars enc P W' sp s.vars (s.fn H (ds ++ gs)).vars pv)
  (hok : ∀ (j : Nat) (t : TypeId) (r : Value), f.resultTypes[j]? = some t → (v.resultList f.resultTypes.size)[j]? = some r → Value.okWide P W' .any 0 t r) :
  s.post enc P f apart fresh handsOn again W args v W' := by
 have hB : Below W.heap.size W W' := hb
 have hlt := fun p hp => hW.lt p hp
 have hsp : ∀ p ∈ before, decide (p.block < W.heap.size) = true := fun p hp => decide_eq_true (hlt p hp)
 obtain ⟨h1, h2, h3, h4, h5, hz, hn⟩ := id hW
 have hno : ∀ b off, MemPlace.cell b off ∈ pa ++ pv → W'.frozen? ⟨b, off, none⟩ = false := fun b off hp => by
  have hin : MemPlace.cell b off ∈ before := hps ▸ hp
  rw [hB.frozen (hlt _ hin)]
  exact hz b off hin
 refine ⟨ds, gs, before, [], pa, pv, hW, hres _ _ _, hargs (fun b => decide (b < W.heap.size)) hsp, hvars (fun b => decide (b < W.heap.size)) hsp, World.keptBut_mono (fun p hp => ⟨hp, ?_⟩) (hB.frame (· ∈ before)), fun _ => ⟨hok, (s.fn H (ds ++ gs)).results ++ (s.fn H (ds ++ gs)).args, (s.fn H (ds ++ gs)).vars, pa ++ pv, ⟨pa, pv, ?_, hvars (fun _ => true) (fun _ _ => rfl), rfl, hno, ?_⟩, ?_⟩⟩
 ·rw [hps] at hp
  exact .inr (List.mem_append.1 hp)
 ·have := trodAll_append (hargs (fun _ => true) (fun _ _ => rfl)) (hres 0 (fun _ => true) true)
  simpa using this
 ·intro ha
  have := hn ha
  rwa [hps] at this
 ·intro p hp _
  rwa [hps]
end
theorem kidsA : Kids Tryz.prog (· < Tryz.prog.types.size) := kids_rows (by kernel_rfl) (by kernel_rfl)
theorem fullA : ∀ t e, t < Tryz.prog.types.size → Tryz.prog.underlying t = some (.slice e) → 0 < Tryz.prog.cellsOf e := slices_full_of Tryz.prog (by kernel_rfl)
section
variable {H : Type} {enc : TypeId × Value → H} {P : Program} {T : TypeId → Prop} {w w' : World} {base : Nat} {spare : Nat → Bool} {held : Bool}
theorem zdk : ∀ {ts : List TypeId} {vs : List Value} {ds : List (DataW H)} {ps : List MemPlace}, DataW.TrodAll enc P w base spare held ts vs ds ps → (∀ p ∈ ps, w.sameAt w' p) → DataW.TrodAll enc P w' base spare held ts vs ds ps
 | [], [], [], _, h, _ => h
 | _ :: _, _ :: _, _ :: _, _, ⟨p, q, ⟨n, h1⟩, h2, e⟩, hs =>
   ⟨p, q, ⟨n, DataW.trod_carry n _ _ _ h1 (fun x hx => hs x (by rw [e]; exact List.mem_append_left _ hx))⟩, zdk h2 (fun x hx => hs x (by rw [e]; exact List.mem_append_right _ hx)), e⟩
theorem zhi {W W' : World} (hl : Lat W W') : ∀ p : MemPlace, p.block < W.heap.size → W.sameAt W' p
 | .cell b off, h => World.cell?_of_block (a := ⟨b, off, none⟩) (Below.block hl b h)
 | .map b, h => Below.block hl b h
theorem zlD (K : Kids P T) (hz : ∀ t e, T t → P.underlying t = some (.slice e) → 0 < P.cellsOf e) {f : Func} {s : ChangeSpec} {apart fresh handsOn again : Bool} {W W' : World} {args : Array Value} {ds gs : List (DataW H)} {before ps : List MemPlace} {tb : TypeId}
  (hT : ∀ t ∈ f.params.toList, T t) (hA : DataW.TrodAll enc P W 0 (fun _ => true) true f.params.toList args.toList ds ps) (hpb : before = ps)
  (hW : DataW.Whole enc P f.params.toList s.vars apart W args.toList ds gs before) (hl : Lat W W') (hv : s.vars = [])
  (hr : (s.fn H (ds ++ gs)).results = [.lit (.bool true)]) (ha : (s.fn H (ds ++ gs)).args = ds) (hx : (s.fn H (ds ++ gs)).vars = []) (ht : f.resultTypes = #[tb]) (hb : P.underlying tb = some .bool) :
  s.post enc P f apart fresh handsOn again W args (.bool true) W' := by
 subst hpb
 have hlt := hA.lt
 refine zjR (pa := before) (pv := []) hW (by simp) hl (fun b sp hd => ?_) (fun sp hsp => ?_) (fun sp _ => ?_) ?_
 ·rw [hr, ht]
  exact trodAll_cons_mk (shut_bool hb true) trodAll_mk0
 ·rw [ha]
  exact zdk (DataW.TrodAll.respare K hz hT hA hsp) (fun p hp => zhi hl p (hlt p hp))
 ·rw [hx, hv]
  rfl
 ·exact ok_one ht rfl (okWide_bool_mk hb true)
end
section
variable {H : Type} {enc : TypeId × Value → H} {P : Program} {w : World} {base : Nat} {spare : Nat → Bool} {held : Bool}
theorem zmL {t e : TypeId} {fuel : Nat} {c0 c1 : Value} {x : DataW H × List MemPlace} (ht : P.underlying t = some (.array 2 e)) (hce : P.cellsOf e = 1)
  (h : DataW.trod enc P w base spare held fuel t [c0, c1] = some x) :
  ∃ y0 y1 n, x = (.agg [y0.1, y1.1], y0.2 ++ y1.2) ∧ DataW.trod enc P w base spare held n e [c0] = some y0 ∧ DataW.trod enc P w base spare held n e [c1] = some y1 := by
 cases fuel with
 | zero => simp [DataW.trod] at h
 | succ n =>
   unfold DataW.trod at h
   rw [ht] at h
   have r2 : List.range 2 = [0, 1] := rfl
   simp [r2, hce] at h
   obtain ⟨_, h⟩ := h
   cases h0 : DataW.trod enc P w base spare held n e [c0] with
   | none => simp [h0] at h
   | some y0 =>
     cases h1 : DataW.trod enc P w base spare held n e [c1] with
     | none => simp [h0, h1] at h
     | some y1 =>
       simp [h0, h1] at h
       exact ⟨y0, y1, n, h.symm, h0, h1⟩
theorem ziT {α : Type} (l : List α) (h : (⟨l⟩ : Array α).size = 2) : ∃ a b, l = [a, b] := by
 match l, h with
 | [a, b], _ => exact ⟨a, b, rfl⟩
end
set_option linter.unusedSimpArgs false
set_option linter.unusedVariables false
theorem zmM : Tryz.prog.cellsOf 135 = 1 := by kernel_rfl
theorem zn1 : Tryz.prog.cellsOf 136 = 2 := by kernel_rfl
theorem zn2 : Tryz.prog.cellsOf 23 = 1 := by kernel_rfl
theorem zn3 : Tryz.prog.cellsOf 25 = 1 := by kernel_rfl
theorem zlE {a : Int} (h : (Lit.int .i16 a).wf = true) : -32768 ≤ a ∧ a ≤ 32767 := by
 have e1 : IntKind.i16.min = -32768 := by decide
 have e2 : IntKind.i16.max = 32767 := by decide
 simp [Lit.wf, e1, e2] at h
 omega
section
variable {H : Type} {enc : TypeId × Value → H} {w : World} {base : Nat} {spare : Nat → Bool} {held : Bool}
theorem zn4 {fuel : Nat} {cs : List Value} {x : DataW H × List MemPlace} (hl : cs.length = 2) (h : DataW.trod enc Tryz.prog w base spare held fuel 136 cs = some x) : ∃ u : Int × Int, cs = zm3 u ∧ znJ u := by
 obtain ⟨c0, c1, rfl⟩ := ziT cs (by simpa using hl)
 obtain ⟨y0, y1, n, _, h0, h1⟩ := zmL Tryz.underlying136 zmM h
 obtain ⟨x0, e0, _, w0⟩ := DataW.trod_int Tryz.underlying135 h0
 obtain ⟨x1, e1, _, w1⟩ := DataW.trod_int Tryz.underlying135 h1
 simp at e0 e1
 subst e0 e1
 have a0 := zlE w0
 have a1 := zlE w1
 exact ⟨(x0, x1), rfl, a0.1, a0.2, a1.1, a1.2⟩
theorem zmN {fuel : Nat} {c : Value} {x : DataW H × List MemPlace} (hf : DataW.trod enc Tryz.prog w base spare held fuel 23 [c] = some x) :
  ∃ (A : Option Addr) (n c' : Nat) (ds : List (Int × Int)), c = .slice A n c' ∧ RowM w A 2 n (ds.map zm3) ∧ ∀ x ∈ ds, znJ x := by
 rcases DataW.trod_slice Tryz.underlying23 hf with ⟨h0, _⟩ | ⟨a, len0, cap0, elems, rest, n, _, hcs, _, hb, hlc, hcm, hel, hget, _⟩
 ·simp only [List.cons.injEq, and_true] at h0
  subst h0
  exact ⟨none, 0, 0, [], rfl, RowM.nil _ _ _, (fun x hx => by cases hx)⟩
 ·simp only [List.cons.injEq, and_true] at hcs
  subst hcs
  rw [zn1] at hget
  have hall : ∀ i, i < len0 → ∃ u : Int × Int, znJ u ∧ ∀ j, j < 2 → w.cell? ((a.add (i * 2)).add j) = (zm3 u)[j]? := by
   intro i hi
   have he : i < elems.length := by omega
   have h1 := hget i hi
   rw [List.getElem?_eq_getElem he, Option.bind_eq_some_iff] at h1
   obtain ⟨cs, h2, h3⟩ := h1
   obtain ⟨_, h4, h5⟩ := World.cells?_some h2
   obtain ⟨u, rfl, hu⟩ := zn4 h4 h3
   exact ⟨u, hu, h5⟩
  rcases Nat.eq_zero_or_pos len0 with rfl | hp
  ·exact ⟨some a, 0, cap0, [], rfl, RowM.nil _ _ _, (fun x hx => by cases hx)⟩
  ·obtain ⟨u0, _, hu0⟩ := hall 0 hp
   have hc0 := hu0 0 (by decide)
   obtain ⟨g, o, sp⟩ := a
   have hsp : sp = none := by
    cases sp with
    | none => rfl
    | some q =>
      exfalso
      have e0 : ((⟨g, o, some q⟩ : Addr).add (0 * 2)).add 0 = ⟨g, o, some q⟩ := rfl
      rw [e0] at hc0
      have : w.cell? ⟨g, o, some q⟩ = none := by
       unfold World.cell?
       split <;> simp
      rw [this] at hc0
      cases hc0
   subst hsp
   have hadd : ∀ i j, ((⟨g, o, none⟩ : Addr).add (i * 2)).add j = ⟨g, o + i * 2 + j, none⟩ := fun i j => by
    unfold Addr.add
    by_cases hi : i * 2 = 0 <;> by_cases hj : j = 0 <;> simp [hi, hj]
   have hlt : g < w.heap.size := by
    have := World.block_lt_of_cell? _ _ hc0
    rw [hadd] at this
    exact this
   refine ⟨some ⟨g, o, none⟩, len0, cap0, (List.range len0).map (fun i => if h : i < len0 then Classical.choose (hall i h) else (0, 0)), rfl, ⟨by simp, fun x hx => ?_, fun _ => ⟨g, o, rfl, hlt, fun i x hx j v hv => ?_⟩⟩, fun x hx => ?_⟩
   ·obtain ⟨y, _, rfl⟩ := List.mem_map.1 hx
    rfl
   ·rw [List.map_map, List.getElem?_map] at hx
    cases hr : (List.range len0)[i]? with
    | none => rw [hr] at hx; cases hx
    | some q =>
      obtain ⟨hi, rfl⟩ := List.getElem?_eq_some_iff.1 hr
      rw [List.length_range] at hi
      rw [hr] at hx
      simp only [Option.map_some, Option.some.injEq, Function.comp, List.getElem_range] at hx
      rw [dif_pos hi] at hx
      subst hx
      have hs := (Classical.choose_spec (hall i hi)).2 j (List.getElem?_eq_some_iff.1 hv).1
      rw [hadd, hv] at hs
      exact hs
   ·obtain ⟨i, hi, rfl⟩ := List.mem_map.1 hx
    have hi := List.mem_range.1 hi
    rw [dif_pos hi]
    exact (Classical.choose_spec (hall i hi)).1
theorem zhR {r : Reach} {b0 : Nat} {v : Value} {d : DataW H} {ps : List MemPlace}
  (hval : Value.okWide Tryz.prog w r b0 25 v) (h : DataW.Trod enc Tryz.prog w base spare held 25 v d ps) :
  ∃ (A : Option Addr) (n c : Nat) (ds : List (Int × Int)), v = .agg #[.slice A n c] ∧ RowM w A 2 n (ds.map zm3) ∧ ∀ x ∈ ds, znJ x := by
 obtain ⟨cs, rfl, hsz⟩ := okWide_struct Tryz.underlying25 hval
 rw [zn3] at hsz
 obtain ⟨l⟩ := cs
 have hsz : l.length = 1 := hsz
 obtain ⟨c0, rfl⟩ := List.length_eq_one_iff.1 hsz
 obtain ⟨fuel, hf⟩ := h
 obtain ⟨y0, n, _, _, h0⟩ := trod_struct1 Tryz.underlying25 hf
 simp only [zn2, Value.cells] at h0
 obtain ⟨A, n', c', ds, rfl, hr, hi⟩ := zmN h0
 exact ⟨A, n', c', ds, rfl, hr, hi⟩
end
theorem zmO : Tryz.prog.cellsOf 3 = 1 := by kernel_rfl
theorem zn5 : Tryz.prog.cellsOf 72 = 2 := by kernel_rfl
section
variable {H : Type} {enc : TypeId × Value → H} {w : World} {base : Nat} {spare : Nat → Bool} {held : Bool}
theorem zn6 {fuel : Nat} {cs : List Value} {x : DataW H × List MemPlace} (hl : cs.length = 2) (h : DataW.trod enc Tryz.prog w base spare held fuel 72 cs = some x) : ∃ u : Int × Int, cs = zji u := by
 obtain ⟨c0, c1, rfl⟩ := ziT cs (by simpa using hl)
 obtain ⟨y0, y1, n, _, _, h0, h1⟩ := trod_struct2 Tryz.underlying72 h
 simp only [zmO, List.drop_zero, List.drop_succ_cons, List.take_succ_cons, List.take_zero] at h0 h1
 obtain ⟨x0, e0, _, w0⟩ := DataW.trod_int Tryz.underlying3 h0
 obtain ⟨x1, e1, _, w1⟩ := DataW.trod_int Tryz.underlying3 h1
 simp at e0 e1
 subst e0 e1
 exact ⟨(x0, x1), rfl⟩
theorem zmP {fuel : Nat} {c : Value} {x : DataW H × List MemPlace} (hf : DataW.trod enc Tryz.prog w base spare held fuel 22 [c] = some x) :
  ∃ (A : Option Addr) (n c' : Nat) (ds : List (Int × Int)), c = .slice A n c' ∧ RowM w A 2 n (zab ds) ∧ n ≤ c' := by
 rcases DataW.trod_slice Tryz.underlying22 hf with ⟨h0, _⟩ | ⟨a, len0, cap0, elems, rest, n, _, hcs, _, hb, hlc, hcm, hel, hget, _⟩
 ·simp only [List.cons.injEq, and_true] at h0
  subst h0
  exact ⟨none, 0, 0, [], rfl, RowM.nil _ _ _, Nat.zero_le _⟩
 ·simp only [List.cons.injEq, and_true] at hcs
  subst hcs
  rw [zn5] at hget
  have hall : ∀ i, i < len0 → ∃ u : Int × Int, ∀ j, j < 2 → w.cell? ((a.add (i * 2)).add j) = (zji u)[j]? := by
   intro i hi
   have he : i < elems.length := by omega
   have h1 := hget i hi
   rw [List.getElem?_eq_getElem he, Option.bind_eq_some_iff] at h1
   obtain ⟨cs, h2, h3⟩ := h1
   obtain ⟨_, h4, h5⟩ := World.cells?_some h2
   obtain ⟨u, rfl⟩ := zn6 h4 h3
   exact ⟨u, h5⟩
  rcases Nat.eq_zero_or_pos len0 with rfl | hp
  ·exact ⟨some a, 0, cap0, [], rfl, RowM.nil _ _ _, Nat.zero_le _⟩
  ·obtain ⟨u0, hu0⟩ := hall 0 hp
   have hc0 := hu0 0 (by decide)
   obtain ⟨g, o, sp⟩ := a
   have hsp : sp = none := by
    cases sp with
    | none => rfl
    | some q =>
      exfalso
      have e0 : ((⟨g, o, some q⟩ : Addr).add (0 * 2)).add 0 = ⟨g, o, some q⟩ := rfl
      rw [e0] at hc0
      have : w.cell? ⟨g, o, some q⟩ = none := by
       unfold World.cell?
       split <;> simp
      rw [this] at hc0
      cases hc0
   subst hsp
   have hadd : ∀ i j, ((⟨g, o, none⟩ : Addr).add (i * 2)).add j = ⟨g, o + i * 2 + j, none⟩ := fun i j => by
    unfold Addr.add
    by_cases hi : i * 2 = 0 <;> by_cases hj : j = 0 <;> simp [hi, hj]
   have hlt : g < w.heap.size := by
    have := World.block_lt_of_cell? _ _ hc0
    rw [hadd] at this
    exact this
   refine ⟨some ⟨g, o, none⟩, len0, cap0, (List.range len0).map (fun i => if h : i < len0 then Classical.choose (hall i h) else (0, 0)), rfl, ⟨by simp [zab], fun x hx => ?_, fun _ => ⟨g, o, rfl, hlt, fun i x hx j v hv => ?_⟩⟩, hlc⟩
   ·obtain ⟨y, _, rfl⟩ := List.mem_map.1 hx
    rfl
   ·rw [zab, List.map_map, List.getElem?_map] at hx
    cases hr : (List.range len0)[i]? with
    | none => rw [hr] at hx; cases hx
    | some q =>
      obtain ⟨hi, rfl⟩ := List.getElem?_eq_some_iff.1 hr
      rw [List.length_range] at hi
      rw [hr] at hx
      simp only [Option.map_some, Option.some.injEq, Function.comp, List.getElem_range] at hx
      rw [dif_pos hi] at hx
      subst hx
      have hs := (Classical.choose_spec (hall i hi)) j (List.getElem?_eq_some_iff.1 hv).1
      rw [hadd, hv] at hs
      exact hs
theorem zjS {r : Reach} {b0 : Nat} {v : Value} {d : DataW H} {ps : List MemPlace}
  (hval : Value.okWide Tryz.prog w r b0 22 v) (h : DataW.Trod enc Tryz.prog w base spare held 22 v d ps) :
  ∃ (A : Option Addr) (n c : Nat) (l : List (Int × Int)), v = .slice A n c ∧ RowM w A 2 n (zab l) ∧ n ≤ c := by
 obtain ⟨a0, len0, cap0, rfl⟩ := okWide_slice Tryz.underlying22 hval
 obtain ⟨fuel, hf⟩ := h
 exact zmP hf
end
end Go.Proofs.YtpmbglhbcjbkcaaGreat
