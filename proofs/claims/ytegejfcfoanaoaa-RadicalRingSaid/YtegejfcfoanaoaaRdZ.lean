
/- Radical: a draft that came in. -/
import Derived.Test.YtegejfcfoanaoaaRdJ
import Derived.Test.YtegejfcfoanaoaaQ05
namespace Go.Proofs.Ytegejfcfoanaoaa
open Go.ChangeShapes Go.WideShapes Go.ChangeAt Go.RowKit
set_option linter.unusedSimpArgs false
set_option linter.unusedVariables false

theorem cellsI16 : Try.prog.cellsOf 65 = 1 := by kernel_rfl
theorem cellsD2 : Try.prog.cellsOf 66 = 2 := by kernel_rfl
theorem cellsDS : Try.prog.cellsOf 22 = 1 := by kernel_rfl
theorem cellsDr : Try.prog.cellsOf 24 = 1 := by kernel_rfl
theorem wf_i16' {a : Int} (h : (Lit.int .i16 a).wf = true) : -32768 ≤ a ∧ a ≤ 32767 := by
  have e1 : IntKind.i16.min = -32768 := by decide
  have e2 : IntKind.i16.max = 32767 := by decide
  simp [Lit.wf, e1, e2] at h
  omega
theorem wf_i8' {a : Int} (h : (Lit.int .i8 a).wf = true) : -128 ≤ a ∧ a ≤ 127 := by
  have e1 : IntKind.i8.min = -128 := by decide
  have e2 : IntKind.i8.max = 127 := by decide
  simp [Lit.wf, e1, e2] at h
  omega
section
variable {H : Type} {enc : TypeId × Value → H} {w : World} {base : Nat} {spare : Nat → Bool} {held : Bool}
set_option maxRecDepth 100000 in
theorem trod_d2 {fuel : Nat} {cs : List Value} {x : DataW H × List MemPlace} (hl : cs.length = 2) (h : DataW.trod enc Try.prog w base spare held fuel 66 cs = some x) : ∃ u : Int × Int, cs = dRow u ∧ In16 u := by
  obtain ⟨c0, c1, rfl⟩ := list_two cs (by simpa using hl)
  obtain ⟨y0, y1, n, _, h0, h1⟩ := trod_two Try.underlying66 cellsI16 h
  obtain ⟨x0, e0, _, w0⟩ := DataW.trod_int Try.underlying65 h0
  obtain ⟨x1, e1, _, w1⟩ := DataW.trod_int Try.underlying65 h1
  simp at e0 e1
  subst e0 e1
  have a0 := wf_i16' w0
  have a1 := wf_i16' w1
  exact ⟨(x0, x1), rfl, a0.1, a0.2, a1.1, a1.2⟩
set_option maxRecDepth 100000 in
theorem slice_dr {fuel : Nat} {c : Value} {x : DataW H × List MemPlace} (hf : DataW.trod enc Try.prog w base spare held fuel 22 [c] = some x) :
    ∃ (A : Option Addr) (n c' : Nat) (ds : List (Int × Int)), c = .slice A n c' ∧ RowM w A 2 n (ds.map dRow) ∧ ∀ x ∈ ds, In16 x := by
  rcases DataW.trod_slice Try.underlying22 hf with ⟨h0, _⟩ | ⟨a, len0, cap0, elems, rest, n, _, hcs, _, hb, hlc, hcm, hel, hget, _⟩
  · simp only [List.cons.injEq, and_true] at h0
    subst h0
    exact ⟨none, 0, 0, [], rfl, RowM.nil _ _ _, (fun x hx => by cases hx)⟩
  · simp only [List.cons.injEq, and_true] at hcs
    subst hcs
    rw [cellsD2] at hget
    have hall : ∀ i, i < len0 → ∃ u : Int × Int, In16 u ∧ ∀ j, j < 2 → w.cell? ((a.add (i * 2)).add j) = (dRow u)[j]? := by
      intro i hi
      have he : i < elems.length := by omega
      have h1 := hget i hi
      rw [List.getElem?_eq_getElem he, Option.bind_eq_some_iff] at h1
      obtain ⟨cs, h2, h3⟩ := h1
      obtain ⟨_, h4, h5⟩ := World.cells?_some h2
      obtain ⟨u, rfl, hu⟩ := trod_d2 h4 h3
      exact ⟨u, hu, h5⟩
    rcases Nat.eq_zero_or_pos len0 with rfl | hp
    · exact ⟨some a, 0, cap0, [], rfl, RowM.nil _ _ _, (fun x hx => by cases hx)⟩
    · obtain ⟨u0, _, hu0⟩ := hall 0 hp
      have hc0 := hu0 0 (by decide)
      obtain ⟨g, o, sp⟩ := a
      have hsp : sp = none := by
        cases sp with
        | none => rfl
        | some q =>
          exfalso
          have e0 : ((⟨g, o, some q⟩ : Addr).add (0 * 2)).add 0 = ⟨g, o, some q⟩ := rfl
          rw [e0] at hc0
          have : w.cell? ⟨g, o, some q⟩ = none := by
            unfold World.cell?
            split <;> simp
          rw [this] at hc0
          cases hc0
      subst hsp
      have hadd : ∀ i j, ((⟨g, o, none⟩ : Addr).add (i * 2)).add j = ⟨g, o + i * 2 + j, none⟩ := fun i j => by
        unfold Addr.add
        by_cases hi : i * 2 = 0 <;> by_cases hj : j = 0 <;> simp [hi, hj]
      have hlt : g < w.heap.size := by
        have := World.block_lt_of_cell? _ _ hc0
        rw [hadd] at this
        exact this
      refine ⟨some ⟨g, o, none⟩, len0, cap0, (List.range len0).map (fun i => if h : i < len0 then Classical.choose (hall i h) else (0, 0)), rfl, ⟨by simp, fun x hx => ?_, fun _ => ⟨g, o, rfl, hlt, fun i x hx j v hv => ?_⟩⟩, fun x hx => ?_⟩
      · obtain ⟨y, _, rfl⟩ := List.mem_map.1 hx
        rfl
      · rw [List.map_map, List.getElem?_map] at hx
        cases hr : (List.range len0)[i]? with
        | none => rw [hr] at hx; cases hx
        | some q =>
          obtain ⟨hi, rfl⟩ := List.getElem?_eq_some_iff.1 hr
          rw [List.length_range] at hi
          rw [hr] at hx
          simp only [Option.map_some, Option.some.injEq, Function.comp, List.getElem_range] at hx
          rw [dif_pos hi] at hx
          subst hx
          have hs := (Classical.choose_spec (hall i hi)).2 j (List.getElem?_eq_some_iff.1 hv).1
          rw [hadd, hv] at hs
          exact hs
      · obtain ⟨i, hi, rfl⟩ := List.mem_map.1 hx
        have hi := List.mem_range.1 hi
        rw [dif_pos hi]
        exact (Classical.choose_spec (hall i hi)).1
set_option maxRecDepth 100000 in
theorem open_rdraft {r : Reach} {b0 : Nat} {v : Value} {d : DataW H} {ps : List MemPlace}
    (hval : Value.okWide Try.prog w r b0 24 v) (h : DataW.Trod enc Try.prog w base spare held 24 v d ps) :
    ∃ (A : Option Addr) (n c : Nat) (ds : List (Int × Int)), v = .agg #[.slice A n c] ∧ RowM w A 2 n (ds.map dRow) ∧ ∀ x ∈ ds, In16 x := by
  obtain ⟨cs, rfl, hsz⟩ := okWide_struct Try.underlying24 hval
  rw [cellsDr] at hsz
  obtain ⟨l⟩ := cs
  have hsz : l.length = 1 := hsz
  obtain ⟨c0, rfl⟩ := List.length_eq_one_iff.1 hsz
  obtain ⟨fuel, hf⟩ := h
  obtain ⟨y0, n, _, _, h0⟩ := trod_struct1 Try.underlying24 hf
  simp only [cellsDS, Value.cells] at h0
  obtain ⟨A, n', c', ds, rfl, hr, hi⟩ := slice_dr h0
  exact ⟨A, n', c', ds, rfl, hr, hi⟩
end
end Go.Proofs.Ytegejfcfoanaoaa
