/- Several texts in one: RdU, RdY, RdP. -/
import Derived.Test.YtpmbglhbcjbkcaaGreatH39
namespace Go.Proofs.YtpmbglhbcjbkcaaGreat
set_option maxHeartbeats 16000000
set_option maxRecDepth 100000
open Go.RowKit Go.Maps
set_option linter.unusedSimpArgs false
set_option linter.unusedVariables false
theorem ziz (l : List (Int × Int)) : ∀ r ∈ zab l, ∀ u ∈ r, u.oneCell' = true := fun r hr u hu => by
 unfold zab at hr
 obtain ⟨x, _, rfl⟩ := List.mem_map.1 hr
 simp only [zji, List.mem_cons, List.mem_nil_iff, or_false, List.not_mem_nil] at hu
 rcases hu with rfl | rfl <;> rfl
theorem zgZ (a b : List (Int × Int)) : zab (a ++ b) = zab a ++ zab b := by simp [zab]
theorem zk0 (A0 A1 : Option Addr) (n0 c0 n1 c1 : Nat) (a b : List (Int × Int)) (w : World) (h0 : RowM w A0 2 n0 (zab a)) (h1 : RowM w A1 2 n1 (zab b)) (va : ValidR a) (vb : ValidR b) :
  Calls Tryz.prog 20 #[.slice A0 n0 c0, .slice A1 n1 c1] w (zb8 w (a ++ b)) := by
 obtain ⟨s, hs⟩ : ∃ s, a ++ b = s := ⟨_, rfl⟩
 have HSS := Lib.hid hs
 rw [hs]
 clear hs
 have hl0 := h0.1
 have hl1 := h1.1
 rw [zam] at hl0 hl1
 have b0 := va.len
 have b1 := vb.len
 have HC0 := zaP A0 n0 c0 a w h0 (by omega)
 have HC1 := Lib.hid (fun w' (l : Lat w w') => zaP A1 n1 c1 b w' (h1.later l) (by omega))
 rw [zaG va] at HC0
 rw [zaG vb] at HC1
 have HR0 := Lib.hid h0
 have HR1 := Lib.hid h1
 have hm0 : n0 ≤ 100000 := by omega
 have hm1 : n1 ≤ 100000 := by omega
 have HM0 := Lib.hid hm0
 have HM1 := Lib.hid hm1
 clear h0 h1 va vb b0 b1 hm0 hm1 hl0 hl1
 go_enter Tryz.func20, Tryz.ntmps20
 go_wp2_with fail
 refine HC0.mono ?_
 rintro e w1 ⟨rfl, l1⟩
 clear HC0
 go_wp2_with fail
 refine (HC1.out w1 l1).mono ?_
 rintro e w2 ⟨rfl, l2⟩
 have L2 := l1.trans l2
 clear HC1 l1 l2
 go_wp2_with fail
 refine zas (Q := fun W => Calls _ _ _ W _) ?_
 intro W3 l3 s3 k3
 have L3 := L2.trans l3
 have HCC := zjo A0 A1 n0 c0 n1 c1 2 w2.heap.size (zab a) (zab b) (ziz a) (ziz b) HM0.out HM1.out W3 k3 (HR0.out.later L3) (HR1.out.later L3)
 refine HCC.mono ?_
 clear HCC
 rintro e w4 ⟨v4, rfl, o4, l4⟩
 rw [← zgZ, HSS.out] at o4
 have L4 := L3.trans l4
 obtain ⟨A4, c4, rfl, r4, _⟩ := o4.form
 rw [zam] at r4 ⊢
 obtain ⟨m, hm⟩ : ∃ m, s.length = m := ⟨_, rfl⟩
 rw [hm] at r4 ⊢
 clear hm
 clear k3 l3 s3 L2 L3 l4 o4
 go_wp2_with fail
 have HMK := zfU A4 m c4 s w4 r4
 refine HMK.mono ?_
 clear HMK
 rintro e w5 ⟨v5, rfl, o5, l5⟩
 have L5 := L4.trans l5
 have O5 := o5.base L4.size
 clear r4 o5 l5 L4
 go_wp2
 go_ret2
 exact ⟨v5, rfl, O5, L5⟩
end Go.Proofs.YtpmbglhbcjbkcaaGreat
namespace Go.Proofs.YtpmbglhbcjbkcaaGreat
set_option maxHeartbeats 16000000
set_option maxRecDepth 100000
open Go.RowKit
theorem zg0 (b1 : Bool) (A1 : Option Addr) (n1 c1 : Nat) (x : Int) (b2 : Bool) (A2 : Option Addr) (n2 c2 : Nat) (y : Int) (w : World) (h1 : Rg w b1 A1 n1 c1 x) (h2 : Rg w b2 A2 n2 c2 y) (hb : b1 ≠ b2) (hn : n1 ≤ 1000000) (hm : n2 ≤ 1000000) :
  Calls Tryz.prog 72 #[.agg #[.bool b1, .slice A1 n1 c1], .agg #[.bool b2, .slice A2 n2 c2]] w (RefF w (x + y) (max n1 n2 + 1)) := by
 obtain ⟨hc1, xs, s1, r1, z1, _, v1⟩ := h1
 obtain ⟨hc2, ys, s2, r2, z2, _, v2⟩ := h2
 have V1 := Lib.hid v1
 have V2 := Lib.hid v2
 clear v1 v2
 have hbb : (b1 == b2) = false := by simpa using hb
 have HB := Lib.hid hb
 clear hb
 go_enter Tryz.func72, Tryz.ntmps72
 go_wp2_with fail
 refine za0 (Q := fun W => Calls _ _ _ W _) ?_
 intro W hl hs k1 k2 k3
 refine (zbG A1 n1 c1 xs A2 n2 c2 ys W (s1.later hl) (s2.later hl) r1 r2 z1 z2 hn hm).mono ?_
 intro e W1 hpost
 by_cases hge : val B32 ys ≤ val B32 xs
 ·obtain ⟨r, rfl, r0, hl1⟩ := hpost.ge hge
  clear hpost
  have hlw := hl.trans hl1
  have hlen := zaM zak r2 r1 z2 hge
  rw [s1.1, s2.1] at hlen
  have HGE := Lib.hid hge
  have hk1 := k1.later hl1
  have hk2 := k2.later hl1
  have hk3 := k3.later hl1
  have hs1 := hl1.size
  clear k1 k2 k3 hl hge
  go_wp2
  have a1 := hk1.evS (gs := [w.heap.size + 1 + 1]) (by simp; try omega) 0 rfl
  have a2 := hk1.evS (gs := [w.heap.size + 1 + 1]) (by simp; try omega) (0 + 1) rfl
  have a4 := hk2.evS (gs := [w.heap.size + 1 + 1]) (by simp; try omega) (0 + 1) rfl
  have L0 := Lat.drew W1
  have M0 := L0.s [w.heap.size + 1 + 1]
  go_region_held3 (fun w' => LatS W1 [w.heap.size + 1 + 1] w') (first | assumption | ((repeat refine LatS.set ?_ (by simp) _); assumption))
   (first
     | (go_at_call 112; refine (zb3 A1 n1 c1 xs A2 n2 c2 ys _ (s1.later (hlw.trans L0)) (s2.later (hlw.trans L0)) r1 r2 hlen HGE.out hn).mono ?_; rintro e w1 ⟨A, n, c, zs, rfl, p1, p2, p2', p3, p4, p5, p6, p7⟩; have L1 := L0.trans p6; have M1 := L1.s [w.heap.size + 1 + 1]; have P3 := Lib.hid p3; clear p3)
     | (go_at_call 73; refine (zea b1 A n c _ zs p1 p2 p4 (by omega)).mono ?_; rintro e w2 ⟨b, m, c', rfl, q1, q2, q3⟩; have L2 := L1.trans q3; have M2 := L2.s [w.heap.size + 1 + 1]; have hk3' := hk3.later L2; have c0 := hk3'.cell 0; have c1' := hk3'.cell 1; have f0 := hk3'.frozen 0; have f1 := hk3'.frozen 1))
  go_wp2
  refine bodyPost_ret (v := .agg #[.bool b, .slice A m c']) (by simp [results, Tryz.results72, go_sem, c0, c1']) rfl ?_
  have := RefPost.close hk3' q1 (hlw.trans L2) (by omega) (N := max n1 n2 + 1) (by omega)
  rw [P3.out, zh0 HB.out, ← V1.out, ← V2.out] at this
  exact RefF.of this (fun a h => Nat.le_trans hlw.size (Nat.le_trans L0.size (p7 a h)))
 ·obtain ⟨r, rfl, r0, hl1⟩ := hpost.lt (by omega)
  clear hpost
  have hlw := hl.trans hl1
  have hge' : val B32 xs ≤ val B32 ys := by omega
  have hlen := zaM zak r1 r2 z1 hge'
  rw [s1.1, s2.1] at hlen
  have HGE := Lib.hid hge'
  have hk1 := k1.later hl1
  have hk2 := k2.later hl1
  have hk3 := k3.later hl1
  have hs1 := hl1.size
  have r0' : ¬ 0 ≤ r := by omega
  clear k1 k2 k3 hl hge hge'
  go_wp2
  have a1 := hk2.evS (gs := [w.heap.size + 1 + 1]) (by simp; try omega) 0 rfl
  have a2 := hk1.evS (gs := [w.heap.size + 1 + 1]) (by simp; try omega) (0 + 1) rfl
  have a4 := hk2.evS (gs := [w.heap.size + 1 + 1]) (by simp; try omega) (0 + 1) rfl
  have L0 := Lat.drew W1
  have M0 := L0.s [w.heap.size + 1 + 1]
  go_region_held3 (fun w' => LatS W1 [w.heap.size + 1 + 1] w') (first | assumption | ((repeat refine LatS.set ?_ (by simp) _); assumption))
   (first
     | (go_at_call 112; refine (zb3 A2 n2 c2 ys A1 n1 c1 xs _ (s2.later (hlw.trans L0)) (s1.later (hlw.trans L0)) r2 r1 hlen HGE.out hm).mono ?_; rintro e w1 ⟨A, n, c, zs, rfl, p1, p2, p2', p3, p4, p5, p6, p7⟩; have L1 := L0.trans p6; have M1 := L1.s [w.heap.size + 1 + 1]; have P3 := Lib.hid p3; clear p3)
     | (go_at_call 73; refine (zea b2 A n c _ zs p1 p2 p4 (by omega)).mono ?_; rintro e w2 ⟨b, m, c', rfl, q1, q2, q3⟩; have L2 := L1.trans q3; have M2 := L2.s [w.heap.size + 1 + 1]; have hk3' := hk3.later L2; have c0 := hk3'.cell 0; have c1' := hk3'.cell 1; have f0 := hk3'.frozen 0; have f1 := hk3'.frozen 1))
  go_wp2
  refine bodyPost_ret (v := .agg #[.bool b, .slice A m c']) (by simp [results, Tryz.results72, go_sem, c0, c1']) rfl ?_
  have := RefPost.close hk3' q1 (hlw.trans L2) (by omega) (N := max n1 n2 + 1) (by omega)
  rw [P3.out, zh0 (fun e => HB.out e.symm), ← V1.out, ← V2.out, Int.add_comm] at this
  exact RefF.of this (fun a h => Nat.le_trans hlw.size (Nat.le_trans L0.size (p7 a h)))
theorem zk1 (b1 : Bool) (A1 : Option Addr) (n1 c1 : Nat) (x : Int) (b2 : Bool) (A2 : Option Addr) (n2 c2 : Nat) (y : Int) (w : World) (h1 : Rg w b1 A1 n1 c1 x) (h2 : Rg w b2 A2 n2 c2 y) (hn : n1 ≤ 1000000) (hm : n2 ≤ 1000000) :
  Calls Tryz.prog 72 #[.agg #[.bool b1, .slice A1 n1 c1], .agg #[.bool b2, .slice A2 n2 c2]] w (RefF w (x + y) (max n1 n2 + 1)) := by
 by_cases hb : b1 = b2
 ·subst hb
  exact zhv b1 A1 n1 c1 x A2 n2 c2 y w h1 h2 hn hm
 ·exact zg0 b1 A1 n1 c1 x b2 A2 n2 c2 y w h1 h2 hb hn hm
open Go.Maps
set_option linter.unusedSimpArgs false
set_option linter.unusedVariables false
theorem zcn (z : Int) (w : World) : Calls Tryz.prog 26 #[.int .i64 z] w (fun e w' => e = .returned (.bool (decide (zbo z))) ∧ w' = w) := by
 by_cases h1 : -1000000000000000 ≤ z
 ·by_cases h2 : z ≤ 1000000000000000
  ·rw [decide_eq_true (show zbo z from ⟨h1, h2⟩)]
   go_enter Tryz.func26, Tryz.ntmps26
   go_wp2
   go_ret
   exact ⟨rfl, rfl⟩
  ·rw [decide_eq_false (show ¬ zbo z from fun h => h2 h.2)]
   go_enter Tryz.func26, Tryz.ntmps26
   go_wp2
   go_ret
   exact ⟨rfl, rfl⟩
 ·rw [decide_eq_false (show ¬ zbo z from fun h => h1 h.1)]
  go_enter Tryz.func26, Tryz.ntmps26
  go_wp2
  go_ret
  exact ⟨rfl, rfl⟩
theorem zdy : (Tryz.prog.info? 84).map (fun i => (i.zero, i.size, i.bytes)) = some (some (.agg #[.int .i64 0, .bool false, .slice none 0 0]), 3, 40) := by kernel_rfl
def RowIs (w : World) (N : Nat) (r : List Value) (x : Nat × Int) : Prop := ∃ b A m c, r = [.int .i64 (x.1 : Nat), .bool b, .slice A m c] ∧ Rg w b A m c x.2 ∧ m ≤ N
def Ents (w : World) (N : Nat) (R : List (List Value)) (E : List (Nat × Int)) : Prop := R.length = E.length ∧ ∀ (i : Nat) (r : List Value) (x : Nat × Int), R[i]? = some r → E[i]? = some x → RowIs w N r x
theorem RowIs.later {W w : World} {N : Nat} {r : List Value} {x : Nat × Int} (h : RowIs W N r x) (hl : Lat W w) : RowIs w N r x := by
 obtain ⟨b, A, m, c, h1, h2, h3⟩ := h
 exact ⟨b, A, m, c, h1, h2.later hl, h3⟩
theorem RowIs.more {w : World} {N M : Nat} {r : List Value} {x : Nat × Int} (h : RowIs w N r x) (hl : N ≤ M) : RowIs w M r x := by
 obtain ⟨b, A, m, c, h1, h2, h3⟩ := h
 exact ⟨b, A, m, c, h1, h2, by omega⟩
theorem Ents.later {W w : World} {N : Nat} {R : List (List Value)} {E : List (Nat × Int)} (h : Ents W N R E) (hl : Lat W w) : Ents w N R E := ⟨h.1, fun i r x h1 h2 => (h.2 i r x h1 h2).later hl⟩
theorem Ents.more {w : World} {N M : Nat} {R : List (List Value)} {E : List (Nat × Int)} (h : Ents w N R E) (hl : N ≤ M) : Ents w M R E := ⟨h.1, fun i r x h1 h2 => (h.2 i r x h1 h2).more hl⟩
theorem Ents.nil (w : World) (N : Nat) : Ents w N [] [] := ⟨rfl, fun i r x h => by simp at h⟩
theorem E_len {w : World} {A : Option Addr} {n N : Nat} {R : List (List Value)} {E : List (Nat × Int)} (h : RowM w A 3 n R) (he : Ents w N R E) : E.length = n := by have := h.1; have := he.1; omega
theorem zev {W : World} {g o k : Nat} {R : List (List Value)} {A : Option Addr} {n : Nat} (h : RowM W A 3 n R) (hk : k < n) (hA : A = some ⟨g, o, none⟩) {y : List Value} (hy : R[k]? = some y) (j : Nat) {v : Value} (hv : y[j]? = some v) : ∀ w', Lat W w' → w'.cell? ⟨g, o + k * 3 + j, none⟩ = some v := fun w' hl => by
 obtain ⟨g2, o2, y2, e, _, hy2, _, hc⟩ := (h.later hl).at hk
 rw [hA] at e
 cases e
 rw [hy] at hy2
 cases hy2
 exact hc j v hv
theorem zf6 {w : World} {A : Option Addr} {n k N : Nat} {R : List (List Value)} {E : List (Nat × Int)} (h : RowM w A 3 n R) (he : Ents w N R E) (hk : k < n) :
  ∃ g o x b B m c, A = some ⟨g, o, none⟩ ∧ g < w.heap.size ∧ E[k]? = some x ∧ Rg w b B m c x.2 ∧ m ≤ N ∧ (∀ w', Lat w w' → w'.cell? ⟨g, o + k * 3, none⟩ = some (.int .i64 (x.1 : Nat))) ∧ (∀ w', Lat w w' → w'.cell? ⟨g, o + k * 3 + 1, none⟩ = some (.bool b)) ∧ (∀ w', Lat w w' → w'.cell? ⟨g, o + k * 3 + 2, none⟩ = some (.slice B m c)) := by
 obtain ⟨g, o, y, hA, hg, hy, _, hc⟩ := h.at hk
 have hl : k < E.length := by have := h.1; have := he.1; omega
 obtain ⟨b, B, m, c, rfl, h2, h3⟩ := he.2 k _ _ hy (List.getElem?_eq_getElem hl)
 exact ⟨g, o, _, b, B, m, c, hA, hg, List.getElem?_eq_getElem hl, h2, h3, zev h hk hA hy 0 rfl, zev h hk hA hy 1 rfl, zev h hk hA hy 2 rfl⟩
theorem Rg.lt {w : World} {b : Bool} {A : Option Addr} {m c : Nat} {z : Int} (h : Rg w b A m c z) : 0 < m → ∀ a, A = some a → a.block < w.heap.size := fun hm a ha => by
 obtain ⟨_, xs, hs, _⟩ := h
 obtain ⟨a', e, h1, _⟩ := hs.2 hm
 rw [ha] at e; cases e; exact h1
theorem Rg.keptN {w W : World} {b : Bool} {A : Option Addr} {m c : Nat} {z : Int} (h : Rg W b A m c z) (hs : W.heap.size ≤ w.heap.size) (hk : 0 < m → ∀ a, A = some a → w.heap[a.block]? = W.heap[a.block]?) : Rg w b A m c z := by
 rcases Nat.eq_zero_or_pos m with rfl | hm
 ·obtain ⟨hn, xs, h1, r⟩ := h
  exact ⟨hn, xs, ⟨h1.1, fun h => absurd h (by omega)⟩, r⟩
 ·exact Rg.kept h hs (fun a ha _ => hk hm a ha)
def EntsO (w : World) (N : Nat) (v : Value) (R : List (List Value)) (F : List (Nat × Int)) : Prop :=
 R.length = F.length ∧ ∀ (i : Nat) (r : List Value) (x : Nat × Int), R[i]? = some r → F[i]? = some x → ∃ b A m c, r = [.int .i64 (x.1 : Nat), .bool b, .slice A m c] ∧ Rg w b A m c x.2 ∧ m ≤ N ∧ (0 < m → ∀ ad, A = some ad → v.ownBlock ≠ some ad.block)
theorem EntsO.nil (w : World) (N : Nat) (v : Value) : EntsO w N v [] [] := ⟨rfl, fun i r x h => by simp at h⟩
theorem EntsO.plain {w : World} {N : Nat} {v : Value} {R : List (List Value)} {F : List (Nat × Int)} (h : EntsO w N v R F) : Ents w N R F := ⟨h.1, fun i r x h1 h2 => by
 obtain ⟨b, A, m, c, a1, a2, a3, _⟩ := h.2 i r x h1 h2
 exact ⟨b, A, m, c, a1, a2, a3⟩⟩
theorem EntsO.later {W w : World} {N : Nat} {v : Value} {R : List (List Value)} {F : List (Nat × Int)} (h : EntsO W N v R F) (hl : Lat W w) : EntsO w N v R F := ⟨h.1, fun i r x h1 h2 => by
 obtain ⟨b, A, m, c, a1, a2, a3, a4⟩ := h.2 i r x h1 h2
 exact ⟨b, A, m, c, a1, a2.later hl, a3, a4⟩⟩
theorem zm2 {w : World} {B m : Nat} {E : TypeId} {v : Value} {xs : List (List Value)} (h : OwnM w B E m v xs) {g : Nat} (hg : v.ownBlock = some g) : B ≤ g ∧ g < w.heap.size := by
 rcases h.2.2 with ⟨rfl, _⟩ | ⟨g', cap, cur, rfl, hb, hh, _⟩
 ·cases hg
 ·have : g' = g := by simpa [Value.ownBlock] using hg
  subst this
  refine ⟨hb, ?_⟩
  rcases Nat.lt_or_ge g' w.heap.size with h1 | h1
  ·exact h1
  ·rw [Array.getElem?_eq_none h1] at hh; cases hh
theorem zfo {P : Program} {ops : Array Oper} {o : Oper} {a : Act} {K : Act → World → Prop} {Q : Exit → Act → World → Prop} {E0 : Prop} (hgd : o.guard = none) (s x : Operand) (t : TypeId)
  (ho : o.op = .call { callee := .builtin .append, args := #[s, x], argTypes := #[t, t] }) (E : TypeId) (ht : P.underlying t = some (.slice E)) (hinfo : (P.info? E).map (fun i => (i.zero, i.size, i.bytes)) = some (some (.agg #[.int .i64 0, .bool false, .slice none 0 0]), 3, 40))
  (B : Nat) (v : Value) (R : List (List Value)) (F : List (Nat × Int)) (N : Nat) (w : World) (u : Nat) (z : Int) (b : Bool) (A : Option Addr) (m c gy : Nat) (hs : a.eval s = v) (hown : OwnM w B E 3 v R) (hE : EntsO w N v R F)
  (hb : Blk w gy E #[.int .i64 (u : Nat), .bool b, .slice A m c]) (hx : a.eval x = .slice (some ⟨gy, 0, none⟩) 1 1) (hr : Rg w b A m c z) (hm : m ≤ N) (hoff : 0 < m → ∀ ad, A = some ad → v.ownBlock ≠ some ad.block) (hlen : R.length ≤ 1000000) (hB : B ≤ w.heap.size)
  (h : ∀ v' w', OwnM w' B E 3 v' (R ++ [[.int .i64 (u : Nat), .bool b, .slice A m c]]) → EntsO w' N v' (R ++ [[.int .i64 (u : Nat), .bool b, .slice A m c]]) (F ++ [(u, z)]) → (∀ W0, Lat W0 w → W0.heap.size ≤ B → Lat W0 w') → K (a.put o.dst v') w') :
  if Region.wanted o (yielded ops a.tmps) = true then Oper.wp P o a w K Q else E0 := by
 obtain ⟨i0, hi, hz0, hz1, hz2⟩ := info_parts hinfo
 refine step_append_lies w hgd s x t ho B E i0 _ 3 40 ht hi hz0 hz1 hz2 rfl (by decide) v R.length R.flatten hs hown.2 ⟨gy, 0, none⟩ 1 1 [.int .i64 (u : Nat), .bool b, .slice A m c] hx rfl ?_ (by simp [Value.oneCell']) (by decide) ?_ ?_ hB _ rfl ?_
 ·intro j y hy
  have e : (⟨gy, 0, none⟩ : Addr).add j = ⟨gy, j, none⟩ := by unfold Addr.add; split <;> simp_all
  rw [e, hb.cell j]
  simpa using hy
 ·unfold maxLen; omega
 ·omega
 ·intro q cap w' h1 h2 h3 _
  have keep : ∀ {b A m c z}, Rg w b A m c z → (0 < m → ∀ ad, A = some ad → v.ownBlock ≠ some ad.block) → Rg w' b A m c z ∧ (0 < m → ∀ ad, A = some ad → (Value.slice (some ⟨q, 0, none⟩) (R.length + 1) cap).ownBlock ≠ some ad.block) := by
   intro b A m c z hr hoff
   refine ⟨hr.keptN h2.size (fun hm ad ha => h2.block _ (hr.lt hm ad ha) (fun e => hoff hm ad ha e.symm)), fun hm ad ha e => ?_⟩
   have e2 : q = ad.block := by simpa [Value.ownBlock] using e
   rcases h3 with h3 | h3
   ·exact hoff hm ad ha (by rw [h3, e2])
   ·have := hr.lt hm ad ha; omega
  refine h _ w' ⟨fun y hy => ?_, by rw [List.length_append, List.flatten_append]; simpa using h1⟩ ⟨by simp [hE.1], fun i r y hr1 hy1 => ?_⟩ (fun W0 hl hle => hown.lat hl hle h2)
  ·rcases List.mem_append.1 hy with hy | hy
   ·exact hown.1 y hy
   ·rw [List.mem_singleton] at hy; rw [hy]; rfl
  ·rcases Nat.lt_or_ge i R.length with hi | hi
   ·rw [List.getElem?_append_left hi] at hr1
    rw [List.getElem?_append_left (by have := hE.1; omega)] at hy1
    obtain ⟨b', A', m', c', a1, a2, a3, a4⟩ := hE.2 i r y hr1 hy1
    obtain ⟨k1, k2⟩ := keep a2 a4
    exact ⟨b', A', m', c', a1, k1, a3, k2⟩
   ·rw [List.getElem?_append_right hi] at hr1
    rw [List.getElem?_append_right (by have := hE.1; omega)] at hy1
    have h0 : i - R.length = 0 := by
     rcases Nat.eq_zero_or_pos (i - R.length) with h0 | h0
     ·exact h0
     ·rw [List.getElem?_eq_none (by simp; omega)] at hr1; cases hr1
    rw [h0] at hr1
    rw [← hE.1, h0] at hy1
    cases hr1; cases hy1
    obtain ⟨k1, k2⟩ := keep hr hoff
    exact ⟨b, A, m, c, rfl, k1, hm, k2⟩
theorem zbx {P : Program} {ops : Array Oper} {rest : List Oper} {o : Oper} {a : Act} {Q : Exit → Act → World → Prop} (hgd : o.guard = none) (s x : Operand) (t : TypeId)
  (ho : o.op = .call { callee := .builtin .append, args := #[s, x], argTypes := #[t, t] }) (E : TypeId) (ht : P.underlying t = some (.slice E)) (hinfo : (P.info? E).map (fun i => (i.zero, i.size, i.bytes)) = some (some (.agg #[.int .i64 0, .bool false, .slice none 0 0]), 3, 40))
  (B : Nat) (v : Value) (R : List (List Value)) (F : List (Nat × Int)) (N : Nat) (w : World) (u : Nat) (z : Int) (b : Bool) (A : Option Addr) (m c : Nat) (hs : a.eval s = v) (hown : OwnM w B E 3 v R) (hE : EntsO w N v R F)
  (hx : a.eval x = .slice (some ⟨w.heap.size, 0, none⟩) 1 1) (hr : Rg w b A m c z) (hm : m ≤ N) (hoff : 0 < m → ∀ ad, A = some ad → v.ownBlock ≠ some ad.block) (hlen : R.length ≤ 1000000) (hB : B ≤ w.heap.size)
  (h : ∀ v' w', OwnM w' B E 3 v' (R ++ [[.int .i64 (u : Nat), .bool b, .slice A m c]]) → EntsO w' N v' (R ++ [[.int .i64 (u : Nat), .bool b, .slice A m c]]) (F ++ [(u, z)]) → (∀ W0, Lat W0 w → W0.heap.size ≤ B → Lat W0 w') → wpList P ops Q rest (a.put o.dst v') w') :
  wpList P ops Q (o :: rest) a (w.alloc (.cells #[.int .i64 (u : Nat), .bool b, .slice A m c] E)) := by
 refine wpList_plain hgd fun K hK => ?_
 have la := Lat.alloc w (.cells #[.int .i64 (u : Nat), .bool b, .slice A m c] E)
 have := zfo (ops := #[]) (K := K) (Q := Q) (E0 := False) hgd s x t ho E ht hinfo B v R F N _ u z b A m c w.heap.size hs (hown.later la) (hE.later la) (Blk.new _ _ _) hx (hr.later la) hm hoff hlen (Nat.le_trans hB la.size) (fun v' w' h1 h2 h3 => hK _ _ (h v' w' h1 h2 (fun W0 hl hle => h3 W0 (hl.trans la) hle)))
 rwa [if_pos (by simp [Region.wanted, hgd])] at this
def zhG (u : Nat) (z : Int) (d : Bool) (E : List (Nat × Int)) : List (Nat × Int) := if d then E else zdG u z E
theorem zk2 (u : Nat) (z : Int) {E F : List (Nat × Int)} {k : Nat} {x : Nat × Int} {T : List (Nat × Int)} (h : T = F ++ zhG u z true (E.drop k)) (hx : E[k]? = some x) : T = F ++ [x] ++ zhG u z true (E.drop (k + 1)) := by
 obtain ⟨h1, h2⟩ := List.getElem?_eq_some_iff.1 hx
 rw [h]
 simp only [zhG, if_true]
 rw [List.drop_eq_getElem_cons h1, h2]
 simp
theorem zk3 {u : Nat} {z : Int} {E F : List (Nat × Int)} {k : Nat} {x : Nat × Int} {T : List (Nat × Int)} (h : T = F ++ zhG u z false (E.drop k)) (hx : E[k]? = some x) (hu : x.1 = u) : T = F ++ [(u, x.2 + z)] ++ zhG u z true (E.drop (k + 1)) := by
 obtain ⟨h1, h2⟩ := List.getElem?_eq_some_iff.1 hx
 rw [h]
 simp only [zhG, if_true, Bool.false_eq_true, if_false]
 rw [List.drop_eq_getElem_cons h1, h2]
 simp only [zdG]
 rw [if_pos hu, hu]
 simp
theorem zk4 {u : Nat} {z : Int} {E F : List (Nat × Int)} {k : Nat} {x : Nat × Int} {T : List (Nat × Int)} (h : T = F ++ zhG u z false (E.drop k)) (hx : E[k]? = some x) (hu : u < x.1) : T = F ++ [(u, z)] ++ [x] ++ zhG u z true (E.drop (k + 1)) := by
 obtain ⟨h1, h2⟩ := List.getElem?_eq_some_iff.1 hx
 rw [h]
 simp only [zhG, if_true, Bool.false_eq_true, if_false]
 rw [List.drop_eq_getElem_cons h1, h2]
 simp only [zdG]
 rw [if_neg (by omega), if_pos hu]
 simp
theorem znF {u : Nat} {z : Int} {E F : List (Nat × Int)} {k : Nat} {x : Nat × Int} {T : List (Nat × Int)} (h : T = F ++ zhG u z false (E.drop k)) (hx : E[k]? = some x) (hu : x.1 < u) : T = F ++ [x] ++ zhG u z false (E.drop (k + 1)) := by
 obtain ⟨h1, h2⟩ := List.getElem?_eq_some_iff.1 hx
 rw [h]
 simp only [zhG, if_true, Bool.false_eq_true, if_false]
 rw [List.drop_eq_getElem_cons h1, h2]
 simp only [zdG]
 rw [if_neg (by omega), if_neg (by omega)]
 simp
def znG (w : World) (N : Nat) (E : List (Nat × Int)) (e : Ending) (w' : World) : Prop := ∃ v R, e = .returned v ∧ OwnM w' w.heap.size 84 3 v R ∧ Hid (Ents w' N R E) ∧ Lat w w'
theorem zhH {w : World} {B : Nat} {R : List (List Value)} {v : Value} {W : World} {E : TypeId} (hown : OwnM w B E 3 v R) (hB : W.heap.size ≤ B) {b : Bool} {A : Option Addr} {m c : Nat} {z : Int} (hr : Rg W b A m c z) : 0 < m → ∀ ad, A = some ad → v.ownBlock ≠ some ad.block := fun hm ad ha e => by
 have := (zm2 hown e).1
 have := hr.lt hm ad ha
 omega
theorem znH {w : World} {B : Nat} {R : List (List Value)} {v : Value} {E : TypeId} (hown : OwnM w B E 3 v R) {A : Option Addr} {m : Nat} (h : ∀ a, A = some a → w.heap.size ≤ a.block) : 0 < m → ∀ ad, A = some ad → v.ownBlock ≠ some ad.block := fun _ ad ha e => by
 have := (zm2 hown e).2
 have := h ad ha
 omega
theorem zk5 (A : Option Addr) (n c : Nat) (R : List (List Value)) (E : List (Nat × Int)) (N : Nat) (u : Nat) (b : Bool) (B : Option Addr) (m c2 : Nat) (z : Int) (w : World) (hs : RowM w A 3 n R) (he : Ents w N R E) (hr : Rg w b B m c2 z) (hm : m ≤ N) (hN : N ≤ 100000) (hn : n ≤ 100000) :
  Calls Tryz.prog 28 #[.slice A n c, .int .i64 (u : Nat), .agg #[.bool b, .slice B m c2]] w (znG w (N + 1) (zdG u z E)) := by
 have HS := Lib.hid hs
 have HE := Lib.hid he
 have HR := Lib.hid hr
 have HL := Lib.hid (E_len hs he)
 have HM : Hid (m ≤ N ∧ N ≤ 100000 ∧ n ≤ 100000) := ⟨hm, hN, hn⟩
 obtain ⟨T, hT⟩ : ∃ T, zdG u z E = T := ⟨_, rfl⟩
 have HT := Lib.hid hT.symm
 rw [hT]
 clear hs he hr hm hN hn hT
 go_enter Tryz.func28, Tryz.ntmps28
 go_upto_region 1 with (fail)
 refine zas (Q := fun W => Code.wp _ _ _ _ W) ?_
 intro W1 l1 s1 k5
 obtain ⟨g5, hg5⟩ : ∃ z, w.heap.size = z := ⟨_, rfl⟩
 rw [hg5] at k5 s1 ⊢
 have HG5 := Lib.hid hg5
 have L1 := Lib.hid l1
 have HR1 := Lib.hid (HR.out.later l1)
 clear hg5 l1
 go_wp2
 go_loopw [7, 8, 9] (fun ov dv iv wr => ∃ (k : Nat) (d : Bool) (F : List (Nat × Int)) (R' : List (List Value)), k ≤ n ∧ iv = .int .i64 (k : Nat) ∧ dv = .bool d ∧ OwnM wr W1.heap.size 84 3 ov R' ∧ Hid (EntsO wr (N + 1) ov R' F ∧ T = F ++ zhG u z d (E.drop k) ∧ F.length ≤ 2 * k) ∧ Lat W1 wr) (fun _ _ iv _ => n - (RowKit.intOf iv).toNat)
 case atStart => exact ⟨0, false, [], [], Nat.zero_le _, rfl, rfl, OwnM.nil _ _ _ _, ⟨EntsO.nil _ _ _, by rw [HT.out]; rfl, by simp⟩, Lat.refl _⟩
 case round =>
  obtain ⟨k, d, F, R', hk, rfl, rfl, hown, hF, hl⟩ := hrel
  have hm3 := HM.out
  have hfl := hF.out.2.2
  have HLEN : Hid (R'.length ≤ 1000000) := by have := hF.out.1.1; show _ ≤ _; omega
  have HOn := zhH hown (Nat.le_refl _) HR1.out
  by_cases hkn : k < n
  ·obtain ⟨g, o, x, bx, Bx, mx, cx, rfl, hg, hx, hrx, hmx, e0, e1, e2⟩ := zf6 (HS.out.later L1.out) (HE.out.later L1.out) hkn
   obtain ⟨ux, zx⟩ := x
   simp only at e0 hrx
   have HO := zhH hown (Nat.le_refl _) hrx
   have hkI : (k : Int) < (n : Int) := by omega
   have hk0 : (0 : Int) ≤ (k : Int) := by omega
   have wk : wrap64 ((k : Int) + 1) = (k : Int) + 1 := IntWalk.wrap64_in _ (by omega)
   have HKN := Lib.hid hkn
   have HX := Lib.hid hx
   have HE0 := Lib.hid e0
   have HE1 := Lib.hid e1
   have HE2 := Lib.hid e2
   have c0 := e0 wr hl
   have c1 := e1 wr hl
   have c2' := e2 wr hl
   clear hkn hx e0 e1 e2 hk
   cases d
   ·have k6 := k5.later hl
    have d0 := k6.cell 0
    have d1 := k6.cell 1
    rcases Nat.lt_trichotomy ux u with hu | hu | hu
    ·have hq : ((ux : Int) == (u : Int)) = false := by rw [beq_eq_false_iff_ne]; omega
     have hq2 : ¬ (u : Int) < (ux : Int) := by omega
     have hF2 := Lib.hid (znF hF.out.2.1 HX.out hu)
     clear hu
     as_aux_lemma =>
     go_wp2_with (at_builtin; refine zbx rfl _ _ 70 (by rfl) 84 Tryz.underlying70 zdy W1.heap.size _ R' F (N + 1) wr ux zx bx Bx mx cx (by rfl) hown hF.out.1 (by rfl) (hrx.later hl) (by omega) HO HLEN.out hl.size ?_; intro v' w' h1 h2 h3)
     have L9 := h3 W1 hl (Nat.le_refl _)
     have H2 := Lib.hid h2
     have HFL := Lib.hid hfl
     clear h2 h3 hF HO HOn hown c0 c1 c2' d0 d1 hfl hm3
     go_roundw
     case rel => exact ⟨k + 1, false, _, _, HKN.out, by first | exact zac k | (rw [wk]; exact zac k), rfl, h1, ⟨H2.out, hF2.out, by have := HFL.out; simp; omega⟩, L9⟩
     case measure => first | exact zar HKN.out | (rw [wk]; exact zar HKN.out)
    ·have hu' := hu.symm
     subst hu'
     have hq : ((u : Int) == (u : Int)) = true := by simp
     have hF2 := Lib.hid (zk3 hF.out.2.1 HX.out rfl)
     have HD0 := Lib.hid (k5.ever 0 rfl)
     have HD1 := Lib.hid (k5.ever 1 rfl)
     clear hu k6 k5
     as_aux_lemma =>
     go_upto_region 7 with (fail)
     clear d0 d1 c0 c1 c2'
     have hu1 := HE1.out
     have hu2 := HE2.out
     have hv0 := HD0.out
     have hv1 := HD1.out
     have L0 := hl.trans (Lat.drew wr)
     have hown0 := hown.later (Lat.drew wr)
     have hE0 := Lib.hid (hF.out.1.later (Lat.drew wr))
     have HFL := Lib.hid hfl
     clear hF HO HOn hfl hown
     go_region_held3 (fun w' => Lat W1 w') (first | (with_reducible assumption) | ((repeat (first | (with_reducible assumption) | (with_reducible exact Lat.refl _) | (with_reducible refine Lat.trans ?_ (Lat.alloc _ _)) | (with_reducible refine Lat.trans ?_ (Lat.drew _))))))
      (first
        | (go_at_call 72
           refine (zk1 bx Bx mx cx zx b B m c2 z _ (hrx.later L0) (HR1.out.later L0) (by omega) (by omega)).mono ?_
           rintro e w6 ⟨b6, A6, m6, c6, rfl, p1, p2, p3, p4⟩
           have L6 := L0.trans p3
           have hown6 := hown0.later p3
           have HO6 := znH (m := m6) hown0 p4
           have hE6 := Lib.hid (hE0.out.later p3)
           have hsz6 := L6.size)
        | (refine zfo rfl _ _ 70 (by rfl) 84 Tryz.underlying70 zdy W1.heap.size _ R' F (N + 1) (w6.alloc (.cells #[.int .i64 (u : Nat), .bool b6, .slice A6 m6 c6] 84)) u (zx + z) b6 A6 m6 c6 w6.heap.size (by rfl) (hown6.later (Lat.alloc _ _)) (hE6.out.later (Lat.alloc _ _)) (Blk.new _ _ _) (by rfl) (p1.later (Lat.alloc _ _)) (by omega) HO6 HLEN.out (by simp; omega) ?_
           intro v' w' h1 h2 h3
           have L9 := h3 W1 (L6.trans (Lat.alloc _ _)) (Nat.le_refl _)
           have H2 := Lib.hid h2
           clear h3 h2))
     clear hu1 hu2 hv0 hv1
     go_wp2
     go_roundw
     case rel => exact ⟨k + 1, true, _, _, HKN.out, by first | exact zac k | (rw [wk]; exact zac k), rfl, h1, ⟨H2.out, hF2.out, by have := HFL.out; simp; omega⟩, L9⟩
     case measure => first | exact zar HKN.out | (rw [wk]; exact zar HKN.out)
    ·have hq : ((ux : Int) == (u : Int)) = false := by rw [beq_eq_false_iff_ne]; omega
     have hq2 : (u : Int) < (ux : Int) := by omega
     have hF2 := Lib.hid (zk4 hF.out.2.1 HX.out hu)
     clear hu
     as_aux_lemma =>
     go_wp2_with (first
      | (at_builtin; refine zbx rfl _ _ 70 (by rfl) 84 Tryz.underlying70 zdy W1.heap.size _ R' F (N + 1) wr u z b B m c2 (by rfl) hown hF.out.1 (by rfl) (HR1.out.later hl) (by omega) HOn HLEN.out hl.size ?_; intro v1 w1 h1 h2 h3
         have M1 := h3 W1 hl (Nat.le_refl _)
         have h2 := Lib.hid h2
         have HO2 := zhH h1 (Nat.le_refl _) hrx
         have HLEN1 : Hid ((R' ++ [[Value.int .i64 (u : Nat), .bool b, .slice B m c2]]).length ≤ 1000000) := by have := hF.out.1.1; show _ ≤ _; rw [List.length_append]; simp; omega
         clear c0 c1 c2' d0 d1
         have c0 := HE0.out w1 M1
         have c1 := HE1.out w1 M1
         have c2' := HE2.out w1 M1)
      | (at_builtin; refine zbx rfl _ _ 70 (by rfl) 84 Tryz.underlying70 zdy W1.heap.size _ _ (F ++ [(u, z)]) (N + 1) w1 ux zx bx Bx mx cx (by rfl) h1 h2.out (by rfl) (hrx.later M1) (by omega) HO2 HLEN1.out M1.size ?_; intro v' w' i1 i2 i3))
     have HFL := Lib.hid hfl
     clear h3 hF HO HOn hown hfl
     have L9 := i3 W1 M1 (Nat.le_refl _)
     have H2 := Lib.hid i2
     clear i2 i3 HO2 h1 h2 c0 c1 c2' hm3
     go_roundw
     case rel => exact ⟨k + 1, true, _, _, HKN.out, by first | exact zac k | (rw [wk]; exact zac k), rfl, i1, ⟨H2.out, hF2.out, by have := HFL.out; simp; omega⟩, L9⟩
     case measure => first | exact zar HKN.out | (rw [wk]; exact zar HKN.out)
   ·have hF2 := Lib.hid (zk2 u z hF.out.2.1 HX.out)
    as_aux_lemma =>
    go_wp2_with (at_builtin; refine zbx rfl _ _ 70 (by rfl) 84 Tryz.underlying70 zdy W1.heap.size _ R' F (N + 1) wr ux zx bx Bx mx cx (by rfl) hown hF.out.1 (by rfl) (hrx.later hl) (by omega) HO HLEN.out hl.size ?_; intro v' w' h1 h2 h3)
    have L9 := h3 W1 hl (Nat.le_refl _)
    have H2 := Lib.hid h2
    have HFL := Lib.hid hfl
    clear h2 h3 hF HO HOn hown c0 c1 c2' hfl hm3
    go_roundw
    case rel => exact ⟨k + 1, true, _, _, HKN.out, by first | exact zac k | (rw [wk]; exact zac k), rfl, h1, ⟨H2.out, hF2.out, by have := HFL.out; simp; omega⟩, L9⟩
    case measure => first | exact zar HKN.out | (rw [wk]; exact zar HKN.out)
  ·obtain rfl : k = n := by omega
   have hge : ¬ (k : Int) < (k : Int) := Int.lt_irrefl _
   have hdr : E.drop k = [] := List.drop_eq_nil_of_le (by have := HL.out; omega)
   have hTT := hF.out.2.1
   rw [hdr] at hTT
   have hsz : w.heap.size ≤ W1.heap.size := L1.out.size
   cases d
   ·have k6 := k5.later hl
    have d0 := k6.cell 0
    have d1 := k6.cell 1
    have HTT : Hid (T = F ++ [(u, z)]) := by show _ = _; rw [hTT]; simp [zhG, zdG]
    clear hTT hdr
    as_aux_lemma =>
    go_wp2_with (at_builtin; refine zbx rfl _ _ 70 (by rfl) 84 Tryz.underlying70 zdy W1.heap.size _ R' F (N + 1) wr u z b B m c2 (by rfl) hown hF.out.1 (by rfl) (HR1.out.later hl) (by omega) HOn HLEN.out hl.size ?_; intro v' w' h1 h2 h3)
    have L9 := h3 W1 hl (Nat.le_refl _)
    have H2 := Lib.hid h2
    have HO9 := Lib.hid (h1.base hsz)
    have LF := Lib.hid (L1.out.trans L9)
    clear h2 h3 hF HOn hown d0 d1 hfl hm3 h1
    go_ret
    refine ⟨_, _, rfl, HO9.out, ?_, LF.out⟩
    rw [HTT.out]
    exact H2.out.plain
   ·have HTT : Hid (T = F) := by show _ = _; rw [hTT]; simp [zhG]
    clear hTT hdr
    as_aux_lemma =>
    have HO9 := Lib.hid (hown.base hsz)
    have LF := Lib.hid (L1.out.trans hl)
    have H2 := Lib.hid hF.out.1
    clear hF HOn hown hfl hm3
    go_wp2
    go_ret
    refine ⟨_, _, rfl, HO9.out, ?_, LF.out⟩
    rw [HTT.out]
    exact H2.out.plain
end Go.Proofs.YtpmbglhbcjbkcaaGreat
